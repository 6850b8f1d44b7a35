import Derived.Test.YtblafakafgediaaH32
namespace Go.Proofs.Ytblafakafgediaa
open Go.RowKit Go.Proofs.Dm

theorem DC.ext {x y : DC} (h1 : x.S = y.S) (h2 : x.R = y.R) (h3 : x.k = y.k) : x = y := by
  cases x; cases y; cases h1; cases h2; cases h3; rfl
theorem take_more {α : Type} {xs ys : List α} {j : Nat} {x : α} (h : xs.take j = ys.take j) (hx : xs[j]? = some x) (hy : ys[j]? = some x) : xs.take (j + 1) = ys.take (j + 1) := by
  rw [List.take_add_one, List.take_add_one, h, hx, hy]
set_option maxRecDepth 100000 in
set_option maxHeartbeats 1600000 in
theorem c7same_any (w : World) (A B : Option Addr) (n c m d : Nat) (xs ys : List DC) (hA : Sl w A (dcc xs)) (hB : Sl w B (dcc ys)) (hn : n = xs.length) (hm : m = ys.length) (h6 : n ≤ 1000000) (h7 : m ≤ 1000000) :
    Calls Try.prog 70 #[.slice A n c, .slice B m d] w fun e w' => (∃ b, e = .returned (.bool b) ∧ (b = true ↔ xs = ys)) ∧ Fr [] w w' := by
  have HA := Lib.hid hA
  have HB := Lib.hid hB
  have HN := Lib.hid hn
  have HM := Lib.hid hm
  by_cases hnm : n = m
  · subst hnm
    clear hA hB hn hm h7
    go_enter Try.func70, Try.ntmps70
    go_wp2_with fail
    go_loopw [13] (fun iv wr => ∃ (j : Nat), iv = .int .i64 j ∧ j ≤ n ∧ Hid (xs.take j = ys.take j ∧ Fr [] w wr)) (fun iv _ => n - (intOf iv).toNat)
    case atStart => exact ⟨0, rfl, Nat.zero_le _, rfl, Fr.refl _ _⟩
    case round =>
      obtain ⟨j, rfl, hj, HJ⟩ := hrel
      by_cases hlt : j < n
      · have hx1 : j < xs.length := by rw [← HN.out]; exact hlt
        have hy1 : j < ys.length := by rw [← HM.out]; exact hlt
        obtain ⟨bx, hbx, e0, e1⟩ := sl_elem (f := DC.cells) (sz := 3) (fun _ => rfl) (HA.out.fr HJ.out.2 (.inr List.not_mem_nil)) hx1 (by omega)
        obtain ⟨by', hby, g0, g1⟩ := sl_elem (f := DC.cells) (sz := 3) (fun _ => rfl) (HB.out.fr HJ.out.2 (.inr List.not_mem_nil)) hy1 (by omega)
        obtain ⟨x, hx⟩ : ∃ x, x = xs[j] := ⟨_, rfl⟩
        obtain ⟨y, hy⟩ : ∃ y, y = ys[j] := ⟨_, rfl⟩
        rw [← hx] at e0 e1
        rw [← hy] at g0 g1
        subst hbx hby
        have HXY : Hid (xs[j]? = some x ∧ ys[j]? = some y) := ⟨by rw [List.getElem?_eq_getElem hx1, hx], by rw [List.getElem?_eq_getElem hy1, hy]⟩
        obtain ⟨xS, xR, xk⟩ := x
        obtain ⟨yS, yR, yk⟩ := y
        have c0 : wr.cell? (bx.add (j * 3)) = some (.string ⟨xS.toArray⟩) := e0 _ rfl
        have c1 : wr.cell? ⟨(bx.add (j * 3)).block, (bx.add (j * 3)).off + 1, none⟩ = some (.string ⟨xR.toArray⟩) := e1 0 _ rfl
        have c2 : wr.cell? ⟨(bx.add (j * 3)).block, (bx.add (j * 3)).off + 2, none⟩ = some (.bool xk) := e1 1 _ rfl
        have d0 : wr.cell? (by'.add (j * 3)) = some (.string ⟨yS.toArray⟩) := g0 _ rfl
        have d1 : wr.cell? ⟨(by'.add (j * 3)).block, (by'.add (j * 3)).off + 1, none⟩ = some (.string ⟨yR.toArray⟩) := g1 0 _ rfl
        have d2 : wr.cell? ⟨(by'.add (j * 3)).block, (by'.add (j * 3)).off + 2, none⟩ = some (.bool yk) := g1 1 _ rfl
        have i0 : (0 : Int) ≤ (j : Int) := by omega
        have i1 : (j : Int) < (n : Int) := by omega
        clear e0 e1 g0 g1 hx hy hx1 hy1
        by_cases hxy : (⟨xS, xR, xk⟩ : DC) = ⟨yS, yR, yk⟩
        · injection hxy with q1 q2 q3
          subst q1 q2 q3
          go_wp2_with fail
          go_region
          go_wp2_with fail
          go_roundw
          case rel => exact ⟨j + 1, by go_num, by omega, take_more HJ.out.1 HXY.out.1 HXY.out.2, HJ.out.2.drew⟩
          case measure => simp [intOf]; omega
        · have HNE : Hid (¬ xs = ys) := by
            show ¬ _
            intro e
            have h1 := HXY.out.1
            rw [e, HXY.out.2] at h1
            injection h1 with h1
            exact hxy h1.symm
          have hq : ¬ (xS = yS ∧ xR = yR ∧ xk = yk) := fun ⟨a, b, c⟩ => hxy (DC.ext a b c)
          have HQ := Lib.hid hq
          clear hxy HXY hq
          have HF : Hid (Fr [] w wr) := HJ.out.2
          clear HJ
          by_cases q1 : xS = yS
          · subst q1
            by_cases q2 : xR = yR
            · subst q2
              have q3 : ¬ xk = yk := fun e => HQ.out ⟨rfl, rfl, e⟩
              go_wp2_with fail
              go_region
              go_wp2_with fail
              go_ret
              exact ⟨⟨false, rfl, by simpa using HNE.out⟩, HF.out.drew⟩
            · go_wp2_with fail
              go_region
              go_wp2_with fail
              go_ret
              exact ⟨⟨false, rfl, by simpa using HNE.out⟩, HF.out.drew⟩
          · go_wp2_with fail
            go_region
            go_wp2_with fail
            go_ret
            exact ⟨⟨false, rfl, by simpa using HNE.out⟩, HF.out.drew⟩
      · obtain rfl : j = n := by omega
        have HEQ : Hid (xs = ys) := by
          show _ = _
          have := HJ.out.1
          rwa [List.take_of_length_le (by have := HN.out; omega), List.take_of_length_le (by have := HM.out; omega)] at this
        have HF : Hid (Fr [] w wr) := HJ.out.2
        clear HJ
        go_wp2_with fail
        go_ret
        exact ⟨⟨true, rfl, by simpa using HEQ.out⟩, HF.out⟩
  · have h1 : ¬ (n : Int) = (m : Int) := by omega
    have HNE : Hid (¬ xs = ys) := by
      show ¬ _
      intro e
      rw [e] at hn
      exact hnm (hn.trans hm.symm)
    clear hA hB hn hm hnm
    go_enter Try.func70, Try.ntmps70
    go_wp2_with fail
    go_ret
    exact ⟨⟨false, rfl, by simpa using HNE.out⟩, Fr.refl _ _⟩
end Go.Proofs.Ytblafakafgediaa
namespace Go.Proofs.Ytblafakafgediaa
open Go.RowKit Go.Proofs.Dm

def SameAns (p : Prop) (w : World) (e : Ending) (w' : World) : Prop := (∃ b, e = .returned (.bool b) ∧ (b = true ↔ p)) ∧ Fr [] w w'
set_option maxRecDepth 100000 in
set_option maxHeartbeats 1600000 in
theorem r8same_any (w : World) (x y : RD) (hx : RDAt x w) (hy : RDAt y w) (h6 : x.m ≤ 1000000) (h7 : y.m ≤ 1000000) :
    Calls Try.prog 34 #[.agg #[.slice x.B x.m x.d, .int .i64 x.e, .bool x.h], .agg #[.slice y.B y.m y.d, .int .i64 y.e, .bool y.h]] w (SameAns (x.pic = y.pic) w) := by
  obtain ⟨A, n, c, xs, xe, xh⟩ := x
  obtain ⟨B, m, d, ys, ye, yh⟩ := y
  obtain ⟨W1, hW1⟩ : ∃ W1, W1 = (w.alloc (.cells #[.slice A n c, .int .i64 xe, .bool xh] TD8)).alloc (.cells #[.slice B m d, .int .i64 ye, .bool yh] TD8) := ⟨_, rfl⟩
  have HW : Hid (Fr [] w W1 ∧ Blk W1 w.heap.size TD8 #[.slice A n c, .int .i64 xe, .bool xh] ∧ Blk W1 (w.heap.size + 1) TD8 #[.slice B m d, .int .i64 ye, .bool yh]) := by
    have b2 := Blk.new (w.alloc (.cells #[.slice A n c, .int .i64 xe, .bool xh] TD8)) TD8 #[.slice B m d, .int .i64 ye, .bool yh]
    rw [World.size_alloc] at b2
    rw [hW1]
    exact ⟨((Fr.refl [] w).alloc _).alloc _, (Blk.new w TD8 _).alloc _, b2⟩
  have HC : Hid (∀ w', Fr [] w w' → Calls Try.prog 70 #[.slice A n c, .slice B m d] w' fun e w'' => (∃ b, e = .returned (.bool b) ∧ (b = true ↔ xs = ys)) ∧ Fr [] w' w'') := by
    show ∀ _, _
    intro w' hf
    exact c7same_any w' A B n c m d xs ys (hx.1.fr hf (.inr List.not_mem_nil)) (hy.1.fr hf (.inr List.not_mem_nil)) hx.2 hy.2 h6 h7
  have HEND : Hid (∀ b w', (b = true ↔ (xs = ys ∧ xe = ye ∧ xh = yh)) → Fr [] w w' → SameAns (((⟨A, n, c, xs, xe, xh⟩ : RD).pic) = (⟨B, m, d, ys, ye, yh⟩ : RD).pic) w (.returned (.bool b)) w') := by
    show ∀ _, _
    intro b w' hb hf
    refine ⟨⟨b, rfl, hb.trans ?_⟩, hf⟩
    simp [RD.pic]
  have HW1 := Lib.hid hW1
  clear hx hy h6 h7 hW1
  by_cases h1 : xe = ye
  · subst h1
    by_cases h2 : xh = yh
    · subst h2
      go_enter Try.func34, Try.ntmps34
      go_wp2_with fail
      rw [← HW1.out]
      refine (HC.out W1 HW.out.1).mono ?_
      rintro e w2 ⟨⟨b, rfl, hb⟩, hf⟩
      have HE2 : Hid (SameAns (((⟨A, n, c, xs, xe, xh⟩ : RD).pic) = (⟨B, m, d, ys, xe, xh⟩ : RD).pic) w (.returned (.bool b)) w2) := HEND.out b w2 (by rw [hb]; simp) (HW.out.1.trans hf)
      clear hb hf
      go_wp2_with fail
      go_ret
      exact HE2.out
    · have HE2 : Hid (SameAns (((⟨A, n, c, xs, xe, xh⟩ : RD).pic) = (⟨B, m, d, ys, xe, yh⟩ : RD).pic) w (.returned (.bool false)) W1) := HEND.out false W1 (by simp [h2]) HW.out.1
      go_enter Try.func34, Try.ntmps34
      go_wp2_with fail
      go_ret
      rw [← HW1.out]
      exact HE2.out
  · have HE2 : Hid (SameAns (((⟨A, n, c, xs, xe, xh⟩ : RD).pic) = (⟨B, m, d, ys, ye, yh⟩ : RD).pic) w (.returned (.bool false)) W1) := HEND.out false W1 (by simp [h1]) HW.out.1
    go_enter Try.func34, Try.ntmps34
    go_wp2_with fail
    go_ret
    rw [← HW1.out]
    exact HE2.out
end Go.Proofs.Ytblafakafgediaa
namespace Go.Proofs.Ytblafakafgediaa
open Go.RowKit Go.Proofs.Dm

/-- The document's grid as it lies. -/
structure GD where
  B : Option Addr
  m : Nat
  d : Nat
  rs : List RD
  t : Bool
  e : Int
def GD.v (g : GD) : Value := .agg #[.slice g.B g.m g.d, .bool g.t, .int .i64 g.e]
def GDAt (g : GD) (w : World) : Prop := Sl w g.B (rdc g.rs) ∧ g.m = g.rs.length ∧ ∀ x ∈ g.rs, RDAt x w
def GD.pic (g : GD) : List (List DC × Int × Bool) × Bool × Int := (g.rs.map RD.pic, g.t, g.e)
set_option maxRecDepth 100000 in
set_option maxHeartbeats 1600000 in
theorem g11same_any (w : World) (x y : GD) (hx : GDAt x w) (hy : GDAt y w) (h6 : x.m ≤ 100000) (h7 : y.m ≤ 100000) (hxs : ∀ r ∈ x.rs, r.m ≤ 1000000) (hys : ∀ r ∈ y.rs, r.m ≤ 1000000) :
    Calls Try.prog 10 #[x.v, y.v] w (SameAns (x.pic = y.pic) w) := by
  obtain ⟨A, n, c, xs, xt, xen⟩ := x
  obtain ⟨B, m, d, ys, yt, yen⟩ := y
  show Calls Try.prog 10 #[.agg #[.slice A n c, .bool xt, .int .i64 xen], .agg #[.slice B m d, .bool yt, .int .i64 yen]] w _
  obtain ⟨W1, hW1⟩ : ∃ W1, W1 = (w.alloc (.cells #[.slice A n c, .bool xt, .int .i64 xen] TD11)).alloc (.cells #[.slice B m d, .bool yt, .int .i64 yen] TD11) := ⟨_, rfl⟩
  have HW : Hid (Fr [] w W1 ∧ Blk W1 w.heap.size TD11 #[.slice A n c, .bool xt, .int .i64 xen] ∧ Blk W1 (w.heap.size + 1) TD11 #[.slice B m d, .bool yt, .int .i64 yen]) := by
    have b2 := Blk.new (w.alloc (.cells #[.slice A n c, .bool xt, .int .i64 xen] TD11)) TD11 #[.slice B m d, .bool yt, .int .i64 yen]
    rw [World.size_alloc] at b2
    rw [hW1]
    exact ⟨((Fr.refl [] w).alloc _).alloc _, (Blk.new w TD11 _).alloc _, b2⟩
  have HA : Hid (Sl w A (rdc xs) ∧ n = xs.length ∧ (∀ r ∈ xs, RDAt r w) ∧ ∀ r ∈ xs, r.m ≤ 1000000) := ⟨hx.1, hx.2.1, hx.2.2, hxs⟩
  have HB : Hid (Sl w B (rdc ys) ∧ m = ys.length ∧ (∀ r ∈ ys, RDAt r w) ∧ ∀ r ∈ ys, r.m ≤ 1000000) := ⟨hy.1, hy.2.1, hy.2.2, hys⟩
  have HEND : Hid (∀ b w', (b = true ↔ (xs.map RD.pic = ys.map RD.pic ∧ xt = yt ∧ xen = yen)) → Fr [] w w' → SameAns (((⟨A, n, c, xs, xt, xen⟩ : GD).pic) = (⟨B, m, d, ys, yt, yen⟩ : GD).pic) w (.returned (.bool b)) w') := by
    show ∀ _, _
    intro b w' hb hf
    refine ⟨⟨b, rfl, hb.trans ?_⟩, hf⟩
    simp [GD.pic]
  have HW1 := Lib.hid hW1
  simp only at h6 h7
  clear hx hy hxs hys hW1
  by_cases h0 : n = m
  · subst h0
    by_cases h1 : xt = yt
    · subst h1
      by_cases h2 : xen = yen
      · subst h2
        have X0 : W1.cell? ⟨w.heap.size, 0, none⟩ = some (.slice A n c) := HW.out.2.1.cell 0
        go_enter Try.func10, Try.ntmps10
        go_wp2_with fail
        rw [← HW1.out]
        go_loopw [30] (fun iv wr => ∃ (j : Nat), iv = .int .i64 j ∧ j ≤ n ∧ Hid ((xs.map RD.pic).take j = (ys.map RD.pic).take j ∧ Fr [] W1 wr)) (fun iv _ => n - (intOf iv).toNat)
        case atStart => exact ⟨0, rfl, Nat.zero_le _, rfl, Fr.refl _ _⟩
        case round =>
          obtain ⟨j, rfl, hj, HJ0⟩ := hrel
          have HJ : Hid ((xs.map RD.pic).take j = (ys.map RD.pic).take j ∧ Fr [] w wr) := ⟨HJ0.out.1, HW.out.1.trans HJ0.out.2⟩
          by_cases hlt : j < n
          · have hx1 : j < xs.length := by rw [← HA.out.2.1]; exact hlt
            have hy1 : j < ys.length := by rw [← HB.out.2.1]; exact hlt
            obtain ⟨bx, hbx, e0, e1⟩ := sl_elem (f := RD.cells) (sz := 3) (fun _ => rfl) (HA.out.1.fr HJ.out.2 (.inr List.not_mem_nil)) hx1 (by omega)
            obtain ⟨by', hby, g0, g1⟩ := sl_elem (f := RD.cells) (sz := 3) (fun _ => rfl) (HB.out.1.fr HJ.out.2 (.inr List.not_mem_nil)) hy1 (by omega)
            obtain ⟨x, hx⟩ : ∃ x, x = xs[j] := ⟨_, rfl⟩
            obtain ⟨y, hy⟩ : ∃ y, y = ys[j] := ⟨_, rfl⟩
            rw [← hx] at e0 e1
            rw [← hy] at g0 g1
            subst hbx hby
            have HXY : Hid (xs[j]? = some x ∧ ys[j]? = some y) := ⟨by rw [List.getElem?_eq_getElem hx1, hx], by rw [List.getElem?_eq_getElem hy1, hy]⟩
            have hxm : x ∈ xs := List.mem_of_getElem? HXY.out.1
            have hym : y ∈ ys := List.mem_of_getElem? HXY.out.2
            have HC : Hid (∀ w', Fr [] wr w' → Calls Try.prog 34 #[.agg #[.slice x.B x.m x.d, .int .i64 x.e, .bool x.h], .agg #[.slice y.B y.m y.d, .int .i64 y.e, .bool y.h]] w' (SameAns (x.pic = y.pic) w')) := by
              show ∀ _, _
              intro w' hf
              have hf2 := HJ.out.2.trans hf
              exact r8same_any w' x y ⟨((HA.out.2.2.1 x hxm).1).fr hf2 (.inr List.not_mem_nil), (HA.out.2.2.1 x hxm).2⟩ ⟨((HB.out.2.2.1 y hym).1).fr hf2 (.inr List.not_mem_nil), (HB.out.2.2.1 y hym).2⟩ (HA.out.2.2.2 x hxm) (HB.out.2.2.2 y hym)
            obtain ⟨xB, xm, xd, xcs, xe, xh⟩ := x
            obtain ⟨yB, ym, yd, ycs, ye, yh⟩ := y
            have HS : Hid (∀ w', Fr [] wr w' → (fun w' => w'.cell? ⟨w.heap.size, 0, none⟩ = some (.slice (some bx) n c) ∧ w'.cell? ⟨w.heap.size + 1, 0, none⟩ = some (.slice (some by') n d) ∧ w'.cell? (bx.add (j * 3)) = some (.slice xB xm xd) ∧ w'.cell? ⟨(bx.add (j * 3)).block, (bx.add (j * 3)).off + 1, none⟩ = some (.int .i64 xe) ∧ w'.cell? ⟨(bx.add (j * 3)).block, (bx.add (j * 3)).off + 2, none⟩ = some (.bool xh) ∧ w'.cell? (by'.add (j * 3)) = some (.slice yB ym yd) ∧ w'.cell? ⟨(by'.add (j * 3)).block, (by'.add (j * 3)).off + 1, none⟩ = some (.int .i64 ye) ∧ w'.cell? ⟨(by'.add (j * 3)).block, (by'.add (j * 3)).off + 2, none⟩ = some (.bool yh)) w') := by
              show ∀ _, _
              intro w' hf
              have c0 : wr.cell? (bx.add (j * 3)) = some (.slice xB xm xd) := e0 _ rfl
              have c1 : wr.cell? ⟨(bx.add (j * 3)).block, (bx.add (j * 3)).off + 1, none⟩ = some (.int .i64 xe) := e1 0 _ rfl
              have c2 : wr.cell? ⟨(bx.add (j * 3)).block, (bx.add (j * 3)).off + 2, none⟩ = some (.bool xh) := e1 1 _ rfl
              have d0 : wr.cell? (by'.add (j * 3)) = some (.slice yB ym yd) := g0 _ rfl
              have d1 : wr.cell? ⟨(by'.add (j * 3)).block, (by'.add (j * 3)).off + 1, none⟩ = some (.int .i64 ye) := g1 0 _ rfl
              have d2 : wr.cell? ⟨(by'.add (j * 3)).block, (by'.add (j * 3)).off + 2, none⟩ = some (.bool yh) := g1 1 _ rfl
              have hk : ∀ p u, wr.cell? p = some u → w'.cell? p = some u := fun p u h => by
                rw [hf.cell (World.block_lt_of_cell? wr p h) List.not_mem_nil]; exact h
              exact ⟨(HW.out.2.1.fr (HJ0.out.2.trans hf) (by simp)).cell 0, (HW.out.2.2.fr (HJ0.out.2.trans hf) (by simp)).cell 0, hk _ _ c0, hk _ _ c1, hk _ _ c2, hk _ _ d0, hk _ _ d1, hk _ _ d2⟩
            have i0 : (0 : Int) ≤ (j : Int) := by omega
            have i1 : (j : Int) < (n : Int) := by omega
            clear e0 e1 g0 g1 hx hy hx1 hy1 hxm hym
            go_wp2_with fail
            refine wp_region_noPanic ?_
            refine wp_region_held_drew (S := (fun w' => w'.cell? ⟨w.heap.size, 0, none⟩ = some (.slice (some bx) n c) ∧ w'.cell? ⟨w.heap.size + 1, 0, none⟩ = some (.slice (some by') n d) ∧ w'.cell? (bx.add (j * 3)) = some (.slice xB xm xd) ∧ w'.cell? ⟨(bx.add (j * 3)).block, (bx.add (j * 3)).off + 1, none⟩ = some (.int .i64 xe) ∧ w'.cell? ⟨(bx.add (j * 3)).block, (bx.add (j * 3)).off + 2, none⟩ = some (.bool xh) ∧ w'.cell? (by'.add (j * 3)) = some (.slice yB ym yd) ∧ w'.cell? ⟨(by'.add (j * 3)).block, (by'.add (j * 3)).off + 1, none⟩ = some (.int .i64 ye) ∧ w'.cell? ⟨(by'.add (j * 3)).block, (by'.add (j * 3)).off + 2, none⟩ = some (.bool yh))) (by kernel_rfl) (HS.out _ (Fr.refl [] wr).drew) (fun hHeld => ?_)
            refine wpAnyH_take (i := 0) (oi := _) (v := ?_) rfl (by kernel_rfl) (by kernel_rfl) (by kernel_rfl) (fun _ _ _ h => h) (Or.inl ⟨by rfl, ?_⟩) (by assumption) ?_
            rotate_left
            · intro w hSw
              (try dsimp only at hSw)
              go_simp
              try with_reducible rfl
            try simp only [Act.put, List.setIfInBounds_toArray, List.set_cons_zero, List.set_cons_succ]
            refine wpAnyH_take (i := 1) (oi := _) (v := ?_) rfl (by kernel_rfl) (by kernel_rfl) (by kernel_rfl) (fun _ _ _ h => h) (Or.inl ⟨by rfl, ?_⟩) (by assumption) ?_
            rotate_left
            · intro w hSw
              (try dsimp only at hSw)
              go_simp
              try with_reducible rfl
            try simp only [Act.put, List.setIfInBounds_toArray, List.set_cons_zero, List.set_cons_succ]
            refine wpAnyH_take (i := 2) (oi := _) (v := ?_) rfl (by kernel_rfl) (by kernel_rfl) (by kernel_rfl) (fun _ _ _ h => h) (Or.inl ⟨by rfl, ?_⟩) (by assumption) ?_
            rotate_left
            · intro w hSw
              (try dsimp only at hSw)
              go_simp
              try with_reducible rfl
            try simp only [Act.put, List.setIfInBounds_toArray, List.set_cons_zero, List.set_cons_succ]
            refine wpAnyH_take (i := 3) (oi := _) (v := ?_) rfl (by kernel_rfl) (by kernel_rfl) (by kernel_rfl) (fun _ _ _ h => h) (Or.inl ⟨by rfl, ?_⟩) (by assumption) ?_
            rotate_left
            · intro w hSw
              (try dsimp only at hSw)
              go_simp
              try with_reducible rfl
            try simp only [Act.put, List.setIfInBounds_toArray, List.set_cons_zero, List.set_cons_succ]
            refine wpAnyH_take (i := 4) (oi := _) (v := ?_) rfl (by kernel_rfl) (by kernel_rfl) (by kernel_rfl) (fun _ _ _ h => h) (Or.inl ⟨by rfl, ?_⟩) (by assumption) ?_
            rotate_left
            · intro w hSw
              (try dsimp only at hSw)
              go_simp
              try with_reducible rfl
            try simp only [Act.put, List.setIfInBounds_toArray, List.set_cons_zero, List.set_cons_succ]
            refine wpAnyH_take (i := 5) (oi := _) (v := ?_) rfl (by kernel_rfl) (by kernel_rfl) (by kernel_rfl) (fun _ _ _ h => h) (Or.inl ⟨by rfl, ?_⟩) (by assumption) ?_
            rotate_left
            · intro w hSw
              (try dsimp only at hSw)
              go_simp
              try with_reducible rfl
            try simp only [Act.put, List.setIfInBounds_toArray, List.set_cons_zero, List.set_cons_succ]
            refine wpAnyH_take (i := 6) (oi := _) (v := ?_) rfl (by kernel_rfl) (by kernel_rfl) (by kernel_rfl) (fun _ _ _ h => h) (Or.inl ⟨by rfl, ?_⟩) (by assumption) ?_
            rotate_left
            · intro w hSw
              (try dsimp only at hSw)
              go_simp
              try with_reducible rfl
            try simp only [Act.put, List.setIfInBounds_toArray, List.set_cons_zero, List.set_cons_succ]
            refine wpAnyH_take (i := 7) (oi := _) (v := ?_) rfl (by kernel_rfl) (by kernel_rfl) (by kernel_rfl) (fun _ _ _ h => h) (Or.inl ⟨by rfl, ?_⟩) (by assumption) ?_
            rotate_left
            · intro w hSw
              (try dsimp only at hSw)
              go_simp
              try with_reducible rfl
            try simp only [Act.put, List.setIfInBounds_toArray, List.set_cons_zero, List.set_cons_succ]
            refine wpAnyH_take (i := 8) (oi := _) (v := ?_) rfl (by kernel_rfl) (by kernel_rfl) (by kernel_rfl) (fun _ _ _ h => h) (Or.inl ⟨by rfl, ?_⟩) (by assumption) ?_
            rotate_left
            · intro w hSw
              (try dsimp only at hSw)
              go_simp
              try with_reducible rfl
            try simp only [Act.put, List.setIfInBounds_toArray, List.set_cons_zero, List.set_cons_succ]
            refine wpAnyH_take (i := 9) (oi := _) (v := ?_) rfl (by kernel_rfl) (by kernel_rfl) (by kernel_rfl) (fun _ _ _ h => h) (Or.inl ⟨by rfl, ?_⟩) (by assumption) ?_
            rotate_left
            · intro w hSw
              (try dsimp only at hSw)
              go_simp
              try with_reducible rfl
            try simp only [Act.put, List.setIfInBounds_toArray, List.set_cons_zero, List.set_cons_succ]
            refine wpAnyH_ready (rs := [10]) (by kernel_rfl) (by simp) ?_
            refine AllReadyH.cons rfl (fun K hK => ?_) AllReadyH.nil
            refine step_call _ (by rfl) 34 #[.agg #[.slice xB xm xd, .int .i64 xe, .bool xh], .agg #[.slice yB ym yd, .int .i64 ye, .bool yh]] (by go_simp) _ (HC.out _ (Fr.refl [] wr).drew) (by rintro e w' ⟨⟨b, he, _⟩, _⟩; exact ⟨_, he⟩) ?_
            intro v4 w4 hans
            obtain ⟨⟨b, hv4, hb⟩, hf4⟩ := hans
            injection hv4 with hv4
            subst hv4
            refine hK.out _ _ (HS.out _ ((Fr.refl [] wr).drew.trans hf4)) (fun hHeld => ?_)
            clear hK K
            try simp only [Act.put, List.setIfInBounds_toArray, List.set_cons_zero, List.set_cons_succ]
            refine wpAnyH_ready (rs := [11]) (by kernel_rfl) (by simp) ?_
            refine AllReadyH.cons rfl (fun K hK => ?_) AllReadyH.nil
            go_simp
            refine hK.out _ _ (by assumption) (fun hHeld => ?_)
            clear hK K
            try simp only [Act.put, List.setIfInBounds_toArray, List.set_cons_zero, List.set_cons_succ]
            refine wpAnyH_done (by kernel_rfl) ?_ _
            refine NoPanic.normal ?_
            have HF5 : Hid (Fr [] W1 w4) := HJ0.out.2.trans ((Fr.refl [] wr).drew.trans hf4)
            have HF4 : Hid (Fr [] w w4) := HJ.out.2.trans ((Fr.refl [] wr).drew.trans hf4)
            cases b
            · have HNE : Hid (¬ (xs.map RD.pic = ys.map RD.pic)) := by
                show ¬ _
                intro e
                have h1 : (xs.map RD.pic)[j]? = (ys.map RD.pic)[j]? := by rw [e]
                rw [List.getElem?_map, List.getElem?_map, HXY.out.1, HXY.out.2] at h1
                injection h1 with h1
                have := hb.2 h1
                cases this
              clear hb hf4 HJ hHeld
              go_wp2_with fail
              go_ret
              exact HEND.out false _ (by simp [HNE.out]) HF4.out
            · have HEQ : Hid ((xs.map RD.pic).take (j + 1) = (ys.map RD.pic).take (j + 1)) := by
                have h1 := hb.1 rfl
                exact take_more HJ.out.1 (by rw [List.getElem?_map, HXY.out.1]; rfl) (by rw [List.getElem?_map, HXY.out.2, h1]; rfl)
              clear hb hf4 HJ hHeld
              go_wp2_with fail
              go_roundw
              case rel => exact ⟨j + 1, by go_num, by omega, HEQ.out, HF5.out⟩
              case measure => simp [intOf]; omega
          · obtain rfl : j = n := by omega
            have HE2 : Hid (SameAns (((⟨A, j, c, xs, xt, xen⟩ : GD).pic) = (⟨B, j, d, ys, xt, xen⟩ : GD).pic) w (.returned (.bool true)) wr) := by
              refine HEND.out true wr ?_ HJ.out.2
              have := HJ.out.1
              rw [List.take_of_length_le (by rw [List.length_map]; have := HA.out.2.1; omega), List.take_of_length_le (by rw [List.length_map]; have := HB.out.2.1; omega)] at this
              simp [this]
            clear HJ0 HJ
            go_wp2_with fail
            go_ret
            exact HE2.out
      · have HE2 : Hid (SameAns (((⟨A, n, c, xs, xt, xen⟩ : GD).pic) = (⟨B, n, d, ys, xt, yen⟩ : GD).pic) w (.returned (.bool false)) W1) := HEND.out false W1 (by simp [h2]) HW.out.1
        go_enter Try.func10, Try.ntmps10
        go_wp2_with fail
        go_ret
        rw [← HW1.out]
        exact HE2.out
    · have HE2 : Hid (SameAns (((⟨A, n, c, xs, xt, xen⟩ : GD).pic) = (⟨B, n, d, ys, yt, yen⟩ : GD).pic) w (.returned (.bool false)) W1) := HEND.out false W1 (by simp [h1]) HW.out.1
      go_enter Try.func10, Try.ntmps10
      go_wp2_with fail
      go_ret
      rw [← HW1.out]
      exact HE2.out
  · have h0i : ¬ (n : Int) = (m : Int) := by omega
    have HE2 : Hid (SameAns (((⟨A, n, c, xs, xt, xen⟩ : GD).pic) = (⟨B, m, d, ys, yt, yen⟩ : GD).pic) w (.returned (.bool false)) W1) := by
      refine HEND.out false W1 ?_ HW.out.1
      have : ¬ (xs.map RD.pic = ys.map RD.pic) := fun e => h0 (by
        have := congrArg List.length e
        rw [List.length_map, List.length_map] at this
        rw [HA.out.2.1, HB.out.2.1, this])
      simp [this]
    go_enter Try.func10, Try.ntmps10
    go_wp2_with fail
    go_ret
    rw [← HW1.out]
    exact HE2.out
end Go.Proofs.Ytblafakafgediaa
