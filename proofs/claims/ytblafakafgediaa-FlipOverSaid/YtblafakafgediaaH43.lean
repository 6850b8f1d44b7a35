import Derived.Test.YtblafakafgediaaH38
import Derived.Deep.LoopGhost
namespace Go.Proofs.Ytblafakafgediaa
open Go.RowKit Go.Proofs.Dm

set_option maxHeartbeats 800000 in
theorem dhas_any (w : World) (B : Option Addr) (m d : Nat) (t : Bool) (e i : Int) :
    Calls Try.prog 86 #[.agg #[.slice B m d, .bool t, .int .i64 e], .int .i64 i] w fun en w' => en = .returned (.bool (decide (0 ≤ i ∧ i < (m : Int)))) ∧ Fr [] w w' := by
  by_cases h0 : 0 ≤ i
  · by_cases h1 : i < (m : Int)
    · rw [show decide (0 ≤ i ∧ i < (m : Int)) = true from decide_eq_true ⟨h0, h1⟩]
      go_enter Try.func86, Try.ntmps86
      go_wp2_with fail
      go_ret
      exact ⟨rfl, (Fr.refl [] w).alloc _⟩
    · rw [show decide (0 ≤ i ∧ i < (m : Int)) = false from decide_eq_false fun h => h1 h.2]
      go_enter Try.func86, Try.ntmps86
      go_wp2_with fail
      go_ret
      exact ⟨rfl, (Fr.refl [] w).alloc _⟩
  · rw [show decide (0 ≤ i ∧ i < (m : Int)) = false from decide_eq_false fun h => h0 h.1]
    go_enter Try.func86, Try.ntmps86
    go_wp2_with fail
    go_ret
    exact ⟨rfl, (Fr.refl [] w).alloc _⟩
set_option maxHeartbeats 800000 in
theorem dwith_any (w : World) (B C : Option Addr) (m d n c : Nat) (t : Bool) (e : Int) :
    Calls Try.prog 48 #[.agg #[.slice B m d, .bool t, .int .i64 e], .slice C n c] w fun en w' => en = .returned (.agg #[.slice C n c, .bool t, .int .i64 e]) ∧ Fr [] w w' := by
  go_enter Try.func48, Try.ntmps48
  go_wp2_with fail
  refine bodyPost_ret (v := .agg #[.slice C n c, .bool t, .int .i64 e]) (by simp [results, Try.results48, go_sem, *]) rfl ?_
  exact ⟨rfl, ((Fr.refl [] w).alloc _).alloc _⟩
/-- The longest row's width. -/
def dwidP (xs : List RD) : Nat := (xs.map (·.cs.length)).foldl max 0
set_option maxRecDepth 100000 in
set_option maxHeartbeats 1600000 in
theorem dwidth_any (w : World) (x : GD) (hx : GDAt x w) (h6 : x.m ≤ 100000) (h7 : ∀ r ∈ x.rs, r.m ≤ 1000000) :
    Calls Try.prog 46 #[.agg #[.slice x.B x.m x.d, .bool x.t, .int .i64 x.e]] w fun en w' => en = .returned (.int .i64 (dwidP x.rs : Nat)) ∧ Fr [] w w' := by
  obtain ⟨A, n, c, xs, xt, xen⟩ := x
  obtain ⟨W1, hW1⟩ : ∃ W1, W1 = w.alloc (.cells #[.slice A n c, .bool xt, .int .i64 xen] TD11) := ⟨_, rfl⟩
  have HF : Hid (Fr [] w W1) := by show Fr _ _ _; rw [hW1]; exact (Fr.refl [] w).alloc _
  have HA : Hid (Sl w A (rdc xs) ∧ n = xs.length ∧ (∀ r ∈ xs, RDAt r w) ∧ ∀ r ∈ xs, r.m ≤ 1000000) := ⟨hx.1, hx.2.1, hx.2.2, h7⟩
  have HW1 := Lib.hid hW1
  simp only at h6
  have n6 : (n : Int) ≤ 100000 := by omega
  clear hx h6 h7 hW1
  go_enter Try.func46, Try.ntmps46
  go_wp2_with fail
  rw [← HW1.out]
  go_loopw [9, 3] (fun iv ov wr => ∃ (j k : Nat), iv = .int .i64 j ∧ ov = .int .i64 k ∧ j ≤ n ∧ Hid (k = dwidP (xs.take j) ∧ Fr [] w wr)) (fun iv _ _ => n - (intOf iv).toNat)
  case atStart => exact ⟨0, 0, rfl, rfl, Nat.zero_le _, rfl, HF.out⟩
  case round =>
    obtain ⟨j, k, rfl, rfl, hj, HJ⟩ := hrel
    by_cases hlt : j < n
    · have hx1 : j < xs.length := by rw [← HA.out.2.1]; exact hlt
      obtain ⟨bx, rfl, e0, e1⟩ := sl_elem (f := RD.cells) (sz := 3) (fun _ => rfl) (HA.out.1.fr HJ.out.2 (.inr List.not_mem_nil)) hx1 (by omega)
      obtain ⟨x, hx⟩ : ∃ x, x = xs[j] := ⟨_, rfl⟩
      rw [← hx] at e0 e1
      have hxm : x ∈ xs := by rw [hx]; exact List.getElem_mem hx1
      have HT : Hid (dwidP (xs.take (j + 1)) = max k x.m) := by
        show _ = _
        rw [List.take_succ_eq_append_getElem hx1, ← hx, HJ.out.1, (HA.out.2.2.1 x hxm).2]
        simp [dwidP]
      have hm6 := HA.out.2.2.2 x hxm
      obtain ⟨xB, xm, xd, xcs, xe, xh⟩ := x
      simp only at HT hm6
      have c0 : wr.cell? (bx.add (j * 3)) = some (.slice xB xm xd) := e0 _ rfl
      have c1 : wr.cell? ⟨(bx.add (j * 3)).block, (bx.add (j * 3)).off + 1, none⟩ = some (.int .i64 xe) := e1 0 _ rfl
      have c2 : wr.cell? ⟨(bx.add (j * 3)).block, (bx.add (j * 3)).off + 2, none⟩ = some (.bool xh) := e1 1 _ rfl
      have HF2 : Hid (Fr [] w (wr.alloc (.cells #[.slice xB xm xd, .int .i64 xe, .bool xh] TD8))) := HJ.out.2.alloc _
      have i0 : (0 : Int) ≤ (j : Int) := by omega
      have i1 : (j : Int) < (n : Int) := by omega
      clear e0 e1 hx hx1 hxm
      rcases Nat.lt_or_ge k xm with hkm | hkm
      · have h1 : (k : Int) < (xm : Int) := by omega
        have HT2 : Hid (xm = dwidP (xs.take (j + 1))) := by show _ = _; rw [HT.out]; omega
        clear hkm hm6
        go_wp2_with fail
        go_roundw
        case rel => exact ⟨j + 1, xm, by go_num, rfl, by omega, HT2.out, HF2.out⟩
        case measure => simp [intOf]; omega
      · have h1 : ¬ (k : Int) < (xm : Int) := by omega
        have HT2 : Hid (k = dwidP (xs.take (j + 1))) := by show _ = _; rw [HT.out]; omega
        clear hkm hm6
        go_wp2_with fail
        go_roundw
        case rel => exact ⟨j + 1, k, by go_num, rfl, by omega, HT2.out, HF2.out⟩
        case measure => simp [intOf]; omega
    · obtain rfl : j = n := by omega
      have HE : Hid (k = dwidP xs ∧ Fr [] w wr) := by
        have := HJ.out.1
        rw [List.take_of_length_le (by have := HA.out.2.1; omega)] at this
        exact ⟨this, HJ.out.2⟩
      clear HJ
      go_wp2_with fail
      go_ret
      exact ⟨by rw [HE.out.1]; rfl, HE.out.2⟩
/-- The document's cell at a place. -/
def datP (xs : List RD) (r c : Int) : Option DC := if 0 ≤ r ∧ 0 ≤ c then (xs[r.toNat]?).bind fun x => x.cs[c.toNat]? else none
def DC.none : DC := ⟨[], [], false⟩
def DAtAns (xs : List RD) (r c : Int) (w : World) (en : Ending) (w' : World) : Prop :=
  ∃ (S R : List UInt8) (k : Bool), en = .returned (.tuple #[.agg #[.string ⟨S.toArray⟩, .string ⟨R.toArray⟩, .bool k], .bool (datP xs r c).isSome]) ∧ (datP xs r c).getD DC.none = ⟨S, R, k⟩ ∧ Fr [] w w'
set_option maxRecDepth 100000 in
set_option maxHeartbeats 1600000 in
theorem dat_any (w : World) (x : GD) (r c : Int) (hx : GDAt x w) (h6 : x.m ≤ 100000) (h7 : ∀ r ∈ x.rs, r.m ≤ 1000000) :
    Calls Try.prog 47 #[.agg #[.slice x.B x.m x.d, .bool x.t, .int .i64 x.e], .int .i64 r, .int .i64 c] w (DAtAns x.rs r c w) := by
  obtain ⟨A, n, cc, xs, xt, xen⟩ := x
  obtain ⟨W1, hW1⟩ : ∃ W1, W1 = (w.alloc (.cells #[.slice A n cc, .bool xt, .int .i64 xen] TD11)).alloc (.cells #[.string ⟨#[]⟩, .string ⟨#[]⟩, .bool false] TDc) := ⟨_, rfl⟩
  have HW : Hid (Fr [] w W1 ∧ Blk W1 (w.heap.size + 1) TDc #[.string ⟨#[]⟩, .string ⟨#[]⟩, .bool false] ∧ Blk W1 w.heap.size TD11 #[.slice A n cc, .bool xt, .int .i64 xen]) := by
    have b2 := Blk.new (w.alloc (.cells #[.slice A n cc, .bool xt, .int .i64 xen] TD11)) TDc #[.string ⟨#[]⟩, .string ⟨#[]⟩, .bool false]
    rw [World.size_alloc, ← hW1] at b2
    exact ⟨by rw [hW1]; exact ((Fr.refl [] w).alloc _).alloc _, b2, by rw [hW1]; exact (Blk.new w TD11 _).alloc _⟩
  have HA : Hid (Sl w A (rdc xs) ∧ n = xs.length ∧ (∀ r ∈ xs, RDAt r w) ∧ ∀ r ∈ xs, r.m ≤ 1000000) := ⟨hx.1, hx.2.1, hx.2.2, h7⟩
  have HW1 := Lib.hid hW1
  obtain ⟨hb, hhb⟩ : ∃ hb, hb = decide (0 ≤ r ∧ r < (n : Int)) := ⟨_, rfl⟩
  have HH : Hid (∀ w', Calls Try.prog 86 #[.agg #[.slice A n cc, .bool xt, .int .i64 xen], .int .i64 r] w' fun en w'' => en = .returned (.bool hb) ∧ Fr [] w' w'') := by
    show ∀ _, _
    intro w'
    rw [hhb]
    exact dhas_any w' A n cc xt xen r
  have hL : w.heap.size + 1 < w.heap.size → some (w.heap.size + 1) ∈ ([] : List (Option Nat)) := fun h => absurd h (by omega)
  have HNO : Hid (∀ w', Fr [] W1 w' → datP xs r c = none → DAtAns xs r c w (.returned (.tuple #[.agg #[.string ⟨#[]⟩, .string ⟨#[]⟩, .bool false], .bool false])) (((w'.setCell ⟨w.heap.size + 1, 0, none⟩ (.string ⟨#[]⟩)).setCell ⟨w.heap.size + 1, 1, none⟩ (.string ⟨#[]⟩)).setCell ⟨w.heap.size + 1, 2, none⟩ (.bool false))) := by
    show ∀ _, _
    intro w' hf hno
    exact ⟨[], [], false, by rw [hno]; rfl, by rw [hno]; rfl, (((HW.out.1.trans hf).setB hL _ _).setB hL _ _).setB hL _ _⟩
  clear hx h6 h7 hW1 hL
  by_cases hr : 0 ≤ r ∧ r < (n : Int)
  · obtain ⟨i, rfl⟩ : ∃ i : Nat, r = (i : Int) := ⟨r.toNat, by omega⟩
    have hhb2 : hb = true := by rw [hhb]; exact decide_eq_true hr
    subst hhb2
    have hi : i < xs.length := by have := HA.out.2.1; omega
    obtain ⟨bx, rfl, e0, e1⟩ := sl_elem (f := RD.cells) (sz := 3) (fun _ => rfl) (HA.out.1) hi (by omega)
    obtain ⟨x, hx⟩ : ∃ x, x = xs[i] := ⟨_, rfl⟩
    rw [← hx] at e0 e1
    have hxm : x ∈ xs := by rw [hx]; exact List.getElem_mem hi
    have hxg : xs[i]? = some x := by rw [List.getElem?_eq_getElem hi, hx]
    obtain ⟨q1, q2⟩ := HA.out.2.2.1 x hxm
    obtain ⟨xB, xm, xd, xcs, xe, xh⟩ := x
    simp only at q1 q2
    have HXC : Hid (∀ w', Fr [] w w' → w'.cell? (bx.add (i * 3)) = some (.slice xB xm xd)) := by
      show ∀ _, _
      intro w' hf
      have c0 : w.cell? (bx.add (i * 3)) = some (.slice xB xm xd) := e0 _ rfl
      rw [hf.cell (World.block_lt_of_cell? w _ c0) List.not_mem_nil]
      exact c0
    have HX : Hid (Sl w xB (dcc xcs) ∧ xm = xcs.length ∧ xs[i]? = some ⟨xB, xm, xd, xcs, xe, xh⟩) := ⟨q1, q2, hxg⟩
    have r0 : (0 : Int) ≤ (i : Int) := hr.1
    have r1 : (i : Int) < (n : Int) := hr.2
    clear e0 e1 hx hxm hxg q1 q2 hi hr hhb
    by_cases hc : 0 ≤ c ∧ c < (xm : Int)
    · obtain ⟨k, rfl⟩ : ∃ k : Nat, c = (k : Int) := ⟨c.toNat, by omega⟩
      have hk : k < xcs.length := by have := HX.out.2.1; omega
      obtain ⟨bc, rfl, e0, e1⟩ := sl_elem (f := DC.cells) (sz := 3) (fun _ => rfl) (HX.out.1) hk (by omega)
      obtain ⟨y, hy⟩ : ∃ y, y = xcs[k] := ⟨_, rfl⟩
      rw [← hy] at e0 e1
      have HD : Hid (datP xs (i : Int) (k : Int) = some y) := by
        show _ = _
        unfold datP
        rw [if_pos ⟨hc.1 |> fun _ => by omega, by omega⟩, Int.toNat_natCast, HX.out.2.2, Int.toNat_natCast]
        show xcs[k]? = _
        rw [List.getElem?_eq_getElem hk, hy]
      obtain ⟨yS, yR, yk⟩ := y
      have HYC : Hid (∀ w', Fr [] w w' → w'.cell? (bc.add (k * 3)) = some (.string ⟨yS.toArray⟩) ∧ w'.cell? ⟨(bc.add (k * 3)).block, (bc.add (k * 3)).off + 1, none⟩ = some (.string ⟨yR.toArray⟩) ∧ w'.cell? ⟨(bc.add (k * 3)).block, (bc.add (k * 3)).off + 2, none⟩ = some (.bool yk)) := by
        show ∀ _, _
        intro w' hf
        have hkp : ∀ p u, w.cell? p = some u → w'.cell? p = some u := fun p u h => by
          rw [hf.cell (World.block_lt_of_cell? w p h) List.not_mem_nil]; exact h
        exact ⟨hkp _ _ (e0 _ rfl), hkp _ _ (e1 0 _ rfl), hkp _ _ (e1 1 _ rfl)⟩
      have HOK : Hid (∀ w', Fr [] W1 w' → DAtAns xs (i : Int) (k : Int) w (.returned (.tuple #[.agg #[.string ⟨yS.toArray⟩, .string ⟨yR.toArray⟩, .bool yk], .bool true])) (((w'.setCell ⟨w.heap.size + 1, 0, none⟩ (.string ⟨yS.toArray⟩)).setCell ⟨w.heap.size + 1, 1, none⟩ (.string ⟨yR.toArray⟩)).setCell ⟨w.heap.size + 1, 2, none⟩ (.bool yk))) := by
        show ∀ _, _
        intro w' hf
        have hL : w.heap.size + 1 < w.heap.size → some (w.heap.size + 1) ∈ ([] : List (Option Nat)) := fun h => absurd h (by omega)
        exact ⟨yS, yR, yk, by rw [HD.out]; rfl, by rw [HD.out]; rfl, (((HW.out.1.trans hf).setB hL _ _).setB hL _ _).setB hL _ _⟩
      have k0 : (0 : Int) ≤ (k : Int) := hc.1
      have k1 : (k : Int) < (xm : Int) := hc.2
      have k2 : ¬ (k : Int) < 0 := by omega
      have k3 : ¬ (xm : Int) ≤ (k : Int) := by omega
      clear e0 e1 hy hk hc HNO HD
      go_enter Try.func47, Try.ntmps47
      go_wp2_with fail
      rw [← HW1.out]
      refine (HH.out W1).mono ?_
      rintro en w2 ⟨rfl, hf2⟩
      have hb2 := HW.out.2.1.fr hf2 (by simp)
      have gb2 := HW.out.2.2.fr hf2 (by simp)
      have g0 : w2.cell? ⟨w.heap.size, 0, none⟩ = some (.slice (some bx) n cc) := gb2.cell 0
      have c0 := HXC.out w2 (HW.out.1.trans hf2)
      obtain ⟨d0, d1, d2⟩ := HYC.out w2 (HW.out.1.trans hf2)
      have l0 : w2.cell? ⟨w.heap.size + 1, 0, none⟩ = some (.string ⟨#[]⟩) := hb2.cell 0
      have l1 : w2.cell? ⟨w.heap.size + 1, 1, none⟩ = some (.string ⟨#[]⟩) := hb2.cell 1
      have l2 : w2.cell? ⟨w.heap.size + 1, 2, none⟩ = some (.bool false) := hb2.cell 2
      have z0 := hb2.frozen 0
      have z1 := hb2.frozen 1
      have z2 := hb2.frozen 2
      have ll := hb2.lt
      have HEND := Lib.hid (HOK.out w2 hf2)
      clear hb2 gb2 hf2
      go_wp2_with fail
      refine bodyPost_ret (v := .tuple #[.agg #[.string ⟨yS.toArray⟩, .string ⟨yR.toArray⟩, .bool yk], .bool true]) (by simp [results, Try.results47, go_sem, *]) rfl ?_
      exact HEND.out
    · have HD : Hid (datP xs (i : Int) c = none) := by
        show _ = _
        unfold datP
        split
        · rename_i h
          rw [Int.toNat_natCast, HX.out.2.2]
          show xcs[c.toNat]? = none
          rw [List.getElem?_eq_none (by have := HX.out.2.1; omega)]
        · rfl
      by_cases hc0 : c < 0
      · clear hc
        go_enter Try.func47, Try.ntmps47
        go_wp2_with fail
        rw [← HW1.out]
        refine (HH.out W1).mono ?_
        rintro en w2 ⟨rfl, hf2⟩
        have hb2 := HW.out.2.1.fr hf2 (by simp)
        have l0 : w2.cell? ⟨w.heap.size + 1, 0, none⟩ = some (.string ⟨#[]⟩) := hb2.cell 0
        have l1 : w2.cell? ⟨w.heap.size + 1, 1, none⟩ = some (.string ⟨#[]⟩) := hb2.cell 1
        have l2 : w2.cell? ⟨w.heap.size + 1, 2, none⟩ = some (.bool false) := hb2.cell 2
        have z0 := hb2.frozen 0
        have z1 := hb2.frozen 1
        have z2 := hb2.frozen 2
        have ll := hb2.lt
        have HEND := Lib.hid (HNO.out w2 hf2 HD.out)
        clear hb2 hf2
        go_wp2_with fail
        refine bodyPost_ret (v := .tuple #[.agg #[.string ⟨#[]⟩, .string ⟨#[]⟩, .bool false], .bool false]) (by simp [results, Try.results47, go_sem, *]) rfl ?_
        exact HEND.out
      · have k2 : (xm : Int) ≤ c := by omega
        clear hc
        go_enter Try.func47, Try.ntmps47
        go_wp2_with fail
        rw [← HW1.out]
        refine (HH.out W1).mono ?_
        rintro en w2 ⟨rfl, hf2⟩
        have gb2 := HW.out.2.2.fr hf2 (by simp)
        have g0 : w2.cell? ⟨w.heap.size, 0, none⟩ = some (.slice (some bx) n cc) := gb2.cell 0
        have c0 := HXC.out w2 (HW.out.1.trans hf2)
        have hb2 := HW.out.2.1.fr hf2 (by simp)
        have l0 : w2.cell? ⟨w.heap.size + 1, 0, none⟩ = some (.string ⟨#[]⟩) := hb2.cell 0
        have l1 : w2.cell? ⟨w.heap.size + 1, 1, none⟩ = some (.string ⟨#[]⟩) := hb2.cell 1
        have l2 : w2.cell? ⟨w.heap.size + 1, 2, none⟩ = some (.bool false) := hb2.cell 2
        have z0 := hb2.frozen 0
        have z1 := hb2.frozen 1
        have z2 := hb2.frozen 2
        have ll := hb2.lt
        have HEND := Lib.hid (HNO.out w2 hf2 HD.out)
        clear hb2 hf2 gb2
        go_wp2_with fail
        refine bodyPost_ret (v := .tuple #[.agg #[.string ⟨#[]⟩, .string ⟨#[]⟩, .bool false], .bool false]) (by simp [results, Try.results47, go_sem, *]) rfl ?_
        exact HEND.out
  · have hhb2 : hb = false := by rw [hhb]; exact decide_eq_false hr
    have HD : Hid (datP xs r c = none) := by
      show _ = _
      unfold datP
      split
      · rename_i h
        rw [List.getElem?_eq_none (by have := HA.out.2.1; omega)]
        rfl
      · rfl
    subst hhb2
    clear hr hhb
    go_enter Try.func47, Try.ntmps47
    go_wp2_with fail
    rw [← HW1.out]
    refine (HH.out W1).mono ?_
    rintro en w2 ⟨rfl, hf2⟩
    have hb2 := HW.out.2.1.fr hf2 (by simp)
    have l0 : w2.cell? ⟨w.heap.size + 1, 0, none⟩ = some (.string ⟨#[]⟩) := hb2.cell 0
    have l1 : w2.cell? ⟨w.heap.size + 1, 1, none⟩ = some (.string ⟨#[]⟩) := hb2.cell 1
    have l2 : w2.cell? ⟨w.heap.size + 1, 2, none⟩ = some (.bool false) := hb2.cell 2
    have z0 := hb2.frozen 0
    have z1 := hb2.frozen 1
    have z2 := hb2.frozen 2
    have ll := hb2.lt
    have HEND := Lib.hid (HNO.out w2 hf2 HD.out)
    clear hb2 hf2
    go_wp2_with fail
    refine bodyPost_ret (v := .tuple #[.agg #[.string ⟨#[]⟩, .string ⟨#[]⟩, .bool false], .bool false]) (by simp [results, Try.results47, go_sem, *]) rfl ?_
    exact HEND.out
end Go.Proofs.Ytblafakafgediaa
namespace Go.Proofs.Ytblafakafgediaa
open Go.RowKit Go.Proofs.Dm

/-- The widest row. -/
def picWid (ps : List Pic) : Nat := (ps.map (·.1.length)).foldl max 0
/-- A column's cells. -/
def colP (ps : List Pic) (c : Nat) : List DC := ps.map fun r => (r.1[c]?).getD DC.none
def endAt (ps : List Pic) (c : Nat) : Int := ((ps[c]?).map (·.2.1)).getD 0
/-- Rows for columns. -/
def overP (ps : List Pic) : List Pic := (List.range (picWid ps)).map fun c => (colP ps c, endAt ps c, false)
def overErr (n : Nat) : Nat := if n = 0 then 9 else if 40 < n then 6 else 0
def overAll (ps : List Pic) (tl : Bool) (eo : Int) : List Pic × Bool × Int := if overErr ps.length = 0 then (overP ps, tl, eo) else ([], false, 0)
theorem overP_at (ps : List Pic) (c : Nat) (h : c < picWid ps) : (overP ps)[c]? = some (colP ps c, endAt ps c, false) := by
  unfold overP
  rw [List.getElem?_map, List.getElem?_range h]
  rfl
theorem overP_len (ps : List Pic) : (overP ps).length = picWid ps := by unfold overP; rw [List.length_map, List.length_range]
theorem picWid_le (ps : List Pic) (N : Nat) (h : ∀ r ∈ ps, r.1.length ≤ N) : picWid ps ≤ N := by
  have key : ∀ (l : List Nat) (a : Nat), a ≤ N → (∀ x ∈ l, x ≤ N) → l.foldl max a ≤ N := by
    intro l
    induction l with
    | nil => intro a ha _; exact ha
    | cons x l ih => intro a ha hl; exact ih _ (Nat.max_le.2 ⟨ha, hl x (List.mem_cons_self ..)⟩) fun y hy => hl y (List.mem_cons_of_mem _ hy)
  refine key _ 0 (Nat.zero_le _) fun x hx => ?_
  obtain ⟨r, hr, rfl⟩ := List.mem_map.1 hx
  exact h r hr
/-- Rows that are put one behind another. -/
structure OV (E : List (Option Nat)) (w0 w : World) (ps : List Pic) (c : Nat) (B : Option Addr) (d m : Nat) (ys : List RD) : Prop where
  own : ORow w TD8 3 B d m (rdc ys)
  ln : m = ys.length
  rv : ys.map RD.pic = ps.take c
  ok : ∀ y ∈ ys, Kp (bk B :: E) w (RDAt y)
  fr : Fr [] w0 w
  bn : ∀ k, bk B = some k → w0.heap.size ≤ k
  jn : c ≤ ps.length
  old : Old E w0
/-- A row whose cells are put one behind another: X its variable. -/
structure XS (W1 w : World) (X : Nat) (e : Int) (xs : List DC) (j : Nat) (B : Option Addr) (d m : Nat) : Prop where
  xb : Blk w X TD8 #[.slice B m d, .int .i64 e, .bool false]
  own : ORow w TDc 3 B d m (dcc (xs.take j))
  ln : m = j
  fr : Fr [some X] W1 w
  xl : X < W1.heap.size
  bn : ∀ k, bk B = some k → W1.heap.size ≤ k
  jn : j ≤ xs.length
section
variable {E : List (Option Nat)} {w0 W1 w w' : World} {X j c d m : Nat} {e : Int} {B : Option Addr} {xs : List DC} {ps : List Pic} {ys : List RD}
theorem OV.fr0 (h : OV E w0 w ps c B d m ys) (hf : Fr [] w w') : OV E w0 w' ps c B d m ys :=
  ⟨ORow.fr h.own hf (.inr List.not_mem_nil), h.ln, h.rv, fun x hx => (h.ok x hx).fr0 hf, h.fr.trans hf, h.bn, h.jn, h.old⟩
theorem OV.len (h : OV E w0 w ps c B d m ys) : m = c := by
  have := congrArg List.length h.rv
  rw [List.length_map, List.length_take, ← h.ln] at this
  have := h.jn
  omega
theorem XS.fr0 (p : XS W1 w X e xs j B d m) (hf : Fr [] w w') : XS W1 w' X e xs j B d m :=
  ⟨p.xb.fr hf (by simp), ORow.fr p.own hf (.inr List.not_mem_nil), p.ln, p.fr.trans hf.of_nil, p.xl, p.bn, p.jn⟩
theorem XS.step {wa w5 : World} {B2 : Option Addr} {d2 : Nat} {x : DC} (p : XS W1 w X e xs j B d m) (hx : xs[j]? = some x) (hfa : Fr [] w wa)
    (hr : ORow w5 TDc 3 B2 d2 (m + 1) (dcc (xs.take j) ++ DC.cells x)) (hg : Fr [bk B] wa w5) (hb : bk B2 = bk B ∨ bk B2 = some wa.heap.size) :
    XS W1 (w5.setCell ⟨X, 0, none⟩ (.slice B2 (m + 1) d2)) X e xs (j + 1) B2 d2 (m + 1) ∧ Blk w5 X TD8 #[.slice B m d, .int .i64 e, .bool false] := by
  have hjl : j < xs.length := by
    rcases Nat.lt_or_ge j xs.length with h | h
    · exact h
    · rw [List.getElem?_eq_none h] at hx; cases hx
  have ht : xs.take (j + 1) = xs.take j ++ [x] := by
    rw [List.take_succ_eq_append_getElem hjl]
    rw [List.getElem?_eq_getElem hjl] at hx
    injection hx with hx
    rw [hx]
  have hs := p.fr.size
  have hsa := hfa.size
  have t5 := (p.xb.fr hfa (by simp)).fr hg (fun e => by
    rw [List.mem_singleton] at e
    have := p.bn X e.symm
    have := p.xl
    omega)
  have hset : Fr [some X] w5 (w5.setCell ⟨X, 0, none⟩ (.slice B2 (m + 1) d2)) := (Fr.refl _ w5).setB (by simp) 0 _
  have hB2 : ∀ k, bk B2 = some k → W1.heap.size ≤ k := fun k hk => by
    rcases hb with e | e
    · exact p.bn k (e ▸ hk)
    · rw [e] at hk; injection hk with hk; omega
  refine ⟨⟨t5.set_ 0 _, ?_, by rw [p.ln], ?_, p.xl, hB2, hjl⟩, t5⟩
  · rw [ht, dcc_app]
    refine ORow.fr ?_ hset (newS p.xl hB2)
    simpa [dcc] using hr
  · refine ((p.fr.trans hfa.of_nil).seq hg fun z hz => ?_).trans hset
    rw [List.mem_singleton] at hz
    subst hz
    cases hB : bk B with
    | none => exact .inr (.inl rfl)
    | some k => exact .inr (.inr ⟨k, p.bn k hB, rfl⟩)
theorem OV.step {w1 wa w5 : World} {B2 : Option Addr} {d2 : Nat} {x : RD} (h : OV E w0 w ps c B d m ys) (hl : ps[c]? = some x.pic)
    (h1 : Fr [] w w1) (hk : Kp (bk B :: E) w1 (RDAt x)) (hfa : Fr [] w1 wa)
    (hr : ORow w5 TD8 3 B2 d2 (m + 1) (rdc ys ++ x.cells)) (hg : Fr [bk B] wa w5) (hb : bk B2 = bk B ∨ bk B2 = some wa.heap.size) :
    OV E w0 w5 ps (c + 1) B2 d2 (m + 1) (ys ++ [x]) := by
  have hjl : c < ps.length := by
    rcases Nat.lt_or_ge c ps.length with h | h
    · exact h
    · rw [List.getElem?_eq_none h] at hl; cases hl
  have hlj : ps[c] = x.pic := by rw [List.getElem?_eq_getElem hjl] at hl; injection hl
  have hs := h.fr.size
  have hs1 := h1.size
  have hsa := hfa.size
  have hB2 : ∀ k, bk B2 = some k → w0.heap.size ≤ k := fun k hk => by
    rcases hb with e | e
    · exact h.bn k (e ▸ hk)
    · rw [e] at hk; injection hk with hk; omega
  have f15 : Fr (bk B :: E) w1 w5 := hfa.of_nil.trans (hg.weaken fun i _ h => by rw [List.mem_singleton] at h; rw [h]; exact List.mem_cons_self ..)
  have hgE : ∀ i, some i ∈ bk B2 :: E → some i ∈ bk B :: E ∨ wa.heap.size ≤ i := fun i e => by
    rcases List.mem_cons.1 e with e | e
    · rcases hb with h5 | h5
      · exact .inl (by rw [e, h5]; exact List.mem_cons_self ..)
      · rw [h5] at e; injection e with e; exact .inr (by omega)
    · exact .inl (List.mem_cons_of_mem _ e)
  refine ⟨by rw [rdc_app]; simpa [rdc] using hr, by rw [List.length_append, h.ln]; rfl, ?_, ?_, ?_, hB2, hjl, h.old⟩
  · rw [List.take_succ_eq_append_getElem hjl, hlj, List.map_append, h.rv]
    rfl
  · intro y hy
    rcases List.mem_append.1 hy with hy | hy
    · exact ((h.ok y hy).fr0 h1).grow f15 fun i hi => (hgE i hi).imp_right fun h => by omega
    · rw [List.mem_singleton] at hy
      rw [hy]
      exact hk.grow f15 fun i hi => (hgE i hi).imp_right fun h => by omega
  · refine ((h.fr.trans h1).trans hfa).seq hg fun z hz => ?_
    rw [List.mem_singleton] at hz
    subst hz
    cases hB : bk B with
    | none => exact .inr (.inl rfl)
    | some k => exact .inr (.inr ⟨k, h.bn k hB, rfl⟩)
/-- The row that is done can be read. -/
theorem XS.row {wr : World} {B' : Option Addr} {d' m' : Nat} {ys' : List RD} (p : XS W1 w X e xs xs.length B d m) (h : OV E w0 wr ps c B' d' m' ys') (hf : Fr [] wr W1) (hx : wr.heap.size ≤ X) :
    Fr [] wr w ∧ Kp (bk B' :: E) w (RDAt ⟨B, m, d, xs, e, false⟩) := by
  have hs := hf.size
  have hf2 : Fr [] wr w := hf.seq p.fr fun z hz => by rw [List.mem_singleton] at hz; exact .inr (.inr ⟨X, hx, hz⟩)
  have hown := p.own
  rw [List.take_length] at hown
  refine ⟨hf2, fun w'' hw => ⟨Sl.fr (ORow.sl hown) hw ?_, by show m = _; exact p.ln⟩⟩
  cases hB : bk B with
  | none => exact .inl rfl
  | some k =>
    have hk := p.bn k hB
    refine .inr fun e => ?_
    rcases List.mem_cons.1 e with e | e
    · have := ORow.lt h.own e.symm; omega
    · have := h.old k e; have := h.fr.size; omega
def GDErr (E : List (Option Nat)) (w : World) (pic : List Pic × Bool × Int) (er : Nat) (en : Ending) (w' : World) : Prop :=
  ∃ x : GD, en = .returned (.tuple #[.agg #[.slice x.B x.m x.d, .bool x.t, .int .i64 x.e], .int .i64 (er : Nat)]) ∧ x.pic = pic ∧ Kp E w' (GDAt x) ∧ Fr [] w w'
theorem OV.fin {tl : Bool} {eo : Int} (h : OV E w0 w ps ps.length B d m ys) (hf : Fr [] w w') : (GD.pic ⟨B, m, d, ys, tl, eo⟩ = (ps, tl, eo)) ∧ Kp E w' (GDAt ⟨B, m, d, ys, tl, eo⟩) := by
  have hrv := h.rv
  rw [List.take_length] at hrv
  refine ⟨by show (_, _, _) = _; rw [hrv], fun w'' hw => ⟨?_, h.ln, fun y hy => (((h.ok y hy).fr0 hf).sub fun i hi => List.mem_cons_of_mem _ hi) w'' hw⟩⟩
  refine Sl.fr (Sl.fr (ORow.sl h.own) hf (.inr List.not_mem_nil)) hw ?_
  cases hB : bk B with
  | none => exact .inl rfl
  | some k =>
    have hk := h.bn k hB
    exact .inr fun e => by have := h.old k e; omega
end
end Go.Proofs.Ytblafakafgediaa
