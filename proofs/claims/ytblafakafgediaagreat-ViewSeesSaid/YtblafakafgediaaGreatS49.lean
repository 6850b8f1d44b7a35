import Derived.Test.YtblafakafgediaaGreatS47
import Derived.Test.YtblafakafgediaaGreatS48
namespace Go.Proofs.YtblafakafgediaaGreat
open Go.RowKit Go.Proofs.Dm

theorem sl_new2 (w : World) (o : Obj) (v : Value) (t : TypeId) : Sl ((w.alloc o).alloc (.cells #[v] t)) (some ⟨w.heap.size + 1, 0, none⟩) [v] := by
  have := sl_new (w.alloc o) v t
  rwa [World.size_alloc] at this
structure IPt (W1 w : World) (l : List Int) (C : Option Addr) (c n : Nat) : Prop where
  own : ORow w 3 1 C c n (intsV l)
  ln : n = l.length
  fr : Fr [] W1 w
  nw : ∀ k, bk C = some k → W1.heap.size ≤ k
theorem IPt.nil_ (W : World) : IPt W W [] none 0 0 := ⟨ORow.nil_ W _ 1, rfl, Fr.refl _ _, fun k hk => (by cases hk)⟩
section
variable {W1 w w' wa w5 : World} {l : List Int} {C C2 : Option Addr} {c c2 n : Nat} {v : Int}
theorem IPt.fr0 (h : IPt W1 w l C c n) (hf : Fr [] w w') : IPt W1 w' l C c n := ⟨ORow.fr h.own hf (.inr List.not_mem_nil), h.ln, h.fr.trans hf, h.nw⟩
theorem IPt.add (h : IPt W1 w l C c n) (ha : Fr [] w wa) (hr : ORow w5 3 1 C2 c2 (n + 1) (intsV l ++ [.int .i64 v])) (hg : Fr [bk C] wa w5) (hb : bk C2 = bk C ∨ bk C2 = some wa.heap.size) : IPt W1 w5 (l ++ [v]) C2 c2 (n + 1) := by
  have hs := h.fr.size
  have hsa := ha.size
  refine ⟨?_, by rw [List.length_append, h.ln]; rfl, (h.fr.trans ha).seq hg fun x hx => ?_, fun k hk => ?_⟩
  · unfold intsV at hr ⊢
    rw [List.map_append]
    exact hr
  · rw [List.mem_singleton] at hx
    subst hx
    cases hB : bk C with
    | none => exact .inr (.inl rfl)
    | some k => exact .inr (.inr ⟨k, h.nw k hB, rfl⟩)
  · rcases hb with e | e
    · exact h.nw k (e ▸ hk)
    · rw [e] at hk; injection hk with hk; omega
def IntsN (w : World) (l : List Int) (en : Ending) (w' : World) : Prop := ∃ (B : Option Addr) (n c : Nat), en = .returned (.slice B n c) ∧ n = l.length ∧ Sl w' B (intsV l) ∧ Fr [] w w' ∧ ∀ k, bk B = some k → w.heap.size ≤ k
theorem IntsN.ints {w0 : World} {en : Ending} (h : IntsN w0 l en w) : IntsA w0 l en w := by
  obtain ⟨B, n, c, h1, h2, h3, h4, _⟩ := h
  exact ⟨B, n, c, h1, h2, h3, h4⟩
theorem IPt.ans {w0 : World} (h : IPt W1 w l C c n) (hf : Fr [] w0 W1) : IntsN w0 l (.returned (.slice C n c)) w := ⟨C, n, c, rfl, h.ln, h.own.sl, hf.trans h.fr, fun k hk => Nat.le_trans hf.size (h.nw k hk)⟩
end
set_option maxRecDepth 100000 in
set_option maxHeartbeats 1600000 in
theorem dvisible_any (w : World) (x : GD) (xs : List RV) (h : DGr x xs w) :
    Calls Tryz.prog 53 #[.agg #[.slice x.B x.m x.d, .bool x.t, .int .i64 x.e]] w (IntsN w (visI xs xs.length)) := by
  obtain ⟨A, n, c, ds, xt, xen⟩ := x
  obtain ⟨W1, hW1⟩ : ∃ W1, W1 = w.alloc (.cells #[.slice A n c, .bool xt, .int .i64 xen] TD11) := ⟨_, rfl⟩
  have HF : Hid (Fr [] w W1) := by show Fr _ _ _; rw [hW1]; exact (Fr.refl [] w).alloc _
  have HA : Hid (Sl w A (rdc ds) ∧ n = ds.length ∧ n = xs.length ∧ ∀ k y, ds[k]? = some y → y.h = hidAt xs k) := ⟨h.gd.1, h.gd.2.1, h.len, fun k y hy => (h.row k y hy).1⟩
  have HW1 := Lib.hid hW1
  have n4 : n ≤ 400 := h.n4
  have n6 : (n : Int) ≤ 400 := by omega
  have HN4 := Lib.hid n4
  clear h hW1 n4
  go_enter Tryz.func53, Tryz.ntmps53
  go_wp2_with fail
  rw [← HW1.out]
  go_loopg [3, 9] n (fun k lv iv wr => ∃ (j q e : Nat) (C : Option Addr), k + j = n ∧ lv = .slice C q e ∧ iv = .int .i64 j ∧ Hid (IPt W1 wr (visI xs j) C e q))
  case atStart => exact ⟨0, 0, 0, none, by omega, rfl, rfl, IPt.nil_ _⟩
  case round =>
    obtain ⟨j, q, e, C, hj, rfl, rfl, HJ⟩ := hrel
    by_cases hlt : j < n
    · have hx1 : j < ds.length := by rw [← HA.out.2.1]; exact hlt
      obtain ⟨bx, rfl, e0, e1⟩ := sl_elem (f := RD.cells) (sz := 3) (fun _ => rfl) (HA.out.1.fr (HF.out.trans HJ.out.fr) (.inr List.not_mem_nil)) hx1 (by omega)
      obtain ⟨y, hy⟩ : ∃ y, y = ds[j] := ⟨_, rfl⟩
      rw [← hy] at e0 e1
      have hyh : y.h = hidAt xs j := HA.out.2.2.2 j y (by rw [hy]; exact List.getElem?_eq_getElem _)
      have HV := Lib.hid (visI_snoc xs j)
      rw [← hyh] at HV
      have HQ : Hid (q ≤ 400) := by have h1 := HJ.out.ln; have h2 := visI_len xs j; show _ ≤ _; have := HN4.out; omega
      obtain ⟨yB, ym, yd, ycs, ye, yh⟩ := y
      have c0 : wr.cell? (bx.add (j * 3)) = some (.slice yB ym yd) := e0 _ rfl
      have c1 : wr.cell? ⟨(bx.add (j * 3)).block, (bx.add (j * 3)).off + 1, none⟩ = some (.int .i64 ye) := e1 0 _ rfl
      have c2 : wr.cell? ⟨(bx.add (j * 3)).block, (bx.add (j * 3)).off + 2, none⟩ = some (.bool yh) := e1 1 _ rfl
      have i0 : (0 : Int) ≤ (j : Int) := by omega
      have i1 : (j : Int) < (n : Int) := by omega
      clear e0 e1 hy hx1 hyh
      cases yh with
      | true =>
        have HJ2 : Hid (IPt W1 (wr.alloc (.cells #[.slice yB ym yd, .int .i64 ye, .bool true] TD8)) (visI xs (j + 1)) C e q) := by
          show IPt _ _ _ _ _ _
          rw [HV.out, if_pos rfl, List.append_nil]
          exact HJ.out.fr0 ((Fr.refl [] wr).alloc _)
        clear HV
        go_wp2_with fail
        go_roundg (n - (j + 1))
        case rel => exact ⟨j + 1, q, e, C, by omega, rfl, by go_num, HJ2.out⟩
        case measure => omega
      | false =>
        go_wp2_with (at_builtin; go_must (
          refine wpList_app _ rfl _ _ 48 3 rfl (.int .i64 0) 1 8 Tryz.underlying48 infoIn rfl (by decide) C e q (intsV (visI xs j)) rfl (ORow.fr HJ.out.own (((Fr.refl [] wr).alloc _).alloc _) (.inr List.not_mem_nil)) _ 1 1 [.int .i64 (j : Nat)] rfl rfl (sl_new2 wr _ _ 3) (by simp [Value.oneCell']) (by have := HQ.out; simp only [maxLen]; omega) (by have := HQ.out; omega) ?_
          intro C2 c2 w5 hr2 hg2 hb2
          have HX5 := Lib.hid (HJ.out.add (((Fr.refl [] wr).alloc _).alloc _) hr2 hg2 hb2)
          clear hr2 hg2 hb2))
        go_roundg (n - (j + 1))
        case rel => exact ⟨j + 1, q + 1, c2, C2, by omega, rfl, by go_num, by rw [HV.out]; exact HX5.out⟩
        case measure => omega
    · obtain rfl : j = n := by omega
      have HE : Hid (IntsN w (visI xs xs.length) (.returned (.slice C q e)) wr) := by
        show IntsN _ _ _ _
        rw [← HA.out.2.2.1]
        exact HJ.out.ans HF.out
      clear HJ
      go_wp2_with fail
      go_ret
      exact HE.out
set_option maxRecDepth 100000 in
set_option maxHeartbeats 1600000 in
theorem drows_any (w : World) (x : GD) (xs : List RV) (top h : Nat) (left wid : Int) (hd : DGr x xs w) (h4 : h ≤ 400) (ht : top ≤ 2 ^ 50) :
    Calls Tryz.prog 22 #[.agg #[.int .i64 (top : Nat), .int .i64 left, .int .i64 (h : Nat), .int .i64 wid], .agg #[.slice x.B x.m x.d, .bool x.t, .int .i64 x.e]] w (IntsN w (RowsI xs (min top xs.length) h)) := by
  obtain ⟨W1, hW1⟩ : ∃ W1, W1 = (w.alloc (.cells #[.int .i64 (top : Nat), .int .i64 left, .int .i64 (h : Nat), .int .i64 wid] 24)).alloc (.cells #[.slice x.B x.m x.d, .bool x.t, .int .i64 x.e] TD11) := ⟨_, rfl⟩
  have HF : Hid (Fr [] w W1 ∧ Blk W1 w.heap.size 24 #[.int .i64 (top : Nat), .int .i64 left, .int .i64 (h : Nat), .int .i64 wid] ∧ Blk W1 (w.heap.size + 1) TD11 #[.slice x.B x.m x.d, .bool x.t, .int .i64 x.e]) := by
    have b2 := Blk.new (w.alloc (.cells #[.int .i64 (top : Nat), .int .i64 left, .int .i64 (h : Nat), .int .i64 wid] 24)) TD11 #[.slice x.B x.m x.d, .bool x.t, .int .i64 x.e]
    rw [World.size_alloc, ← hW1] at b2
    exact ⟨by rw [hW1]; exact ((Fr.refl [] w).alloc _).alloc _, by rw [hW1]; exact (Blk.new w 24 _).alloc _, b2⟩
  obtain ⟨VB, hVB⟩ : ∃ VB, VB = w.heap.size := ⟨_, rfl⟩
  obtain ⟨GB, hGB⟩ : ∃ GB, GB = w.heap.size + 1 := ⟨_, rfl⟩
  rw [← hGB, ← hVB] at HF
  have HC : Hid (∀ w', Fr [] W1 w' → w'.cell? ⟨VB, 0, none⟩ = some (.int .i64 (top : Nat)) ∧ w'.cell? ⟨VB, 2, none⟩ = some (.int .i64 (h : Nat)) ∧ w'.cell? ⟨GB, 0, none⟩ = some (.slice x.B x.m x.d) ∧ w'.cell? ⟨GB, 1, none⟩ = some (.bool x.t) ∧ w'.cell? ⟨GB, 2, none⟩ = some (.int .i64 x.e)) := by
    show ∀ _, _
    intro w' hf
    have h1 := HF.out.2.1.fr hf (by simp)
    have h2 := HF.out.2.2.fr hf (by simp)
    exact ⟨h1.cell 0, h1.cell 2, h2.cell 0, h2.cell 1, h2.cell 2⟩
  have HVS := Lib.hid (dvisible_any W1 x xs (hd.fr0 HF.out.1))
  obtain ⟨L, hL⟩ : ∃ L, L = visI xs xs.length := ⟨_, rfl⟩
  have HLL : Hid (L.length ≤ 400 ∧ rowsD L (top : Nat) h = RowsI xs (min top xs.length) h) := by
    have h1 := visI_len xs xs.length
    have h2 := hd.len
    have h3 := hd.n4
    exact ⟨by rw [hL]; omega, by rw [hL]; exact rowsD_is xs top h⟩
  rw [← hL] at HVS
  obtain ⟨xB, xm, xd, xrs, xt, xe⟩ := x
  simp only at HVS hW1 HC HF ⊢
  have HW1 := Lib.hid hW1
  clear hL hW1 hd
  go_enter Tryz.func22, Tryz.ntmps22
  go_wp2_with fail
  rw [← HW1.out, ← hGB, ← hVB]
  obtain ⟨c0, c1, c2, c3, c4⟩ := HC.out W1 (Fr.refl _ _)
  clear hVB hGB c0 c1
  go_wp2_with fail
  refine HVS.out.mono ?_
  rintro en w2 ⟨B2, n2, d2, rfl, hn2, hs2, hf2, _⟩
  have HF2 : Hid (Fr [] W1 w2 ∧ Sl w2 B2 (intsV L) ∧ n2 = L.length) := ⟨hf2, hs2, hn2⟩
  have hn6 : (n2 : Int) ≤ 400 := by have := HLL.out.1; omega
  clear HVS hf2 hs2 hn2 c2 c3 c4
  go_wp2_with fail
  go_loopg [5, 11] n2 (fun k lv iv wr => ∃ (j q e : Nat) (C : Option Addr), k + j = n2 ∧ lv = .slice C q e ∧ iv = .int .i64 j ∧ Hid (IPt w2 wr (rowsD (L.take j) (top : Nat) h) C e q))
  case atStart => exact ⟨0, 0, 0, none, by omega, rfl, rfl, by show IPt _ _ _ _ _ _; simpa [rowsD] using IPt.nil_ w2⟩
  case round =>
    obtain ⟨j, q, e, C, hj, rfl, rfl, HJ⟩ := hrel
    by_cases hlt : j < n2
    · have hil : j < L.length := by rw [← HF2.out.2.2]; exact hlt
      obtain ⟨ad, rfl, hcell⟩ := intsV_at (HF2.out.2.1.fr HJ.out.fr (.inr List.not_mem_nil)) hil
      obtain ⟨v, hv⟩ : ∃ v, v = L[j] := ⟨_, rfl⟩
      rw [← hv] at hcell
      have HSN : Hid (rowsD (L.take (j + 1)) (top : Nat) h = rowsD (L.take j) (top : Nat) h ++ if ((top : Nat) : Int) ≤ v ∧ q < h then [v] else []) := by
        show _ = _
        rw [List.take_succ_eq_append_getElem hil, ← hv, rowsD_snoc, ← HJ.out.ln]
      have HQ : Hid (q ≤ 400) := by have h1 := HJ.out.ln; have h2 := rowsD_len (L.take j) (top : Nat) h; show _ ≤ _; omega
      have hi0 : (0 : Int) ≤ (j : Int) := by omega
      have hi1 : (j : Int) < (n2 : Int) := by omega
      obtain ⟨c0, c1, _, _, _⟩ := HC.out wr (HF2.out.1.trans HJ.out.fr)
      clear hv hil
      by_cases h1 : ((top : Nat) : Int) ≤ v
      · by_cases h2 : (q : Int) < (h : Int)
        · have HSN2 : Hid (rowsD (L.take (j + 1)) (top : Nat) h = rowsD (L.take j) (top : Nat) h ++ [v]) := by
            show _ = _
            rw [HSN.out, if_pos ⟨h1, by omega⟩]
          clear HSN
          go_wp2_with (at_builtin; go_must (
            refine wpList_app _ rfl _ _ 48 3 rfl (.int .i64 0) 1 8 Tryz.underlying48 infoIn rfl (by decide) C e q (intsV (rowsD (L.take j) (top : Nat) h)) rfl (ORow.fr HJ.out.own ((Fr.refl [] wr).alloc _) (.inr List.not_mem_nil)) _ 1 1 [.int .i64 v] rfl rfl (sl_new _ _ 3) (by simp [Value.oneCell']) (by have := HQ.out; simp only [maxLen]; omega) (by have := HQ.out; omega) ?_
            intro C2 c2 w5 hr2 hg2 hb2
            have HX5 := Lib.hid (HJ.out.add ((Fr.refl [] wr).alloc _) hr2 hg2 hb2)
            clear hr2 hg2 hb2))
          go_roundg (n2 - (j + 1))
          case rel => exact ⟨j + 1, q + 1, c2, C2, by omega, rfl, by go_num, by rw [HSN2.out]; exact HX5.out⟩
          case measure => omega
        · have HSN2 : Hid (IPt w2 wr (rowsD (L.take (j + 1)) (top : Nat) h) C e q) := by
            show IPt _ _ _ _ _ _
            rw [HSN.out, if_neg (by omega), List.append_nil]
            exact HJ.out
          clear HSN HJ
          go_wp2_with fail
          go_roundg (n2 - (j + 1))
          case rel => exact ⟨j + 1, q, e, C, by omega, rfl, by go_num, HSN2.out⟩
          case measure => omega
      · have HSN2 : Hid (IPt w2 wr (rowsD (L.take (j + 1)) (top : Nat) h) C e q) := by
          show IPt _ _ _ _ _ _
          rw [HSN.out, if_neg (fun h => h1 h.1), List.append_nil]
          exact HJ.out
        have h3 : decide (((top : Nat) : Int) ≤ v) = false := decide_eq_false h1
        clear HSN HJ
        go_wp2_with fail
        go_roundg (n2 - (j + 1))
        case rel => exact ⟨j + 1, q, e, C, by omega, rfl, by go_num, HSN2.out⟩
        case measure => omega
    · obtain rfl : j = n2 := by omega
      have HE : Hid (IntsN w (RowsI xs (min top xs.length) h) (.returned (.slice C q e)) wr) := by
        show IntsN _ _ _ _
        have h1 := HJ.out
        rw [List.take_of_length_le (by rw [HF2.out.2.2]; exact Nat.le_refl _), HLL.out.2] at h1
        exact h1.ans (HF.out.1.trans HF2.out.1)
      clear HJ
      go_wp2_with fail
      go_ret
      exact HE.out
end Go.Proofs.YtblafakafgediaaGreat
namespace Go.Proofs.YtblafakafgediaaGreat
open Go.RowKit Go.Proofs.Dm

structure PLp (W1 w : World) (PB : Nat) (v C : Int) : Prop where
  pb : Blk w PB 26 #[.int .i64 v, .int .i64 C]
  fr : Fr [some PB] W1 w
theorem PLp.fr0 {W1 w w' : World} {PB : Nat} {v C : Int} (h : PLp W1 w PB v C) (hf : Fr [] w w') : PLp W1 w' PB v C := ⟨h.pb.fr hf (by simp), h.fr.trans hf.of_nil⟩
theorem PLp.put {W1 w : World} {PB : Nat} {v C : Int} (h : PLp W1 w PB v C) (r : Int) : PLp W1 (w.setCell ⟨PB, 0, none⟩ (.int .i64 r)) PB r C :=
  ⟨by simpa using h.pb.set_ 0 (.int .i64 r), h.fr.setB (fun _ => by simp) _ _⟩
set_option maxRecDepth 100000 in
set_option maxHeartbeats 1600000 in
theorem dhigh_any (w : World) (x : GD) (xs : List RV) (top h R C : Nat) (left wid pr pc n : Int) (hd : DGr x xs w) (h4 : h ≤ 400) (ht : top ≤ 2 ^ 50) (hs : Sett xs pr pc R C) (hw40 : widthP xs ≤ 40) :
    Calls Tryz.prog 26 #[.agg #[.int .i64 (top : Nat), .int .i64 left, .int .i64 (h : Nat), .int .i64 wid], .agg #[.slice x.B x.m x.d, .bool x.t, .int .i64 x.e], .agg #[.int .i64 pr, .int .i64 pc], .int .i64 n] w fun en w' => en = .returned (.agg #[.int .i64 (highI (R : Nat) (RowsI xs (min top xs.length) h) n), .int .i64 (C : Nat)]) ∧ Fr [] w w' := by
  obtain ⟨W1, hW1⟩ : ∃ W1, W1 = (((w.alloc (.cells #[.int .i64 (top : Nat), .int .i64 left, .int .i64 (h : Nat), .int .i64 wid] 24)).alloc (.cells #[.slice x.B x.m x.d, .bool x.t, .int .i64 x.e] TD11)).alloc (.cells #[.int .i64 pr, .int .i64 pc] 26)).alloc (.cells #[.int .i64 0, .int .i64 0] 26) := ⟨_, rfl⟩
  obtain ⟨VB, hVB⟩ : ∃ VB, VB = w.heap.size := ⟨_, rfl⟩
  obtain ⟨GB, hGB⟩ : ∃ GB, GB = w.heap.size + 1 := ⟨_, rfl⟩
  obtain ⟨PB, hPB⟩ : ∃ PB, PB = w.heap.size + 1 + 1 := ⟨_, rfl⟩
  obtain ⟨RB, hRB⟩ : ∃ RB, RB = w.heap.size + 1 + 1 + 1 := ⟨_, rfl⟩
  have HF : Hid (Fr [] w W1 ∧ Blk W1 VB 24 #[.int .i64 (top : Nat), .int .i64 left, .int .i64 (h : Nat), .int .i64 wid] ∧ Blk W1 GB TD11 #[.slice x.B x.m x.d, .bool x.t, .int .i64 x.e] ∧ Blk W1 PB 26 #[.int .i64 pr, .int .i64 pc] ∧ Blk W1 RB 26 #[.int .i64 0, .int .i64 0]) := by
    have b1 := Blk.new (w.alloc (.cells #[.int .i64 (top : Nat), .int .i64 left, .int .i64 (h : Nat), .int .i64 wid] 24)) TD11 #[.slice x.B x.m x.d, .bool x.t, .int .i64 x.e]
    have b2 := Blk.new ((w.alloc (.cells #[.int .i64 (top : Nat), .int .i64 left, .int .i64 (h : Nat), .int .i64 wid] 24)).alloc (.cells #[.slice x.B x.m x.d, .bool x.t, .int .i64 x.e] TD11)) 26 #[.int .i64 pr, .int .i64 pc]
    have b3 := Blk.new (((w.alloc (.cells #[.int .i64 (top : Nat), .int .i64 left, .int .i64 (h : Nat), .int .i64 wid] 24)).alloc (.cells #[.slice x.B x.m x.d, .bool x.t, .int .i64 x.e] TD11)).alloc (.cells #[.int .i64 pr, .int .i64 pc] 26)) 26 #[.int .i64 0, .int .i64 0]
    simp only [World.size_alloc] at b1 b2 b3
    rw [hW1, hVB, hGB, hPB, hRB]
    exact ⟨((((Fr.refl [] w).alloc _).alloc _).alloc _).alloc _, (((Blk.new w _ _).alloc _).alloc _).alloc _, (b1.alloc _).alloc _, b2.alloc _, b3⟩
  have HNB : Hid (VB = w.heap.size ∧ GB = w.heap.size + 1 ∧ PB = w.heap.size + 1 + 1 ∧ RB = w.heap.size + 1 + 1 + 1) := ⟨hVB, hGB, hPB, hRB⟩
  have HC : Hid (∀ w', Fr [some PB] W1 w' → w'.cell? ⟨VB, 0, none⟩ = some (.int .i64 (top : Nat)) ∧ w'.cell? ⟨VB, 1, none⟩ = some (.int .i64 left) ∧ w'.cell? ⟨VB, 2, none⟩ = some (.int .i64 (h : Nat)) ∧ w'.cell? ⟨VB, 3, none⟩ = some (.int .i64 wid) ∧ w'.cell? ⟨GB, 0, none⟩ = some (.slice x.B x.m x.d) ∧ w'.cell? ⟨GB, 1, none⟩ = some (.bool x.t) ∧ w'.cell? ⟨GB, 2, none⟩ = some (.int .i64 x.e) ∧ w'.cell? ⟨RB, 0, none⟩ = some (.int .i64 0) ∧ w'.cell? ⟨RB, 1, none⟩ = some (.int .i64 0) ∧ w'.frozen? ⟨RB, 0, none⟩ = false ∧ w'.frozen? ⟨RB, 1, none⟩ = false ∧ RB < w'.heap.size) := by
    show ∀ _, _
    intro w' hf
    have h1 := HF.out.2.1.fr hf (by have := HNB.out; simp; omega)
    have h2 := HF.out.2.2.1.fr hf (by have := HNB.out; simp; omega)
    have h3 := HF.out.2.2.2.2.fr hf (by have := HNB.out; simp; omega)
    exact ⟨h1.cell 0, h1.cell 1, h1.cell 2, h1.cell 3, h2.cell 0, h2.cell 1, h2.cell 2, h3.cell 0, h3.cell 1, h3.frozen 0, h3.frozen 1, h3.lt⟩
  have HFW : Hid (∀ w2, Fr [some PB] W1 w2 → Fr [] w w2) := by
    show ∀ _, _
    intro w2 hf
    exact HF.out.1.seq hf fun z hz => by rw [List.mem_singleton] at hz; exact .inr (.inr ⟨PB, by have := HNB.out; omega, hz⟩)
  have HFIN : Hid (∀ w2 v0 v1, Fr [some PB] W1 w2 → Fr [] w ((w2.setCell ⟨RB, 0, none⟩ v0).setCell ⟨RB, 1, none⟩ v1)) := by
    show ∀ _, _
    intro w2 v0 v1 hf
    exact ((HFW.out w2 hf).setB (fun h => absurd h (by have := HNB.out; omega)) _ _).setB (fun h => absurd h (by have := HNB.out; omega)) _ _
  have HST := Lib.hid (dsettle_any W1 x xs pr pc R C (hd.fr0 HF.out.1) hs hw40)
  obtain ⟨L, hL⟩ : ∃ L, L = RowsI xs (min top xs.length) h := ⟨_, rfl⟩
  have HRW : Hid (∀ w', Fr [] w w' → Calls Tryz.prog 22 #[.agg #[.int .i64 (top : Nat), .int .i64 left, .int .i64 (h : Nat), .int .i64 wid], .agg #[.slice x.B x.m x.d, .bool x.t, .int .i64 x.e]] w' (IntsN w' L)) := by
    show ∀ _, _
    intro w' hf
    rw [hL]
    exact drows_any w' x xs top h left wid (hd.fr0 hf) h4 ht
  have HLL : Hid (L.length ≤ 400) := by rw [hL]; have := rowsI_len xs (min top xs.length) h; show _ ≤ _; omega
  rw [← hL]
  obtain ⟨xB, xm, xd, xrs, xt, xe⟩ := x
  simp only at HC hW1 HF HST HRW ⊢
  have HW1 := Lib.hid hW1
  clear hL hW1 hd h4 ht hs hw40
  go_enter Tryz.func26, Tryz.ntmps26
  go_wp2_with fail
  rw [← HW1.out, ← hRB, ← hPB, ← hGB, ← hVB]
  obtain ⟨v0, v1, v2, v3, g0, g1, g2, r0, r1, z0, z1, lr⟩ := HC.out W1 (Fr.refl _ _)
  have p0 : W1.cell? ⟨PB, 0, none⟩ = some (.int .i64 pr) := HF.out.2.2.2.1.cell 0
  have p1 : W1.cell? ⟨PB, 1, none⟩ = some (.int .i64 pc) := HF.out.2.2.2.1.cell 1
  clear hVB hGB hPB hRB v0 v1 v2 v3 r0 r1 z0 z1 lr
  go_wp2_with fail
  refine HST.out.mono ?_
  rintro en w2 ⟨rfl, hf2⟩
  have hb2 := HF.out.2.2.2.1.fr hf2 (by simp)
  have p0 : w2.cell? ⟨PB, 0, none⟩ = some (.int .i64 pr) := hb2.cell 0
  have p1 : w2.cell? ⟨PB, 1, none⟩ = some (.int .i64 pc) := hb2.cell 1
  have y0 := hb2.frozen 0
  have y1 := hb2.frozen 1
  have lp := hb2.lt
  have HP2 : Hid (PLp W1 ((w2.setCell ⟨PB, 0, none⟩ (.int .i64 (R : Nat))).setCell ⟨PB, 1, none⟩ (.int .i64 (C : Nat))) PB (R : Nat) (C : Nat)) := ⟨by simpa using (hb2.set_ 0 (.int .i64 (R : Nat))).set_ 1 (.int .i64 (C : Nat)), (hf2.of_nil.setB (fun _ => by simp) _ _).setB (fun _ => by simp) _ _⟩
  obtain ⟨v0, v1, v2, v3, g0, g1, g2, r0, r1, z0, z1, lr⟩ := HC.out w2 hf2.of_nil
  have n1 : ¬ VB = PB := by have := HNB.out; omega
  have n2 : ¬ GB = PB := by have := HNB.out; omega
  clear HST hf2 hb2 r0 r1 z0 z1 lr
  go_wp2_with fail
  obtain ⟨W3, hW3⟩ : ∃ W3, W3 = (w2.setCell ⟨PB, 0, none⟩ (.int .i64 (R : Nat))).setCell ⟨PB, 1, none⟩ (.int .i64 (C : Nat)) := ⟨_, rfl⟩
  rw [← hW3] at HP2 ⊢
  clear hW3 v0 v1 v2 v3 g0 g1 g2 p0 p1 y0 y1 lp n1 n2
  refine (HRW.out W3 (HFW.out W3 HP2.out.fr)).mono ?_
  rintro en w4 ⟨B4, n4, c4, rfl, hn4, hs4, hf4, hw4⟩
  have HS4 : Hid (Sl w4 B4 (intsV L) ∧ n4 = L.length) := ⟨hs4, hn4⟩
  have HP4 := Lib.hid (HP2.out.fr0 hf4)
  have hn6 : (n4 : Int) ≤ 400 := by have := HLL.out; omega
  have HSL : Hid (∀ wr, Fr [some PB] w4 wr → Sl wr B4 (intsV L)) := by
    show ∀ _, _
    intro wr hf
    refine HS4.out.1.fr hf ?_
    cases hB : bk B4 with
    | none => exact .inl rfl
    | some k =>
      refine .inr fun e => ?_
      rw [List.mem_singleton] at e
      injection e with e
      have h1 := hw4 k hB
      have h2 := HP2.out.pb.lt
      omega
  clear hn4 hs4 hf4 HP2
  go_wp2_with fail
  go_loopg [20] n4 (fun k iv wr => ∃ (j : Nat) (v : Int), k + j = n4 ∧ iv = .int .i64 j ∧ Hid ((PLp W1 wr PB v (C : Nat) ∧ v = highI (R : Nat) (L.take j) n) ∧ Fr [some PB] w4 wr))
  case atStart => exact ⟨0, (R : Nat), by omega, rfl, ⟨HP4.out, rfl⟩, Fr.refl _ _⟩
  case round =>
    obtain ⟨j, v, hj, rfl, HI⟩ := hrel
    by_cases hlt : j < n4
    · have hil : j < L.length := by rw [← HS4.out.2]; exact hlt
      obtain ⟨ad, rfl, hcell⟩ := intsV_at (HSL.out wr HI.out.2) hil
      obtain ⟨r, hr⟩ : ∃ r, r = L[j] := ⟨_, rfl⟩
      rw [← hr] at hcell
      have HSN : Hid (highI (R : Nat) (L.take (j + 1)) n = if (j : Int) = 0 ∨ (j : Int) < n then r else v) := by
        show _ = _
        rw [List.take_succ_eq_append_getElem hil, ← hr, highI_snoc, List.length_take, Nat.min_eq_left (by omega), HI.out.1.2]
      have hj0 : (0 : Int) ≤ (j : Int) := by omega
      have hj1 : (j : Int) < (n4 : Int) := by omega
      have p0 : wr.cell? ⟨PB, 0, none⟩ = some (.int .i64 v) := HI.out.1.1.pb.cell 0
      have y0 := HI.out.1.1.pb.frozen 0
      have lp := HI.out.1.1.pb.lt
      clear hr hil
      have HPU : Hid (PLp W1 (wr.setCell ⟨PB, 0, none⟩ (.int .i64 r)) PB r (C : Nat) ∧ Fr [some PB] w4 (wr.setCell ⟨PB, 0, none⟩ (.int .i64 r))) := ⟨HI.out.1.1.put r, HI.out.2.setB (fun _ => by simp) _ _⟩
      by_cases h0 : j = 0
      · have HSN2 : Hid (r = highI (R : Nat) (L.take (j + 1)) n) := by show _ = _; rw [HSN.out, if_pos (by omega)]
        have h1 : ((j : Int) == 0) = true := by simpa using h0
        clear HSN h0
        go_wp2_with fail
        go_roundg (n4 - (j + 1))
        case rel => exact ⟨j + 1, r, by omega, by go_num, ⟨HPU.out.1, HSN2.out⟩, HPU.out.2⟩
        case measure => omega
      · have h1 : ((j : Int) == 0) = false := by simpa using h0
        have h3 : ¬ (j : Int) = 0 := by omega
        by_cases h2 : (j : Int) < n
        · have HSN2 : Hid (r = highI (R : Nat) (L.take (j + 1)) n) := by show _ = _; rw [HSN.out, if_pos (.inr h2)]
          clear HSN
          go_wp2_with fail
          go_roundg (n4 - (j + 1))
          case rel => exact ⟨j + 1, r, by omega, by go_num, ⟨HPU.out.1, HSN2.out⟩, HPU.out.2⟩
          case measure => omega
        · have HSN2 : Hid (v = highI (R : Nat) (L.take (j + 1)) n) := by show _ = _; rw [HSN.out, if_neg (by omega)]
          clear HSN HPU
          go_wp2_with fail
          go_roundg (n4 - (j + 1))
          case rel => exact ⟨j + 1, v, by omega, by go_num, ⟨HI.out.1.1, HSN2.out⟩, HI.out.2⟩
          case measure => omega
    · obtain rfl : j = n4 := by omega
      have HI : Hid (PLp W1 wr PB v (C : Nat) ∧ v = highI (R : Nat) L n) := by
        have h1 := HI.out.1
        rwa [List.take_of_length_le (by rw [HS4.out.2]; exact Nat.le_refl _)] at h1
      have HE := Lib.hid HI.out
      obtain ⟨_, _, _, _, _, _, _, r0, r1, z0, z1, lr⟩ := HC.out wr HE.out.1.fr
      have p0 : wr.cell? ⟨PB, 0, none⟩ = some (.int .i64 v) := HE.out.1.pb.cell 0
      have p1 : wr.cell? ⟨PB, 1, none⟩ = some (.int .i64 (C : Nat)) := HE.out.1.pb.cell 1
      have n3 : ¬ PB = RB := by have := HNB.out; omega
      clear HI
      go_wp2_with fail
      refine bodyPost_ret (v := .agg #[.int .i64 v, .int .i64 (C : Nat)]) (by simp [results, Tryz.results26, go_sem, *]) rfl ?_
      exact ⟨by rw [HE.out.2], HFIN.out _ _ _ HE.out.1.fr⟩
set_option maxRecDepth 100000 in
set_option maxHeartbeats 1600000 in
theorem dlow_any (w : World) (x : GD) (xs : List RV) (top h R C : Nat) (left wid pr pc n : Int) (hd : DGr x xs w) (h4 : h ≤ 400) (ht : top ≤ 2 ^ 50) (hs : Sett xs pr pc R C) (hw40 : widthP xs ≤ 40) :
    Calls Tryz.prog 27 #[.agg #[.int .i64 (top : Nat), .int .i64 left, .int .i64 (h : Nat), .int .i64 wid], .agg #[.slice x.B x.m x.d, .bool x.t, .int .i64 x.e], .agg #[.int .i64 pr, .int .i64 pc], .int .i64 n] w fun en w' => en = .returned (.agg #[.int .i64 (lowI (R : Nat) (RowsI xs (min top xs.length) h) n), .int .i64 (C : Nat)]) ∧ Fr [] w w' := by
  obtain ⟨W1, hW1⟩ : ∃ W1, W1 = (((w.alloc (.cells #[.int .i64 (top : Nat), .int .i64 left, .int .i64 (h : Nat), .int .i64 wid] 24)).alloc (.cells #[.slice x.B x.m x.d, .bool x.t, .int .i64 x.e] TD11)).alloc (.cells #[.int .i64 pr, .int .i64 pc] 26)).alloc (.cells #[.int .i64 0, .int .i64 0] 26) := ⟨_, rfl⟩
  obtain ⟨VB, hVB⟩ : ∃ VB, VB = w.heap.size := ⟨_, rfl⟩
  obtain ⟨GB, hGB⟩ : ∃ GB, GB = w.heap.size + 1 := ⟨_, rfl⟩
  obtain ⟨PB, hPB⟩ : ∃ PB, PB = w.heap.size + 1 + 1 := ⟨_, rfl⟩
  obtain ⟨RB, hRB⟩ : ∃ RB, RB = w.heap.size + 1 + 1 + 1 := ⟨_, rfl⟩
  have HF : Hid (Fr [] w W1 ∧ Blk W1 VB 24 #[.int .i64 (top : Nat), .int .i64 left, .int .i64 (h : Nat), .int .i64 wid] ∧ Blk W1 GB TD11 #[.slice x.B x.m x.d, .bool x.t, .int .i64 x.e] ∧ Blk W1 PB 26 #[.int .i64 pr, .int .i64 pc] ∧ Blk W1 RB 26 #[.int .i64 0, .int .i64 0]) := by
    have b1 := Blk.new (w.alloc (.cells #[.int .i64 (top : Nat), .int .i64 left, .int .i64 (h : Nat), .int .i64 wid] 24)) TD11 #[.slice x.B x.m x.d, .bool x.t, .int .i64 x.e]
    have b2 := Blk.new ((w.alloc (.cells #[.int .i64 (top : Nat), .int .i64 left, .int .i64 (h : Nat), .int .i64 wid] 24)).alloc (.cells #[.slice x.B x.m x.d, .bool x.t, .int .i64 x.e] TD11)) 26 #[.int .i64 pr, .int .i64 pc]
    have b3 := Blk.new (((w.alloc (.cells #[.int .i64 (top : Nat), .int .i64 left, .int .i64 (h : Nat), .int .i64 wid] 24)).alloc (.cells #[.slice x.B x.m x.d, .bool x.t, .int .i64 x.e] TD11)).alloc (.cells #[.int .i64 pr, .int .i64 pc] 26)) 26 #[.int .i64 0, .int .i64 0]
    simp only [World.size_alloc] at b1 b2 b3
    rw [hW1, hVB, hGB, hPB, hRB]
    exact ⟨((((Fr.refl [] w).alloc _).alloc _).alloc _).alloc _, (((Blk.new w _ _).alloc _).alloc _).alloc _, (b1.alloc _).alloc _, b2.alloc _, b3⟩
  have HNB : Hid (VB = w.heap.size ∧ GB = w.heap.size + 1 ∧ PB = w.heap.size + 1 + 1 ∧ RB = w.heap.size + 1 + 1 + 1) := ⟨hVB, hGB, hPB, hRB⟩
  have HC : Hid (∀ w', Fr [some PB] W1 w' → w'.cell? ⟨VB, 0, none⟩ = some (.int .i64 (top : Nat)) ∧ w'.cell? ⟨VB, 1, none⟩ = some (.int .i64 left) ∧ w'.cell? ⟨VB, 2, none⟩ = some (.int .i64 (h : Nat)) ∧ w'.cell? ⟨VB, 3, none⟩ = some (.int .i64 wid) ∧ w'.cell? ⟨GB, 0, none⟩ = some (.slice x.B x.m x.d) ∧ w'.cell? ⟨GB, 1, none⟩ = some (.bool x.t) ∧ w'.cell? ⟨GB, 2, none⟩ = some (.int .i64 x.e) ∧ w'.cell? ⟨RB, 0, none⟩ = some (.int .i64 0) ∧ w'.cell? ⟨RB, 1, none⟩ = some (.int .i64 0) ∧ w'.frozen? ⟨RB, 0, none⟩ = false ∧ w'.frozen? ⟨RB, 1, none⟩ = false ∧ RB < w'.heap.size) := by
    show ∀ _, _
    intro w' hf
    have h1 := HF.out.2.1.fr hf (by have := HNB.out; simp; omega)
    have h2 := HF.out.2.2.1.fr hf (by have := HNB.out; simp; omega)
    have h3 := HF.out.2.2.2.2.fr hf (by have := HNB.out; simp; omega)
    exact ⟨h1.cell 0, h1.cell 1, h1.cell 2, h1.cell 3, h2.cell 0, h2.cell 1, h2.cell 2, h3.cell 0, h3.cell 1, h3.frozen 0, h3.frozen 1, h3.lt⟩
  have HFW : Hid (∀ w2, Fr [some PB] W1 w2 → Fr [] w w2) := by
    show ∀ _, _
    intro w2 hf
    exact HF.out.1.seq hf fun z hz => by rw [List.mem_singleton] at hz; exact .inr (.inr ⟨PB, by have := HNB.out; omega, hz⟩)
  have HFIN : Hid (∀ w2 v0 v1, Fr [some PB] W1 w2 → Fr [] w ((w2.setCell ⟨RB, 0, none⟩ v0).setCell ⟨RB, 1, none⟩ v1)) := by
    show ∀ _, _
    intro w2 v0 v1 hf
    exact ((HFW.out w2 hf).setB (fun h => absurd h (by have := HNB.out; omega)) _ _).setB (fun h => absurd h (by have := HNB.out; omega)) _ _
  have HST := Lib.hid (dsettle_any W1 x xs pr pc R C (hd.fr0 HF.out.1) hs hw40)
  obtain ⟨L, hL⟩ : ∃ L, L = RowsI xs (min top xs.length) h := ⟨_, rfl⟩
  have HRW : Hid (∀ w', Fr [] w w' → Calls Tryz.prog 22 #[.agg #[.int .i64 (top : Nat), .int .i64 left, .int .i64 (h : Nat), .int .i64 wid], .agg #[.slice x.B x.m x.d, .bool x.t, .int .i64 x.e]] w' (IntsN w' L)) := by
    show ∀ _, _
    intro w' hf
    rw [hL]
    exact drows_any w' x xs top h left wid (hd.fr0 hf) h4 ht
  have HLL : Hid (L.length ≤ 400) := by rw [hL]; have := rowsI_len xs (min top xs.length) h; show _ ≤ _; omega
  rw [← hL]
  obtain ⟨xB, xm, xd, xrs, xt, xe⟩ := x
  simp only at HC hW1 HF HST HRW ⊢
  have HW1 := Lib.hid hW1
  clear hL hW1 hd h4 ht hs hw40
  go_enter Tryz.func27, Tryz.ntmps27
  go_wp2_with fail
  rw [← HW1.out, ← hRB, ← hPB, ← hGB, ← hVB]
  obtain ⟨v0, v1, v2, v3, g0, g1, g2, r0, r1, z0, z1, lr⟩ := HC.out W1 (Fr.refl _ _)
  have p0 : W1.cell? ⟨PB, 0, none⟩ = some (.int .i64 pr) := HF.out.2.2.2.1.cell 0
  have p1 : W1.cell? ⟨PB, 1, none⟩ = some (.int .i64 pc) := HF.out.2.2.2.1.cell 1
  clear hVB hGB hPB hRB v0 v1 v2 v3 r0 r1 z0 z1 lr
  go_wp2_with fail
  refine HST.out.mono ?_
  rintro en w2 ⟨rfl, hf2⟩
  have hb2 := HF.out.2.2.2.1.fr hf2 (by simp)
  have p0 : w2.cell? ⟨PB, 0, none⟩ = some (.int .i64 pr) := hb2.cell 0
  have p1 : w2.cell? ⟨PB, 1, none⟩ = some (.int .i64 pc) := hb2.cell 1
  have y0 := hb2.frozen 0
  have y1 := hb2.frozen 1
  have lp := hb2.lt
  have HP2 : Hid (PLp W1 ((w2.setCell ⟨PB, 0, none⟩ (.int .i64 (R : Nat))).setCell ⟨PB, 1, none⟩ (.int .i64 (C : Nat))) PB (R : Nat) (C : Nat)) := ⟨by simpa using (hb2.set_ 0 (.int .i64 (R : Nat))).set_ 1 (.int .i64 (C : Nat)), (hf2.of_nil.setB (fun _ => by simp) _ _).setB (fun _ => by simp) _ _⟩
  obtain ⟨v0, v1, v2, v3, g0, g1, g2, r0, r1, z0, z1, lr⟩ := HC.out w2 hf2.of_nil
  have n1 : ¬ VB = PB := by have := HNB.out; omega
  have n2 : ¬ GB = PB := by have := HNB.out; omega
  clear HST hf2 hb2 r0 r1 z0 z1 lr
  go_wp2_with fail
  obtain ⟨W3, hW3⟩ : ∃ W3, W3 = (w2.setCell ⟨PB, 0, none⟩ (.int .i64 (R : Nat))).setCell ⟨PB, 1, none⟩ (.int .i64 (C : Nat)) := ⟨_, rfl⟩
  rw [← hW3] at HP2 ⊢
  clear hW3 v0 v1 v2 v3 g0 g1 g2 p0 p1 y0 y1 lp n1 n2
  refine (HRW.out W3 (HFW.out W3 HP2.out.fr)).mono ?_
  rintro en w4 ⟨B4, n4, c4, rfl, hn4, hs4, hf4, hw4⟩
  have HS4 : Hid (Sl w4 B4 (intsV L) ∧ n4 = L.length) := ⟨hs4, hn4⟩
  have HP4 := Lib.hid (HP2.out.fr0 hf4)
  have hn6 : (n4 : Int) ≤ 400 := by have := HLL.out; omega
  have HSL : Hid (∀ wr, Fr [some PB] w4 wr → Sl wr B4 (intsV L)) := by
    show ∀ _, _
    intro wr hf
    refine HS4.out.1.fr hf ?_
    cases hB : bk B4 with
    | none => exact .inl rfl
    | some k =>
      refine .inr fun e => ?_
      rw [List.mem_singleton] at e
      injection e with e
      have h1 := hw4 k hB
      have h2 := HP2.out.pb.lt
      omega
  clear hn4 hs4 hf4 HP2
  go_wp2_with fail
  have hnw : IntKind.i64.wrap ((n4 : Int) - 1) = (n4 : Int) - 1 := IntWalk.i64_in _ (by omega)
  have HN4 := Lib.hid HS4.out.2
  go_loopg [10] n4 (fun k iv wr => ∃ (q : Nat) (j v : Int), k = q ∧ (q : Int) = j + 1 ∧ iv = .int .i64 j ∧ Hid (j < n4) ∧ Hid ((PLp W1 wr PB v (C : Nat) ∧ v = lowI (R : Nat) (L.drop q) n) ∧ Fr [some PB] w4 wr))
  case atStart => exact ⟨n4, (n4 : Int) - 1, (R : Nat), rfl, by omega, rfl, by show _ < _; omega, ⟨HP4.out, by rw [HN4.out, List.drop_length]; rfl⟩, Fr.refl _ _⟩
  case round =>
    obtain ⟨q, j, v, hkq, hkj, rfl, HJN, HI⟩ := hrel
    by_cases hlt : 0 ≤ j
    · obtain ⟨i, rfl⟩ : ∃ i : Nat, j = (i : Int) := Int.eq_ofNat_of_zero_le hlt
      have HK : Hid (q = i + 1) := by show _ = _; omega
      rw [HK.out] at HI
      have hil : i < L.length := by have := HJN.out; have := HN4.out; omega
      obtain ⟨ad, rfl, hcell⟩ := intsV_at (HSL.out wr HI.out.2) hil
      obtain ⟨r, hr⟩ : ∃ r, r = L[i] := ⟨_, rfl⟩
      rw [← hr] at hcell
      have HSN : Hid (lowI (R : Nat) (L.drop i) n = if ((n4 : Int) - 1 = (i : Int)) ∨ (n4 : Int) - (i : Int) ≤ n then r else v) := by
        show _ = _
        rw [List.drop_eq_getElem_cons hil, ← hr, lowI_cons, List.length_drop, ← HN4.out, HI.out.1.2]
        have h1 := HJN.out
        by_cases c : ((n4 : Int) - 1 = (i : Int)) ∨ (n4 : Int) - (i : Int) ≤ n
        · rw [if_pos c, if_pos (by omega)]
        · rw [if_neg c, if_neg (by omega)]
      have hj1 : (i : Int) < (n4 : Int) := HJN.out
      have hdw : IntKind.i64.wrap ((n4 : Int) - (i : Int)) = (n4 : Int) - (i : Int) := IntWalk.i64_in _ (by omega)
      have hiw : IntKind.i64.wrap ((i : Int) - 1) = (i : Int) - 1 := IntWalk.i64_in _ (by omega)
      have p0 : wr.cell? ⟨PB, 0, none⟩ = some (.int .i64 v) := HI.out.1.1.pb.cell 0
      have y0 := HI.out.1.1.pb.frozen 0
      have lp := HI.out.1.1.pb.lt
      have HPU : Hid (PLp W1 (wr.setCell ⟨PB, 0, none⟩ (.int .i64 r)) PB r (C : Nat) ∧ Fr [some PB] w4 (wr.setCell ⟨PB, 0, none⟩ (.int .i64 r))) := ⟨HI.out.1.1.put r, HI.out.2.setB (fun _ => by simp) _ _⟩
      have HIB : Hid ((i : Int) - 1 < (n4 : Int)) := by show _ < _; omega
      clear hr hil hkj
      by_cases h0 : (i : Int) = (n4 : Int) - 1
      · have HSN2 : Hid (r = lowI (R : Nat) (L.drop i) n) := by show _ = _; rw [HSN.out, if_pos (.inl h0.symm)]
        have h1 : ((i : Int) == (n4 : Int) - 1) = true := by simpa using h0
        clear HSN h0
        go_wp2_with fail
        go_roundg i
        case rel => exact ⟨i, (i : Int) - 1, r, rfl, by omega, by first | rfl | go_num, HIB.out, ⟨HPU.out.1, HSN2.out⟩, HPU.out.2⟩
        case measure => have := HK.out; omega
      · have h1 : ((i : Int) == (n4 : Int) - 1) = false := by simpa using h0
        by_cases h2 : (n4 : Int) - (i : Int) ≤ n
        · have HSN2 : Hid (r = lowI (R : Nat) (L.drop i) n) := by show _ = _; rw [HSN.out, if_pos (.inr h2)]
          clear HSN
          go_wp2_with fail
          go_roundg i
          case rel => exact ⟨i, (i : Int) - 1, r, rfl, by omega, by first | rfl | go_num, HIB.out, ⟨HPU.out.1, HSN2.out⟩, HPU.out.2⟩
          case measure => have := HK.out; omega
        · have HSN2 : Hid (v = lowI (R : Nat) (L.drop i) n) := by show _ = _; rw [HSN.out, if_neg (by omega)]
          have h3 : decide ((n4 : Int) - (i : Int) ≤ n) = false := decide_eq_false h2
          clear HSN HPU
          go_wp2_with fail
          go_roundg i
          case rel => exact ⟨i, (i : Int) - 1, v, rfl, by omega, by first | rfl | go_num, HIB.out, ⟨HI.out.1.1, HSN2.out⟩, HI.out.2⟩
          case measure => have := HK.out; omega
    · obtain rfl : q = 0 := by omega
      have HI : Hid (PLp W1 wr PB v (C : Nat) ∧ v = lowI (R : Nat) L n) := by
        have h1 := HI.out.1
        rwa [List.drop_zero] at h1
      have hjm : j < 0 := by omega
      have HE := Lib.hid HI.out
      obtain ⟨_, _, _, _, _, _, _, r0, r1, z0, z1, lr⟩ := HC.out wr HE.out.1.fr
      have p0 : wr.cell? ⟨PB, 0, none⟩ = some (.int .i64 v) := HE.out.1.pb.cell 0
      have p1 : wr.cell? ⟨PB, 1, none⟩ = some (.int .i64 (C : Nat)) := HE.out.1.pb.cell 1
      have n3 : ¬ PB = RB := by have := HNB.out; omega
      clear HI
      go_wp2_with fail
      refine bodyPost_ret (v := .agg #[.int .i64 v, .int .i64 (C : Nat)]) (by simp [results, Tryz.results27, go_sem, *]) rfl ?_
      exact ⟨by rw [HE.out.2], HFIN.out _ _ _ HE.out.1.fr⟩
end Go.Proofs.YtblafakafgediaaGreat
