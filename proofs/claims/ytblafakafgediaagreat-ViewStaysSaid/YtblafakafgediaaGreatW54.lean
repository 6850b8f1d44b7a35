import Derived.Test.YtblafakafgediaaGreatW51
import Derived.Test.YtblafakafgediaaGreatW53
import Derived.Test.YtblafakafgediaaGreatW35
namespace Go.Proofs.YtblafakafgediaaGreat
open Go.RowKit Go.Proofs.Dm

set_option maxRecDepth 100000 in
set_option maxHeartbeats 6400000 in
theorem viewStays_any (w : World) (s0 : List UInt8) (m t l h x pr pc nn : Int) :
    Calls Tryz.prog 3 #[.string ⟨s0.toArray⟩, .int .u64 m, .agg #[.int .i64 t, .int .i64 l, .int .i64 h, .int .i64 x, .int .i64 pr, .int .i64 pc, .int .i64 nn]] w fun e w' => e = .returned (.bool true) ∧ Fr [] w w' := by
  obtain ⟨W1, hW1⟩ : ∃ W1, W1 = w.alloc (.cells #[.int .i64 t, .int .i64 l, .int .i64 h, .int .i64 x, .int .i64 pr, .int .i64 pc, .int .i64 nn] 28) := ⟨_, rfl⟩
  obtain ⟨X5, hX5⟩ : ∃ X5, X5 = w.heap.size := ⟨_, rfl⟩
  have HW : Hid (Fr [] w W1 ∧ Blk W1 X5 28 #[.int .i64 t, .int .i64 l, .int .i64 h, .int .i64 x, .int .i64 pr, .int .i64 pc, .int .i64 nn]) := by
    rw [hW1, hX5]
    exact ⟨(Fr.refl [] w).alloc _, Blk.new w _ _⟩
  have HHI := Lib.hid (hide_any W1 s0 m)
  have HW1 := Lib.hid hW1
  clear hW1
  go_enter Tryz.func3, Tryz.ntmps3
  go_wp2_with fail
  rw [← HW1.out, ← hX5]
  clear hX5
  refine HHI.out.mono ?_
  rintro en w2 ⟨g, p, tl, eo, s, rs, ⟨zB, zm, zd, zrs, zt, ze⟩, ok, rfl, hg2, hf2⟩
  simp only
  have HG2 := Lib.hid hg2
  have HF2 := Lib.hid hf2
  obtain ⟨G7, hG7⟩ : ∃ G7, G7 = w2.heap.size := ⟨_, rfl⟩
  obtain ⟨D9, hD9⟩ : ∃ D9, D9 = w2.heap.size + 1 := ⟨_, rfl⟩
  obtain ⟨W3, hW3⟩ : ∃ W3, W3 = (w2.alloc (.cells #[.pointer p, .bool tl, .int .i64 eo] TGr)).alloc (.cells #[.slice zB zm zd, .bool zt, .int .i64 ze] TD11) := ⟨_, rfl⟩
  have HE3 : Hid (Fr [] w W3 ∧ Blk W3 X5 28 #[.int .i64 t, .int .i64 l, .int .i64 h, .int .i64 x, .int .i64 pr, .int .i64 pc, .int .i64 nn] ∧ Blk W3 G7 TGr #[.pointer p, .bool tl, .int .i64 eo] ∧ HG [] s g p tl eo rs ⟨zB, zm, zd, zrs, zt, ze⟩ W3) := by
    have hf : Fr [] w2 W3 := by rw [hW3]; exact ((Fr.refl [] w2).alloc _).alloc _
    exact ⟨(HW.out.1.trans HF2.out).trans hf, (HW.out.2.fr HF2.out (by simp)).fr hf (by simp), by rw [hW3, hG7]; exact (Blk.new w2 TGr _).alloc _, HG2.out.fr0 hf⟩
  have x0 : W3.cell? ⟨X5, 0, none⟩ = some (.int .i64 t) := HE3.out.2.1.cell 0
  have x1 : W3.cell? ⟨X5, 1, none⟩ = some (.int .i64 l) := HE3.out.2.1.cell 1
  have x2 : W3.cell? ⟨X5, 2, none⟩ = some (.int .i64 h) := HE3.out.2.1.cell 2
  have x3 : W3.cell? ⟨X5, 3, none⟩ = some (.int .i64 x) := HE3.out.2.1.cell 3
  rw [hW3] at x0 x1 x2 x3
  have HW3 := Lib.hid hW3
  clear hW3 hg2 hf2
  go_wp2_with fail
  rw [← HW3.out, ← hD9, ← hG7]
  clear hD9 hG7 x0 x1 x2 x3
  refine (right29_any W3 t l h x).mono ?_
  rintro en w4 ⟨rfl, hf4⟩
  obtain ⟨is, his⟩ : ∃ is, is = decide (RightV t l h x) := ⟨_, rfl⟩
  rw [← his]
  have HIS := Lib.hid his
  obtain ⟨V11, hV11⟩ : ∃ V11, V11 = w4.heap.size := ⟨_, rfl⟩
  obtain ⟨U12, hU12⟩ : ∃ U12, U12 = w4.heap.size + 1 := ⟨_, rfl⟩
  obtain ⟨W5, hW5⟩ : ∃ W5, W5 = (w4.alloc (.cells #[.int .i64 t, .int .i64 l, .int .i64 h, .int .i64 x] 40)).alloc (.cells #[.int .i64 t, .int .i64 l, .int .i64 h, .int .i64 x] 24) := ⟨_, rfl⟩
  have HE5 : Hid (Fr [] w W5 ∧ Blk W5 X5 28 #[.int .i64 t, .int .i64 l, .int .i64 h, .int .i64 x, .int .i64 pr, .int .i64 pc, .int .i64 nn] ∧ Blk W5 G7 TGr #[.pointer p, .bool tl, .int .i64 eo] ∧ HG [] s g p tl eo rs ⟨zB, zm, zd, zrs, zt, ze⟩ W5 ∧ Blk W5 V11 40 #[.int .i64 t, .int .i64 l, .int .i64 h, .int .i64 x]) := by
    have hf : Fr [] w4 W5 := by rw [hW5]; exact ((Fr.refl [] w4).alloc _).alloc _
    have hh := hf4.trans hf
    exact ⟨HE3.out.1.trans hh, HE3.out.2.1.fr hh (by simp), HE3.out.2.2.1.fr hh (by simp), HE3.out.2.2.2.fr0 hh, by rw [hW5, hV11]; exact (Blk.new w4 _ _).alloc _⟩
  have HCX : Hid (∀ w', Fr [] W5 w' → w'.cell? ⟨X5, 4, none⟩ = some (.int .i64 pr) ∧ w'.cell? ⟨X5, 5, none⟩ = some (.int .i64 pc) ∧ w'.cell? ⟨G7, 0, none⟩ = some (.pointer p) ∧ w'.cell? ⟨G7, 1, none⟩ = some (.bool tl) ∧ w'.cell? ⟨G7, 2, none⟩ = some (.int .i64 eo) ∧ w'.cell? ⟨V11, 0, none⟩ = some (.int .i64 t) ∧ w'.cell? ⟨V11, 1, none⟩ = some (.int .i64 l) ∧ w'.cell? ⟨V11, 2, none⟩ = some (.int .i64 h) ∧ w'.cell? ⟨V11, 3, none⟩ = some (.int .i64 x)) := by
    show ∀ _, _
    intro w' hf
    have h1 := HE5.out.2.1.fr hf (by simp)
    have h2 := HE5.out.2.2.1.fr hf (by simp)
    have h3 := HE5.out.2.2.2.2.fr hf (by simp)
    exact ⟨h1.cell 4, h1.cell 5, h2.cell 0, h2.cell 1, h2.cell 2, h3.cell 0, h3.cell 1, h3.cell 2, h3.cell 3⟩
  have HW5 := Lib.hid hW5
  clear hW5 his hf4
  cases ok with
  | false =>
    go_wp2_with fail
    rw [← HW5.out]
    clear hU12 hV11
    refine (awake29_yes W5).mono ?_
    rintro en w6 ⟨rfl, hf6⟩
    have HF6 := Lib.hid (HE5.out.1.trans hf6)
    clear hf6
    go_wp2_with fail
    go_ret
    exact ⟨rfl, HF6.out⟩
  | true =>
    cases is with
    | false =>
      go_wp2_with fail
      rw [← HW5.out]
      clear hU12 hV11
      refine (awake29_yes W5).mono ?_
      rintro en w6 ⟨rfl, hf6⟩
      have HF6 := Lib.hid (HE5.out.1.trans hf6)
      clear hf6
      go_wp2_with fail
      go_ret
      exact ⟨rfl, HF6.out⟩
    | true =>
      obtain ⟨d0, d1, d2, d3, d4, d5, d6, d7, d8⟩ := HCX.out W5 (Fr.refl _ _)
      rw [HW5.out] at d0 d1
      clear d2 d3 d4 d5 d6 d7 d8
      go_wp2_with fail
      rw [← HW5.out, ← hU12, ← hV11]
      clear hU12 hV11 d0 d1
      refine (small29_any W5 pr pc).mono ?_
      rintro en w6 ⟨rfl, hf6⟩
      obtain ⟨sm, hsm⟩ : ∃ sm, sm = decide (SmallP pr pc) := ⟨_, rfl⟩
      rw [← hsm]
      have HF6 := Lib.hid hf6
      clear hsm hf6
      cases sm with
      | false =>
        go_wp2_with fail
        refine (awake29_yes w6).mono ?_
        rintro en w7 ⟨rfl, hf7⟩
        have HF7 := Lib.hid ((HE5.out.1.trans HF6.out).trans hf7)
        clear hf7
        go_wp2_with fail
        go_ret
        exact ⟨rfl, HF7.out⟩
      | true =>
        have hrv : RightV t l h x := of_decide_eq_true HIS.out.symm
        obtain ⟨top, rfl⟩ : ∃ top : Nat, t = top := Int.eq_ofNat_of_zero_le hrv.2.2.2.2.1
        obtain ⟨left, rfl⟩ : ∃ left : Nat, l = left := Int.eq_ofNat_of_zero_le hrv.2.2.2.2.2.2.1
        obtain ⟨hh, rfl⟩ : ∃ hh : Nat, h = hh := Int.eq_ofNat_of_zero_le (by have := hrv.1; omega)
        obtain ⟨wid, rfl⟩ : ∃ wid : Nat, x = wid := Int.eq_ofNat_of_zero_le (by have := hrv.2.2.1; omega)
        have HV : Hid (1 ≤ hh ∧ hh ≤ 400 ∧ 1 ≤ wid ∧ wid ≤ 40 ∧ top ≤ 1099511627776 ∧ left ≤ 1099511627776) := by
          obtain ⟨c1, c2, c3, c4, c5, c6, c7, c8⟩ := hrv
          exact ⟨by omega, by omega, by omega, by omega, by omega, by omega⟩
        clear hrv HIS
        obtain ⟨xs, hxs⟩ : ∃ xs, xs = rs.map Prod.fst := ⟨_, rfl⟩
        obtain ⟨R, C, hset⟩ := sett_ex (rs.map Prod.fst) pr pc
        have HSET := Lib.hid hset
        have HC4 : Hid (C ≤ 40) := by have h1 := hset.col; have h2 := HG2.out.wids.2; show _ ≤ _; omega
        obtain ⟨T, hT⟩ : ∃ T, T = follT (rs.map Prod.fst) R top hh (hidAt (rs.map Prod.fst) R) := ⟨_, rfl⟩
        obtain ⟨lf, hlf⟩ : ∃ lf : Nat, (lf : Int) = max (min (left : Int) C) ((C : Int) - wid + 1) := ⟨(max (min (left : Int) C) ((C : Int) - wid + 1)).toNat, by omega⟩
        have HLF := Lib.hid hlf
        have hRL : R < (rs.map Prod.fst).length ∨ R = 0 := by
          rcases hset.set_ with h | h
          · exact .inl h.1
          · exact .inr h.1
        obtain ⟨q1, q2, q3, q4⟩ := foll_props (top := top) (h := hh) (rh := hidAt (rs.map Prod.fst) R) hset.set_ HV.out.1 (by
          rcases Nat.lt_or_ge R (rs.map Prod.fst).length with h | h
          · exact .inl ⟨h, rfl⟩
          · refine .inr ⟨by omega, ?_⟩
            unfold hidAt
            rw [List.getD_eq_getElem?_getD, List.getElem?_eq_none h]
            rfl)
        rw [← hT] at q1 q2 q3 q4
        have HQ : Hid ((((R : Nat) : Int) ∈ RowsI (rs.map Prod.fst) (min T (rs.map Prod.fst).length) hh ∨ ∀ i, i < (rs.map Prod.fst).length → hidAt (rs.map Prod.fst) i = true) ∧ (((R : Nat) : Int) ∈ RowsI (rs.map Prod.fst) (min top (rs.map Prod.fst).length) hh → T = top)) := ⟨q1, q3⟩
        have HTB : Hid (T ≤ 2 ^ 50 ∧ lf ≤ 2 ^ 50) := by have h1 := HV.out; have h2 := HC4.out; have h3 := HG2.out.xn; exact ⟨by omega, by omega⟩
        have HCS : Hid (∀ w', Fr [] W5 w' → (Calls Tryz.prog 15 #[.agg #[.pointer p, .bool tl, .int .i64 eo], .agg #[.int .i64 pr, .int .i64 pc]] w' fun en w'' => en = .returned (.agg #[.int .i64 (R : Nat), .int .i64 (C : Nat)]) ∧ Fr [] w' w'')) := by
          show ∀ _, _
          intro w' hf
          exact (HE5.out.2.2.2.1.fr0 hf).settle HSET.out
        have HCF : Hid (∀ w', Fr [] W5 w' → (Calls Tryz.prog 16 #[.agg #[.int .i64 (top : Nat), .int .i64 (left : Nat), .int .i64 (hh : Nat), .int .i64 (wid : Nat)], .agg #[.pointer p, .bool tl, .int .i64 eo], .agg #[.int .i64 (R : Nat), .int .i64 (C : Nat)]] w' fun en w'' => en = .returned (.agg #[.int .i64 (T : Nat), .int .i64 (lf : Nat), .int .i64 (hh : Nat), .int .i64 (wid : Nat)]) ∧ Fr [] w' w'') ∧ (Calls Tryz.prog 16 #[.agg #[.int .i64 (T : Nat), .int .i64 (lf : Nat), .int .i64 (hh : Nat), .int .i64 (wid : Nat)], .agg #[.pointer p, .bool tl, .int .i64 eo], .agg #[.int .i64 (R : Nat), .int .i64 (C : Nat)]] w' fun en w'' => en = .returned (.agg #[.int .i64 (T : Nat), .int .i64 (lf : Nat), .int .i64 (hh : Nat), .int .i64 (wid : Nat)]) ∧ Fr [] w' w'')) := by
          show ∀ _, _
          intro w' hf
          have h1 := HV.out
          have h2 := HTB.out
          exact ⟨(HE5.out.2.2.2.1.fr0 hf).follow HSET.out.again h1.1 h1.2.1 h1.2.2.2.1 (by omega) (by omega) hT hlf, (HE5.out.2.2.2.1.fr0 hf).follow HSET.out.again h1.1 h1.2.1 h1.2.2.2.1 h2.1 h2.2 q2.symm (by omega)⟩
        have HCV : Hid (∀ w', Fr [] W5 w' → Calls Tryz.prog 17 #[.agg #[.pointer p, .bool tl, .int .i64 eo]] w' (IntsA w' ((shownR (allR (rs.map Prod.fst) 0 (rs.map Prod.fst).length)).map fun x => (x.1 : Int)))) := by
          show ∀ _, _
          intro w' hf
          exact (HE5.out.2.2.2.1.fr0 hf).vis
        have HCR : Hid (∀ w', Fr [] W5 w' → (Calls Tryz.prog 18 #[.agg #[.int .i64 (T : Nat), .int .i64 (lf : Nat), .int .i64 (hh : Nat), .int .i64 (wid : Nat)], .agg #[.pointer p, .bool tl, .int .i64 eo]] w' (IntsA w' (RowsI (rs.map Prod.fst) (min T (rs.map Prod.fst).length) hh))) ∧ Calls Tryz.prog 18 #[.agg #[.int .i64 (top : Nat), .int .i64 (left : Nat), .int .i64 (hh : Nat), .int .i64 (wid : Nat)], .agg #[.pointer p, .bool tl, .int .i64 eo]] w' (IntsA w' (RowsI (rs.map Prod.fst) (min top (rs.map Prod.fst).length) hh))) := by
          show ∀ _, _
          intro w' hf
          exact ⟨(HE5.out.2.2.2.1.fr0 hf).rows T hh lf wid HV.out.2.1, (HE5.out.2.2.2.1.fr0 hf).rows top hh left wid HV.out.2.1⟩
        obtain ⟨LY, hLY⟩ : ∃ LY, LY = RowsI (rs.map Prod.fst) (min T (rs.map Prod.fst).length) hh := ⟨_, rfl⟩
        obtain ⟨LV, hLV⟩ : ∃ LV, LV = RowsI (rs.map Prod.fst) (min top (rs.map Prod.fst).length) hh := ⟨_, rfl⟩
        obtain ⟨LS, hLS⟩ : ∃ LS, LS = (shownR (allR (rs.map Prod.fst) 0 (rs.map Prod.fst).length)).map fun x => (x.1 : Int) := ⟨_, rfl⟩
        have HLL : Hid (LY.length ≤ 400 ∧ LV.length ≤ 400 ∧ ((R : Nat) : Int) ∈ LY ∨ LS.length = 0) := by
          rcases HQ.out.1 with h | h
          · refine .inl ⟨?_, ?_, by rw [hLY]; exact h⟩
            · rw [hLY]; have := rowsI_len (rs.map Prod.fst) (min T (rs.map Prod.fst).length) hh; have := HV.out; omega
            · rw [hLV]; have := rowsI_len (rs.map Prod.fst) (min top (rs.map Prod.fst).length) hh; have := HV.out; omega
          · refine .inr ?_
            rw [hLS, List.length_map]
            exact vis_nil.2 h
        have HL4 : Hid (LY.length ≤ 400 ∧ LV.length ≤ 400) := by
          constructor
          · rw [hLY]; have := rowsI_len (rs.map Prod.fst) (min T (rs.map Prod.fst).length) hh; have := HV.out; omega
          · rw [hLV]; have := rowsI_len (rs.map Prod.fst) (min top (rs.map Prod.fst).length) hh; have := HV.out; omega
        have HSV : Hid (((R : Nat) : Int) ∈ LV → T = top) := by rw [hLV]; exact HQ.out.2
        rw [← hLY, ← hLV] at HCR
        rw [← hLS] at HCV
        clear hset hT hlf hRL q1 q2 q3 q4 hLY hLV hLS hxs
        obtain ⟨d0, d1, d2, d3, d4, d5, d6, d7, d8⟩ := HCX.out w6 HF6.out
        go_wp2_with fail
        refine (HCS.out w6 HF6.out).mono ?_
        rintro en w7 ⟨rfl, hf7⟩
        have HF7 : Hid (Fr [] W5 w7) := HF6.out.trans hf7
        have HW8 : Hid (∀ W P, W = w7.alloc (.cells #[.int .i64 (R : Nat), .int .i64 (C : Nat)] 45) → P = w7.heap.size → Fr [] W5 W ∧ Blk W P 45 #[.int .i64 (R : Nat), .int .i64 (C : Nat)]) := by
          show ∀ _, _
          rintro W P rfl rfl
          exact ⟨HF7.out.alloc _, Blk.new w7 _ _⟩
        clear d0 d1 d2 d3 d4 d5 d6 d7 d8 hf7
        obtain ⟨_, _, d2, d3, d4, d5, d6, d7, d8⟩ := HCX.out (w7.alloc (.cells #[.int .i64 (R : Nat), .int .i64 (C : Nat)] 45)) (HF7.out.alloc _)
        go_wp2_with fail
        obtain ⟨w8, hw8⟩ : ∃ w8, w8 = w7.alloc (.cells #[.int .i64 (R : Nat), .int .i64 (C : Nat)] 45) := ⟨_, rfl⟩
        obtain ⟨P14, hP14⟩ : ∃ P14, P14 = w7.heap.size := ⟨_, rfl⟩
        obtain ⟨k1, k2⟩ := HW8.out w8 P14 hw8 hP14
        rw [← hw8, ← hP14]
        have HF8 := Lib.hid k1
        have HP8 := Lib.hid k2
        clear hw8 hP14 k1 k2 HW8 d2 d3 d4 d5 d6 d7 d8
        refine (HCF.out w8 HF8.out).1.mono ?_
        rintro en w9 ⟨rfl, hf9⟩
        have HF9 : Hid (Fr [] W5 w9) := HF8.out.trans hf9
        have HWC : Hid (∀ W Y, W = w9.alloc (.cells #[.int .i64 (T : Nat), .int .i64 (lf : Nat), .int .i64 (hh : Nat), .int .i64 (wid : Nat)] 40) → Y = w9.heap.size → Fr [] W5 W ∧ Blk W Y 40 #[.int .i64 (T : Nat), .int .i64 (lf : Nat), .int .i64 (hh : Nat), .int .i64 (wid : Nat)] ∧ Blk W P14 45 #[.int .i64 (R : Nat), .int .i64 (C : Nat)]) := by
          show ∀ _, _
          rintro W Y rfl rfl
          exact ⟨HF9.out.alloc _, Blk.new w9 _ _, (HP8.out.fr hf9 (by simp)).alloc _⟩
        clear hf9
        obtain ⟨_, _, d2, d3, d4, d5, d6, d7, d8⟩ := HCX.out (w9.alloc (.cells #[.int .i64 (T : Nat), .int .i64 (lf : Nat), .int .i64 (hh : Nat), .int .i64 (wid : Nat)] 40)) (HF9.out.alloc _)
        go_wp2_with fail
        obtain ⟨WC, hWC⟩ : ∃ WC, WC = w9.alloc (.cells #[.int .i64 (T : Nat), .int .i64 (lf : Nat), .int .i64 (hh : Nat), .int .i64 (wid : Nat)] 40) := ⟨_, rfl⟩
        obtain ⟨Y15, hY15⟩ : ∃ Y15, Y15 = w9.heap.size := ⟨_, rfl⟩
        obtain ⟨k1, k2, k3⟩ := HWC.out WC Y15 hWC hY15
        rw [← hWC, ← hY15]
        have HFC := Lib.hid k1
        have HBC : Hid (Blk WC Y15 40 #[.int .i64 (T : Nat), .int .i64 (lf : Nat), .int .i64 (hh : Nat), .int .i64 (wid : Nat)] ∧ Blk WC P14 45 #[.int .i64 (R : Nat), .int .i64 (C : Nat)]) := ⟨k2, k3⟩
        clear hWC hY15 k1 k2 k3 HWC d2 d3 d4 d5 d6 d7 d8
        have HCE : Hid (∀ w', Fr [] WC w' → w'.cell? ⟨G7, 0, none⟩ = some (.pointer p) ∧ w'.cell? ⟨G7, 1, none⟩ = some (.bool tl) ∧ w'.cell? ⟨G7, 2, none⟩ = some (.int .i64 eo) ∧ w'.cell? ⟨V11, 0, none⟩ = some (.int .i64 (top : Nat)) ∧ w'.cell? ⟨V11, 1, none⟩ = some (.int .i64 (left : Nat)) ∧ w'.cell? ⟨V11, 2, none⟩ = some (.int .i64 (hh : Nat)) ∧ w'.cell? ⟨V11, 3, none⟩ = some (.int .i64 (wid : Nat)) ∧ w'.cell? ⟨Y15, 0, none⟩ = some (.int .i64 (T : Nat)) ∧ w'.cell? ⟨Y15, 1, none⟩ = some (.int .i64 (lf : Nat)) ∧ w'.cell? ⟨Y15, 2, none⟩ = some (.int .i64 (hh : Nat)) ∧ w'.cell? ⟨Y15, 3, none⟩ = some (.int .i64 (wid : Nat)) ∧ w'.cell? ⟨P14, 0, none⟩ = some (.int .i64 (R : Nat)) ∧ w'.cell? ⟨P14, 1, none⟩ = some (.int .i64 (C : Nat))) := by
          show ∀ _, _
          intro w' hf
          obtain ⟨_, _, e1, e2, e3, e4, e5, e6, e7⟩ := HCX.out w' (HFC.out.trans hf)
          have h2 := HBC.out.1.fr hf (by simp)
          have h3 := HBC.out.2.fr hf (by simp)
          exact ⟨e1, e2, e3, e4, e5, e6, e7, h2.cell 0, h2.cell 1, h2.cell 2, h2.cell 3, h3.cell 0, h3.cell 1⟩
        refine (HCV.out WC HFC.out).mono ?_
        rintro en w10 ⟨B10, n10, c10, rfl, hn10, hs10, hf10⟩
        have HF10 := Lib.hid hf10
        have HN10 := Lib.hid hn10
        clear hn10 hs10 hf10
        obtain ⟨g0, g1, g2, v0, v1, v2, v3, y0, y1, y2, y3, p0, p1⟩ := HCE.out w10 HF10.out
        go_wp2_with fail
        refine (HCR.out w10 (HFC.out.trans HF10.out)).1.mono ?_
        rintro en w11 ⟨B11, n11, c11, rfl, hn11, hs11, hf11⟩
        have HF11 : Hid (Fr [] WC w11) := HF10.out.trans hf11
        have HN11 : Hid (n11 = LY.length ∧ Sl w11 B11 (intsV LY)) := ⟨hn11, hs11⟩
        clear g0 g1 g2 v0 v1 v2 v3 y0 y1 y2 y3 p0 p1 hn11 hs11 hf11
        obtain ⟨b0, hb0⟩ : ∃ b0, b0 = ((n10 : Int) == 0) := ⟨_, rfl⟩
        have HB0 := Lib.hid hb0
        rw [← hb0]
        clear hb0
        have hn11b : (n11 : Int) ≤ 400 := by have h1 := HN11.out.1; have h2 := HL4.out; omega
        go_wp2_with fail
        go_loopg [75, 16] n11 (fun k iv sv wr => ∃ (i : Nat) (b : Bool), k + i = n11 ∧ iv = .int .i64 i ∧ sv = .bool b ∧ Hid (Fr [] w11 wr ∧ b = (b0 || decide (((R : Nat) : Int) ∈ LY.take i))))
        case atStart => exact ⟨0, b0, by omega, rfl, rfl, Fr.refl _ _, by simp⟩
        case round =>
          obtain ⟨i, b, hi, rfl, rfl, HI⟩ := hrel
          by_cases hlt : i < n11
          · have hil : i < LY.length := by rw [← HN11.out.1]; exact hlt
            obtain ⟨ad, rfl, hcell⟩ := intsV_at (HN11.out.2.fr HI.out.1 (.inr List.not_mem_nil)) hil
            obtain ⟨v, hv⟩ : ∃ v, v = LY[i] := ⟨_, rfl⟩
            rw [← hv] at hcell
            have HTK : Hid (LY.take (i + 1) = LY.take i ++ [v]) := by show _ = _; rw [List.take_succ_eq_append_getElem hil, hv]
            have hi0 : (0 : Int) ≤ (i : Int) := by omega
            have hi1 : (i : Int) < (n11 : Int) := by omega
            obtain ⟨_, _, _, _, _, _, _, _, _, _, _, p0, _⟩ := HCE.out wr (HF11.out.trans HI.out.1)
            clear hv hil
            cases b with
            | true =>
              go_wp2_with fail
              go_roundg (n11 - (i + 1))
              case rel => exact ⟨i + 1, true, by omega, by go_num, rfl, HI.out.1, by
                have h2 := HI.out.2
                rw [HTK.out]
                cases b0 with
                | true => rfl
                | false =>
                  rw [Bool.false_or] at h2 ⊢
                  exact (decide_eq_true (List.mem_append_left _ (of_decide_eq_true h2.symm))).symm⟩
              case measure => omega
            | false =>
              go_wp2_with fail
              go_roundg (n11 - (i + 1))
              case rel => exact ⟨i + 1, (v == ((R : Nat) : Int)), by omega, by go_num, rfl, HI.out.1, by
                have h2 := HI.out.2
                rw [HTK.out]
                cases b0 with
                | true => cases h2
                | false =>
                  rw [Bool.false_or] at h2 ⊢
                  have h3 : ((R : Nat) : Int) ∉ LY.take i := of_decide_eq_false h2.symm
                  rw [Bool.eq_iff_iff, beq_iff_eq, decide_eq_true_iff, List.mem_append, List.mem_singleton]
                  exact ⟨fun h => .inr h.symm, fun h => h.elim (fun h => absurd h h3) Eq.symm⟩⟩
              case measure => omega
          · obtain rfl : i = n11 := by omega
            have hbt : b = true := by
              have h2 := HI.out.2
              rw [List.take_of_length_le (by rw [← HN11.out.1]; exact Nat.le_refl _)] at h2
              rw [h2]
              rcases HLL.out with h3 | h3
              · rw [decide_eq_true h3.2.2, Bool.or_true]
              · have h4 : b0 = true := by rw [HB0.out, HN10.out, h3]; rfl
                rw [h4]; rfl
            subst hbt
            have HI1 := Lib.hid HI.out.1
            clear HI hlt hi
            obtain ⟨g0, g1, g2, v0, v1, v2, v3, y0, y1, y2, y3, p0, p1⟩ := HCE.out wr (HF11.out.trans HI1.out)
            go_wp2_with fail
            refine (HCR.out wr (HFC.out.trans (HF11.out.trans HI1.out))).2.mono ?_
            rintro en w13 ⟨B13, n13, c13, rfl, hn13, hs13, hf13⟩
            have HF13 : Hid (Fr [] WC w13) := (HF11.out.trans HI1.out).trans hf13
            have HN13 : Hid (n13 = LV.length ∧ Sl w13 B13 (intsV LV)) := ⟨hn13, hs13⟩
            clear g0 g1 g2 v0 v1 v2 v3 y0 y1 y2 y3 p0 p1 hn13 hs13 hf13
            have hn13b : (n13 : Int) ≤ 400 := by have h1 := HN13.out.1; have h2 := HL4.out; omega
            obtain ⟨cr, hcr⟩ : ∃ cr, cr = decide ((left : Int) ≤ (C : Int) ∧ (C : Int) < (left : Int) + (wid : Int)) := ⟨_, rfl⟩
            have HCRR := Lib.hid hcr
            have hlw : IntKind.i64.wrap ((left : Int) + (wid : Int)) = (left : Int) + (wid : Int) := IntWalk.i64_in _ (by have := HV.out; omega)
            clear hcr
            obtain ⟨nY, rfl⟩ : ∃ nY, nY = i := ⟨_, rfl⟩
            go_wp2_with fail
            go_loopg [91, 19] n13 (fun k iv sv wr => ∃ (i : Nat) (b : Bool), k + i = n13 ∧ iv = .int .i64 i ∧ sv = .bool b ∧ Hid (Fr [] w13 wr ∧ b = (decide (((R : Nat) : Int) ∈ LV.take i) && cr)))
            case atStart => exact ⟨0, false, by omega, rfl, rfl, Fr.refl _ _, by simp⟩
            case round =>
              obtain ⟨i, b, hi, rfl, rfl, HI⟩ := hrel
              by_cases hlt : i < n13
              · have hil : i < LV.length := by rw [← HN13.out.1]; exact hlt
                obtain ⟨ad, rfl, hcell⟩ := intsV_at (HN13.out.2.fr HI.out.1 (.inr List.not_mem_nil)) hil
                obtain ⟨v, hv⟩ : ∃ v, v = LV[i] := ⟨_, rfl⟩
                rw [← hv] at hcell
                have HTK : Hid (LV.take (i + 1) = LV.take i ++ [v]) := by show _ = _; rw [List.take_succ_eq_append_getElem hil, hv]
                have hi0 : (0 : Int) ≤ (i : Int) := by omega
                have hi1 : (i : Int) < (n13 : Int) := by omega
                obtain ⟨_, _, _, v0, v1, v2, v3, _, _, _, _, p0, p1⟩ := HCE.out wr (HF13.out.trans HI.out.1)
                clear hv hil
                cases b with
                | true =>
                  go_wp2_with fail
                  go_roundg (n13 - (i + 1))
                  case rel => exact ⟨i + 1, true, by omega, by go_num, rfl, HI.out.1, by
                    have h2 := HI.out.2
                    rw [HTK.out]
                    have h3 := (Bool.and_eq_true_iff.1 h2.symm)
                    rw [h3.2, decide_eq_true (List.mem_append_left _ (of_decide_eq_true h3.1))]
                    rfl⟩
                  case measure => omega
                | false =>
                  have HNI : Hid (cr = true → ((R : Nat) : Int) ∉ LV.take i) := by
                    show _ → _
                    intro e
                    have h2 := HI.out.2
                    rw [e, Bool.and_true] at h2
                    exact of_decide_eq_false h2.symm
                  by_cases hvr : v = ((R : Nat) : Int)
                  · have e1 : (v == ((R : Nat) : Int)) = true := by simpa using hvr
                    by_cases hc1 : (left : Int) ≤ (C : Int)
                    · by_cases hc2 : (C : Int) < (left : Int) + (wid : Int)
                      · have HCT : Hid (cr = true) := by show _ = _; rw [HCRR.out]; exact decide_eq_true ⟨hc1, hc2⟩
                        have HVR := Lib.hid hvr
                        clear hvr
                        go_wp2_with fail
                        go_roundg (n13 - (i + 1))
                        case rel => exact ⟨i + 1, true, by omega, by go_num, rfl, HI.out.1, by
                          rw [HTK.out, HCT.out, Bool.and_true]
                          exact (decide_eq_true (List.mem_append_right _ (List.mem_singleton.2 HVR.out.symm))).symm⟩
                        case measure => omega
                      · have HCT : Hid (cr = false) := by show _ = _; rw [HCRR.out]; exact decide_eq_false fun h => hc2 h.2
                        clear hvr
                        go_wp2_with fail
                        go_roundg (n13 - (i + 1))
                        case rel => exact ⟨i + 1, false, by omega, by go_num, rfl, HI.out.1, by rw [HCT.out, Bool.and_false]⟩
                        case measure => omega
                    · have HCT : Hid (cr = false) := by show _ = _; rw [HCRR.out]; exact decide_eq_false fun h => hc1 h.1
                      have e2 : decide ((left : Int) ≤ (C : Int)) = false := decide_eq_false hc1
                      clear hvr
                      go_wp2_with fail
                      go_roundg (n13 - (i + 1))
                      case rel => exact ⟨i + 1, false, by omega, by go_num, rfl, HI.out.1, by rw [HCT.out, Bool.and_false]⟩
                      case measure => omega
                  · have e1 : (v == ((R : Nat) : Int)) = false := by simpa using hvr
                    have HVR := Lib.hid hvr
                    clear hvr
                    go_wp2_with fail
                    go_roundg (n13 - (i + 1))
                    case rel => exact ⟨i + 1, false, by omega, by go_num, rfl, HI.out.1, by
                      rw [HTK.out]
                      cases hcr : cr with
                      | false => rw [Bool.and_false]
                      | true =>
                        have h3 := HNI.out hcr
                        rw [Bool.and_true]
                        refine (decide_eq_false fun h => ?_).symm
                        rcases List.mem_append.1 h with h | h
                        · exact h3 h
                        · exact HVR.out (List.mem_singleton.1 h).symm⟩
                    case measure => omega
              · obtain rfl : i = n13 := by omega
                have HBB : Hid (b = (decide (((R : Nat) : Int) ∈ LV) && cr)) := by
                  have h2 := HI.out.2
                  rwa [List.take_of_length_le (by rw [← HN13.out.1]; exact Nat.le_refl _)] at h2
                have HF14 : Hid (Fr [] WC wr) := HF13.out.trans HI.out.1
                clear HI hlt hi
                obtain ⟨g0, g1, g2, v0, v1, v2, v3, y0, y1, y2, y3, p0, p1⟩ := HCE.out wr HF14.out
                have f1 : (lf : Int) ≤ (C : Int) := by have h1 := HLF.out; have h2 := HV.out; omega
                have f2 : (C : Int) < (lf : Int) + (wid : Int) := by have h1 := HLF.out; have h2 := HV.out; omega
                have hlw2 : IntKind.i64.wrap ((lf : Int) + (wid : Int)) = (lf : Int) + (wid : Int) := IntWalk.i64_in _ (by have h1 := HTB.out; have h2 := HV.out; omega)
                have HBE : Hid (b = true → T = top ∧ lf = left) := by
                  show _ → _
                  intro e
                  have h3 := Bool.and_eq_true_iff.1 (HBB.out.symm.trans e)
                  have hcc : (left : Int) ≤ (C : Int) ∧ (C : Int) < (left : Int) + (wid : Int) := by
                    have h4 := h3.2
                    rw [HCRR.out] at h4
                    exact of_decide_eq_true h4
                  have h1 := HLF.out
                  exact ⟨HSV.out (of_decide_eq_true h3.1), by omega⟩
                go_wp2_with fail
                have HCEW := Lib.hid (fun w' (hf : Fr [] wr w') => HCE.out w' (HF14.out.trans hf))
                clear g0 g1 g2 v0 v1 v2 v3 y0 y1 y2 y3 p0 p1
                obtain ⟨F, hF⟩ : ∃ F : World → Nat → Value → Prop, F = (fun (w : World) (i : Nat) (v : Value) => match i with | 0 => v = .bool true | 1 => v = .bool true | 2 => v = .pointer (some ⟨Y15, 1, none⟩) | 3 => v = .int .i64 (lf : Nat) | 4 => v = .pointer (some ⟨P14, 1, none⟩) | 5 => v = .int .i64 (C : Nat) | 6 => v = .bool true | 7 => v = .bool true | 8 => v = .bool true | 9 => v = .pointer (some ⟨P14, 1, none⟩) | 10 => v = .int .i64 (C : Nat) | 11 => v = .pointer (some ⟨Y15, 1, none⟩) | 12 => v = .int .i64 (lf : Nat) | 13 => v = .pointer (some ⟨Y15, 3, none⟩) | 14 => v = .int .i64 (wid : Nat) | 15 => v = .int .i64 ((lf : Int) + (wid : Int)) | 16 => v = .bool true | 17 => v = .bool true | 18 => v = .bool true | 19 => v = .agg #[.int .i64 (T : Nat), .int .i64 (lf : Nat), .int .i64 (hh : Nat), .int .i64 (wid : Nat)] | 20 => v = .agg #[.pointer p, .bool tl, .int .i64 eo] | 21 => v = .agg #[.int .i64 (R : Nat), .int .i64 (C : Nat)] | 22 => v = .agg #[.int .i64 (T : Nat), .int .i64 (lf : Nat), .int .i64 (hh : Nat), .int .i64 (wid : Nat)] | 23 => v = .agg #[.int .i64 (T : Nat), .int .i64 (lf : Nat), .int .i64 (hh : Nat), .int .i64 (wid : Nat)] | 24 => v = .bool true | 25 => v = .bool true | 26 => v = .bool true | 27 => v = .bool b | 28 => v = .bool (!b) | 29 => v = .bool (!b) | 30 => v = cond b (.agg #[.int .i64 (T : Nat), .int .i64 (lf : Nat), .int .i64 (hh : Nat), .int .i64 (wid : Nat)]) undef | 31 => v = cond b (.agg #[.int .i64 (top : Nat), .int .i64 (left : Nat), .int .i64 (hh : Nat), .int .i64 (wid : Nat)]) undef | 32 => v = cond b (.bool true) undef | 33 => v = .bool true | 34 => v = .bool true | 35 => v = .bool true | 36 => v = .bool true | 37 => v = .bool true | 38 => v = .bool true | _ => True) := ⟨_, rfl⟩
                obtain ⟨G, hG⟩ : ∃ G : (Nat → Value) → World → Prop, G = (fun u w => u 38 = .bool true ∧ Fr [] wr w) := ⟨_, rfl⟩
                have HM : Hid (∀ w1 w2 : World, Fr [] w1 w2 → ∀ j x, F w1 j x → F w2 j x) := by
                  show ∀ _, _
                  intro w1 w2 hf j x h
                  subst hF
                  exact h
                have HFG : Hid (F = (fun (w : World) (i : Nat) (v : Value) => match i with | 0 => v = .bool true | 1 => v = .bool true | 2 => v = .pointer (some ⟨Y15, 1, none⟩) | 3 => v = .int .i64 (lf : Nat) | 4 => v = .pointer (some ⟨P14, 1, none⟩) | 5 => v = .int .i64 (C : Nat) | 6 => v = .bool true | 7 => v = .bool true | 8 => v = .bool true | 9 => v = .pointer (some ⟨P14, 1, none⟩) | 10 => v = .int .i64 (C : Nat) | 11 => v = .pointer (some ⟨Y15, 1, none⟩) | 12 => v = .int .i64 (lf : Nat) | 13 => v = .pointer (some ⟨Y15, 3, none⟩) | 14 => v = .int .i64 (wid : Nat) | 15 => v = .int .i64 ((lf : Int) + (wid : Int)) | 16 => v = .bool true | 17 => v = .bool true | 18 => v = .bool true | 19 => v = .agg #[.int .i64 (T : Nat), .int .i64 (lf : Nat), .int .i64 (hh : Nat), .int .i64 (wid : Nat)] | 20 => v = .agg #[.pointer p, .bool tl, .int .i64 eo] | 21 => v = .agg #[.int .i64 (R : Nat), .int .i64 (C : Nat)] | 22 => v = .agg #[.int .i64 (T : Nat), .int .i64 (lf : Nat), .int .i64 (hh : Nat), .int .i64 (wid : Nat)] | 23 => v = .agg #[.int .i64 (T : Nat), .int .i64 (lf : Nat), .int .i64 (hh : Nat), .int .i64 (wid : Nat)] | 24 => v = .bool true | 25 => v = .bool true | 26 => v = .bool true | 27 => v = .bool b | 28 => v = .bool (!b) | 29 => v = .bool (!b) | 30 => v = cond b (.agg #[.int .i64 (T : Nat), .int .i64 (lf : Nat), .int .i64 (hh : Nat), .int .i64 (wid : Nat)]) undef | 31 => v = cond b (.agg #[.int .i64 (top : Nat), .int .i64 (left : Nat), .int .i64 (hh : Nat), .int .i64 (wid : Nat)]) undef | 32 => v = cond b (.bool true) undef | 33 => v = .bool true | 34 => v = .bool true | 35 => v = .bool true | 36 => v = .bool true | 37 => v = .bool true | 38 => v = .bool true | _ => True) ∧ G = (fun u w => u 38 = .bool true ∧ Fr [] wr w)) := ⟨hF, hG⟩
                clear hF hG
                refine wp_region_invc (by kernel_rfl) (fun f a w' => ∃ u : Nat → Value, a = { tmps := #[Value.string { data := s0.toArray }, .int .u64 m, Value.agg #[.int .i64 ↑top, .int .i64 ↑left, .int .i64 ↑hh, .int .i64 ↑wid, .int .i64 pr, .int .i64 pc, .int .i64 nn], undef, undef, .pointer (some { block := X5, off := 0 }), u 38, .pointer (some { block := G7, off := 0 }), .pointer (some { block := g, off := 0 }), .pointer (some { block := D9, off := 0 }), Value.bool true, .pointer (some { block := V11, off := 0 }), .pointer (some { block := U12, off := 0 }), Value.bool true, .pointer (some { block := P14, off := 0 }), .pointer (some { block := Y15, off := 0 }), Value.bool true, undef, u18, .bool b, undef, u21, Value.tuple #[Value.agg #[.pointer p, Value.bool tl, .int .i64 eo], .pointer (some { block := g, off := 0 }), Value.agg #[.slice zB zm zd, Value.bool zt, .int .i64 ze], Value.bool true], Value.string { data := s0.toArray }, .int .u64 m, Value.tuple #[Value.agg #[.pointer p, Value.bool tl, .int .i64 eo], .pointer (some { block := g, off := 0 }), Value.agg #[.slice zB zm zd, Value.bool zt, .int .i64 ze], Value.bool true], Value.agg #[.pointer p, Value.bool tl, .int .i64 eo], .pointer (some { block := g, off := 0 }), Value.agg #[.slice zB zm zd, Value.bool zt, .int .i64 ze], Value.bool true, Value.tuple #[Value.agg #[.int .i64 ↑top, .int .i64 ↑left, .int .i64 ↑hh, .int .i64 ↑wid], Value.agg #[.int .i64 ↑top, .int .i64 ↑left, .int .i64 ↑hh, .int .i64 ↑wid], Value.bool true], .pointer (some { block := X5, off := 0 }), Value.agg #[.int .i64 ↑top, .int .i64 ↑left, .int .i64 ↑hh, .int .i64 ↑wid], Value.tuple #[Value.agg #[.int .i64 ↑top, .int .i64 ↑left, .int .i64 ↑hh, .int .i64 ↑wid], Value.agg #[.int .i64 ↑top, .int .i64 ↑left, .int .i64 ↑hh, .int .i64 ↑wid], Value.bool true], Value.agg #[.int .i64 ↑top, .int .i64 ↑left, .int .i64 ↑hh, .int .i64 ↑wid], Value.agg #[.int .i64 ↑top, .int .i64 ↑left, .int .i64 ↑hh, .int .i64 ↑wid], Value.bool true, Value.bool true, Value.bool false, Value.bool false, Value.bool true, Value.bool false, Value.bool false, Value.bool false, .pointer (some { block := X5, off := 4 }), Value.agg #[.int .i64 pr, .int .i64 pc], Value.bool true, Value.bool false, Value.bool false, undef, undef, undef, undef, undef, Value.agg #[.pointer p, Value.bool tl, .int .i64 eo], .pointer (some { block := X5, off := 4 }), .pointer (some { block := X5, off := 4 }), .int .i64 pr, .pointer (some { block := X5, off := 4 }), .pointer (some { block := X5, off := 5 }), .int .i64 pc, Value.agg #[.int .i64 pr, .int .i64 pc], Value.agg #[.int .i64 ↑R, .int .i64 ↑C], Value.agg #[.int .i64 ↑top, .int .i64 ↑left, .int .i64 ↑hh, .int .i64 ↑wid], Value.agg #[.pointer p, Value.bool tl, .int .i64 eo], Value.agg #[.int .i64 ↑R, .int .i64 ↑C], Value.agg #[.int .i64 ↑T, .int .i64 ↑lf, .int .i64 ↑hh, .int .i64 ↑wid], Value.agg #[.pointer p, Value.bool tl, .int .i64 eo], .slice B10 n10 c10, .int .i64 ↑n10, Value.bool b0, Value.agg #[.int .i64 ↑T, .int .i64 ↑lf, .int .i64 ↑hh, .int .i64 ↑wid], Value.agg #[.pointer p, Value.bool tl, .int .i64 eo], .slice B11 nY c11, .int .i64 ↑nY, .int .i64 ↑nY, Value.bool false, u77, u78, u79, u80, u81, u82, u83, u84, u85, u86, Value.agg #[.int .i64 ↑top, .int .i64 ↑left, .int .i64 ↑hh, .int .i64 ↑wid], Value.agg #[.pointer p, Value.bool tl, .int .i64 eo], .slice B13 i c13, .int .i64 ↑i, .int .i64 ↑i, Value.bool false, u93, u94, u95, u96, u97, u98, u99, u100, u101, u102, u103, u104, u105, u106, u107, u108, u109, u110, u111, u112, u113, u114, u115, u116, u117, u118, u119, u 0, u 1, u 2, u 3, u 4, u 5, u 6, u 7, u 8, u 9, u 10, u 11, u 12, u 13, u 14, u 15, u 16, u 17, u 18, u 19, u 20, u 21, u 22, u 23, u 24, u 25, u 26, u 27, u 28, u 29, u 30, u 31, u 32, u 33, u 34, u 35, u 36, u 37], defers := [] } ∧ Hid (RInv F G wr 38 f u w')) (by kernel_rfl) ?_ ?_ ?_
                · exact ⟨fun j => cond (Nat.beq j 38) (.bool false) undef, rfl, RInv.start _⟩
                · simp only [EachOp]
                  refine ⟨?_, ?_, ?_, ?_, ?_, ?_, ?_, ?_, ?_, ?_, ?_, ?_, ?_, ?_, ?_, ?_, ?_, ?_, ?_, ?_, ?_, ?_, ?_, ?_, ?_, ?_, ?_, ?_, ?_, ?_, ?_, ?_, ?_, ?_, ?_, ?_, ?_, ?_, ?_, trivial⟩
                  · rintro f a w' hfi hdep hcl ⟨u, rfl, HI⟩ K hK
                    have hL := hcl.no (L := 38) _ rfl hfi ⟨0, .phase⟩ (by simp) rfl rfl
                    go_simp
                    exact hK _ _ ⟨updU u 0 (.bool true), rfl, HI.out.val hL (by decide) (by rw [HFG.out.1]; exact rfl)⟩
                  · rintro f a w' hfi hdep hcl ⟨u, rfl, HI⟩ K hK
                    have hL := hcl.no (L := 38) _ rfl hfi ⟨1, .phase⟩ (by simp) rfl rfl
                    have e0 : u 0 = .bool true := HI.out.get HFG.out.1 hL (i := 0) (hdep ⟨0, .data⟩ (by simp) rfl)
                    go_simp
                    exact hK _ _ ⟨updU u 1 (.bool true), (by simp [updU, e0] <;> (repeat' apply And.intro) <;> rfl), HI.out.val hL (by decide) (by rw [HFG.out.1]; exact rfl)⟩
                  · rintro f a w' hfi hdep hcl ⟨u, rfl, HI⟩ K hK
                    have hL := hcl.no (L := 38) _ rfl hfi ⟨2, .phase⟩ (by simp) rfl rfl
                    have e1 : u 1 = .bool true := HI.out.get HFG.out.1 hL (i := 1) (hdep ⟨1, .guard⟩ (by simp) rfl)
                    go_simp
                    exact hK _ _ ⟨updU u 2 (.pointer (some ⟨Y15, 1, none⟩)), (by simp [updU, e1] <;> (repeat' apply And.intro) <;> rfl), HI.out.val hL (by decide) (by rw [HFG.out.1]; exact rfl)⟩
                  · rintro f a w' hfi hdep hcl ⟨u, rfl, HI⟩ K hK
                    have hL := hcl.no (L := 38) _ rfl hfi ⟨3, .phase⟩ (by simp) rfl rfl
                    have e2 : u 2 = .pointer (some ⟨Y15, 1, none⟩) := HI.out.get HFG.out.1 hL (i := 2) (hdep ⟨2, .data⟩ (by simp) rfl)
                    have e1 : u 1 = .bool true := HI.out.get HFG.out.1 hL (i := 1) (hdep ⟨1, .guard⟩ (by simp) rfl)
                    obtain ⟨g0, g1, g2, v0, v1, v2, v3, y0, y1, y2, y3, p0, p1⟩ := HCEW.out w' (HI.out.a hL).1
                    go_simp
                    exact hK _ _ ⟨updU u 3 (.int .i64 (lf : Nat)), (by simp [updU, e2, e1] <;> (repeat' apply And.intro) <;> rfl), HI.out.val hL (by decide) (by rw [HFG.out.1]; exact rfl)⟩
                  · rintro f a w' hfi hdep hcl ⟨u, rfl, HI⟩ K hK
                    have hL := hcl.no (L := 38) _ rfl hfi ⟨4, .phase⟩ (by simp) rfl rfl
                    have e1 : u 1 = .bool true := HI.out.get HFG.out.1 hL (i := 1) (hdep ⟨1, .guard⟩ (by simp) rfl)
                    go_simp
                    exact hK _ _ ⟨updU u 4 (.pointer (some ⟨P14, 1, none⟩)), (by simp [updU, e1] <;> (repeat' apply And.intro) <;> rfl), HI.out.val hL (by decide) (by rw [HFG.out.1]; exact rfl)⟩
                  · rintro f a w' hfi hdep hcl ⟨u, rfl, HI⟩ K hK
                    have hL := hcl.no (L := 38) _ rfl hfi ⟨5, .phase⟩ (by simp) rfl rfl
                    have e4 : u 4 = .pointer (some ⟨P14, 1, none⟩) := HI.out.get HFG.out.1 hL (i := 4) (hdep ⟨4, .data⟩ (by simp) rfl)
                    have e1 : u 1 = .bool true := HI.out.get HFG.out.1 hL (i := 1) (hdep ⟨1, .guard⟩ (by simp) rfl)
                    obtain ⟨g0, g1, g2, v0, v1, v2, v3, y0, y1, y2, y3, p0, p1⟩ := HCEW.out w' (HI.out.a hL).1
                    go_simp
                    exact hK _ _ ⟨updU u 5 (.int .i64 (C : Nat)), (by simp [updU, e4, e1] <;> (repeat' apply And.intro) <;> rfl), HI.out.val hL (by decide) (by rw [HFG.out.1]; exact rfl)⟩
                  · rintro f a w' hfi hdep hcl ⟨u, rfl, HI⟩ K hK
                    have hL := hcl.no (L := 38) _ rfl hfi ⟨6, .phase⟩ (by simp) rfl rfl
                    have e3 : u 3 = .int .i64 (lf : Nat) := HI.out.get HFG.out.1 hL (i := 3) (hdep ⟨3, .data⟩ (by simp) rfl)
                    have e5 : u 5 = .int .i64 (C : Nat) := HI.out.get HFG.out.1 hL (i := 5) (hdep ⟨5, .data⟩ (by simp) rfl)
                    have e1 : u 1 = .bool true := HI.out.get HFG.out.1 hL (i := 1) (hdep ⟨1, .guard⟩ (by simp) rfl)
                    go_simp
                    exact hK _ _ ⟨updU u 6 (.bool true), (by simp [updU, e3, e5, e1] <;> (repeat' apply And.intro) <;> rfl), HI.out.val hL (by decide) (by rw [HFG.out.1]; exact rfl)⟩
                  · rintro f a w' hfi hdep hcl ⟨u, rfl, HI⟩ K hK
                    have hL := hcl.no (L := 38) _ rfl hfi ⟨7, .phase⟩ (by simp) rfl rfl
                    have e1 : u 1 = .bool true := HI.out.get HFG.out.1 hL (i := 1) (hdep ⟨1, .data⟩ (by simp) rfl)
                    have e6 : u 6 = .bool true := HI.out.get HFG.out.1 hL (i := 6) (hdep ⟨6, .data⟩ (by simp) rfl)
                    go_simp
                    exact hK _ _ ⟨updU u 7 (.bool true), (by simp [updU, e1, e6] <;> (repeat' apply And.intro) <;> rfl), HI.out.val hL (by decide) (by rw [HFG.out.1]; exact rfl)⟩
                  · rintro f a w' hfi hdep hcl ⟨u, rfl, HI⟩ K hK
                    have hL := hcl.no (L := 38) _ rfl hfi ⟨8, .phase⟩ (by simp) rfl rfl
                    have e7 : u 7 = .bool true := HI.out.get HFG.out.1 hL (i := 7) (hdep ⟨7, .data⟩ (by simp) rfl)
                    go_simp
                    exact hK _ _ ⟨updU u 8 (.bool true), (by simp [updU, e7] <;> (repeat' apply And.intro) <;> rfl), HI.out.val hL (by decide) (by rw [HFG.out.1]; exact rfl)⟩
                  · rintro f a w' hfi hdep hcl ⟨u, rfl, HI⟩ K hK
                    have hL := hcl.no (L := 38) _ rfl hfi ⟨9, .phase⟩ (by simp) rfl rfl
                    have e8 : u 8 = .bool true := HI.out.get HFG.out.1 hL (i := 8) (hdep ⟨8, .guard⟩ (by simp) rfl)
                    go_simp
                    exact hK _ _ ⟨updU u 9 (.pointer (some ⟨P14, 1, none⟩)), (by simp [updU, e8] <;> (repeat' apply And.intro) <;> rfl), HI.out.val hL (by decide) (by rw [HFG.out.1]; exact rfl)⟩
                  · rintro f a w' hfi hdep hcl ⟨u, rfl, HI⟩ K hK
                    have hL := hcl.no (L := 38) _ rfl hfi ⟨10, .phase⟩ (by simp) rfl rfl
                    have e9 : u 9 = .pointer (some ⟨P14, 1, none⟩) := HI.out.get HFG.out.1 hL (i := 9) (hdep ⟨9, .data⟩ (by simp) rfl)
                    have e8 : u 8 = .bool true := HI.out.get HFG.out.1 hL (i := 8) (hdep ⟨8, .guard⟩ (by simp) rfl)
                    obtain ⟨g0, g1, g2, v0, v1, v2, v3, y0, y1, y2, y3, p0, p1⟩ := HCEW.out w' (HI.out.a hL).1
                    go_simp
                    exact hK _ _ ⟨updU u 10 (.int .i64 (C : Nat)), (by simp [updU, e9, e8] <;> (repeat' apply And.intro) <;> rfl), HI.out.val hL (by decide) (by rw [HFG.out.1]; exact rfl)⟩
                  · rintro f a w' hfi hdep hcl ⟨u, rfl, HI⟩ K hK
                    have hL := hcl.no (L := 38) _ rfl hfi ⟨11, .phase⟩ (by simp) rfl rfl
                    have e8 : u 8 = .bool true := HI.out.get HFG.out.1 hL (i := 8) (hdep ⟨8, .guard⟩ (by simp) rfl)
                    go_simp
                    exact hK _ _ ⟨updU u 11 (.pointer (some ⟨Y15, 1, none⟩)), (by simp [updU, e8] <;> (repeat' apply And.intro) <;> rfl), HI.out.val hL (by decide) (by rw [HFG.out.1]; exact rfl)⟩
                  · rintro f a w' hfi hdep hcl ⟨u, rfl, HI⟩ K hK
                    have hL := hcl.no (L := 38) _ rfl hfi ⟨12, .phase⟩ (by simp) rfl rfl
                    have e11 : u 11 = .pointer (some ⟨Y15, 1, none⟩) := HI.out.get HFG.out.1 hL (i := 11) (hdep ⟨11, .data⟩ (by simp) rfl)
                    have e8 : u 8 = .bool true := HI.out.get HFG.out.1 hL (i := 8) (hdep ⟨8, .guard⟩ (by simp) rfl)
                    obtain ⟨g0, g1, g2, v0, v1, v2, v3, y0, y1, y2, y3, p0, p1⟩ := HCEW.out w' (HI.out.a hL).1
                    go_simp
                    exact hK _ _ ⟨updU u 12 (.int .i64 (lf : Nat)), (by simp [updU, e11, e8] <;> (repeat' apply And.intro) <;> rfl), HI.out.val hL (by decide) (by rw [HFG.out.1]; exact rfl)⟩
                  · rintro f a w' hfi hdep hcl ⟨u, rfl, HI⟩ K hK
                    have hL := hcl.no (L := 38) _ rfl hfi ⟨13, .phase⟩ (by simp) rfl rfl
                    have e8 : u 8 = .bool true := HI.out.get HFG.out.1 hL (i := 8) (hdep ⟨8, .guard⟩ (by simp) rfl)
                    go_simp
                    exact hK _ _ ⟨updU u 13 (.pointer (some ⟨Y15, 3, none⟩)), (by simp [updU, e8] <;> (repeat' apply And.intro) <;> rfl), HI.out.val hL (by decide) (by rw [HFG.out.1]; exact rfl)⟩
                  · rintro f a w' hfi hdep hcl ⟨u, rfl, HI⟩ K hK
                    have hL := hcl.no (L := 38) _ rfl hfi ⟨14, .phase⟩ (by simp) rfl rfl
                    have e13 : u 13 = .pointer (some ⟨Y15, 3, none⟩) := HI.out.get HFG.out.1 hL (i := 13) (hdep ⟨13, .data⟩ (by simp) rfl)
                    have e8 : u 8 = .bool true := HI.out.get HFG.out.1 hL (i := 8) (hdep ⟨8, .guard⟩ (by simp) rfl)
                    obtain ⟨g0, g1, g2, v0, v1, v2, v3, y0, y1, y2, y3, p0, p1⟩ := HCEW.out w' (HI.out.a hL).1
                    go_simp
                    exact hK _ _ ⟨updU u 14 (.int .i64 (wid : Nat)), (by simp [updU, e13, e8] <;> (repeat' apply And.intro) <;> rfl), HI.out.val hL (by decide) (by rw [HFG.out.1]; exact rfl)⟩
                  · rintro f a w' hfi hdep hcl ⟨u, rfl, HI⟩ K hK
                    have hL := hcl.no (L := 38) _ rfl hfi ⟨15, .phase⟩ (by simp) rfl rfl
                    have e12 : u 12 = .int .i64 (lf : Nat) := HI.out.get HFG.out.1 hL (i := 12) (hdep ⟨12, .data⟩ (by simp) rfl)
                    have e14 : u 14 = .int .i64 (wid : Nat) := HI.out.get HFG.out.1 hL (i := 14) (hdep ⟨14, .data⟩ (by simp) rfl)
                    have e8 : u 8 = .bool true := HI.out.get HFG.out.1 hL (i := 8) (hdep ⟨8, .guard⟩ (by simp) rfl)
                    go_simp
                    exact hK _ _ ⟨updU u 15 (.int .i64 ((lf : Int) + (wid : Int))), (by simp [updU, e12, e14, e8] <;> (repeat' apply And.intro) <;> rfl), HI.out.val hL (by decide) (by rw [HFG.out.1]; exact rfl)⟩
                  · rintro f a w' hfi hdep hcl ⟨u, rfl, HI⟩ K hK
                    have hL := hcl.no (L := 38) _ rfl hfi ⟨16, .phase⟩ (by simp) rfl rfl
                    have e10 : u 10 = .int .i64 (C : Nat) := HI.out.get HFG.out.1 hL (i := 10) (hdep ⟨10, .data⟩ (by simp) rfl)
                    have e15 : u 15 = .int .i64 ((lf : Int) + (wid : Int)) := HI.out.get HFG.out.1 hL (i := 15) (hdep ⟨15, .data⟩ (by simp) rfl)
                    have e8 : u 8 = .bool true := HI.out.get HFG.out.1 hL (i := 8) (hdep ⟨8, .guard⟩ (by simp) rfl)
                    go_simp
                    exact hK _ _ ⟨updU u 16 (.bool true), (by simp [updU, e10, e15, e8] <;> (repeat' apply And.intro) <;> rfl), HI.out.val hL (by decide) (by rw [HFG.out.1]; exact rfl)⟩
                  · rintro f a w' hfi hdep hcl ⟨u, rfl, HI⟩ K hK
                    have hL := hcl.no (L := 38) _ rfl hfi ⟨17, .phase⟩ (by simp) rfl rfl
                    have e8 : u 8 = .bool true := HI.out.get HFG.out.1 hL (i := 8) (hdep ⟨8, .data⟩ (by simp) rfl)
                    have e16 : u 16 = .bool true := HI.out.get HFG.out.1 hL (i := 16) (hdep ⟨16, .data⟩ (by simp) rfl)
                    go_simp
                    exact hK _ _ ⟨updU u 17 (.bool true), (by simp [updU, e8, e16] <;> (repeat' apply And.intro) <;> rfl), HI.out.val hL (by decide) (by rw [HFG.out.1]; exact rfl)⟩
                  · rintro f a w' hfi hdep hcl ⟨u, rfl, HI⟩ K hK
                    have hL := hcl.no (L := 38) _ rfl hfi ⟨18, .phase⟩ (by simp) rfl rfl
                    have e17 : u 17 = .bool true := HI.out.get HFG.out.1 hL (i := 17) (hdep ⟨17, .data⟩ (by simp) rfl)
                    go_simp
                    exact hK _ _ ⟨updU u 18 (.bool true), (by simp [updU, e17] <;> (repeat' apply And.intro) <;> rfl), HI.out.val hL (by decide) (by rw [HFG.out.1]; exact rfl)⟩
                  · rintro f a w' hfi hdep hcl ⟨u, rfl, HI⟩ K hK
                    have hL := hcl.no (L := 38) _ rfl hfi ⟨19, .phase⟩ (by simp) rfl rfl
                    have e18 : u 18 = .bool true := HI.out.get HFG.out.1 hL (i := 18) (hdep ⟨18, .guard⟩ (by simp) rfl)
                    obtain ⟨g0, g1, g2, v0, v1, v2, v3, y0, y1, y2, y3, p0, p1⟩ := HCEW.out w' (HI.out.a hL).1
                    go_simp
                    exact hK _ _ ⟨updU u 19 (.agg #[.int .i64 (T : Nat), .int .i64 (lf : Nat), .int .i64 (hh : Nat), .int .i64 (wid : Nat)]), (by simp [updU, e18] <;> (repeat' apply And.intro) <;> rfl), HI.out.val hL (by decide) (by rw [HFG.out.1]; exact rfl)⟩
                  · rintro f a w' hfi hdep hcl ⟨u, rfl, HI⟩ K hK
                    have hL := hcl.no (L := 38) _ rfl hfi ⟨20, .phase⟩ (by simp) rfl rfl
                    have e18 : u 18 = .bool true := HI.out.get HFG.out.1 hL (i := 18) (hdep ⟨18, .guard⟩ (by simp) rfl)
                    obtain ⟨g0, g1, g2, v0, v1, v2, v3, y0, y1, y2, y3, p0, p1⟩ := HCEW.out w' (HI.out.a hL).1
                    go_simp
                    exact hK _ _ ⟨updU u 20 (.agg #[.pointer p, .bool tl, .int .i64 eo]), (by simp [updU, e18] <;> (repeat' apply And.intro) <;> rfl), HI.out.val hL (by decide) (by rw [HFG.out.1]; exact rfl)⟩
                  · rintro f a w' hfi hdep hcl ⟨u, rfl, HI⟩ K hK
                    have hL := hcl.no (L := 38) _ rfl hfi ⟨21, .phase⟩ (by simp) rfl rfl
                    have e18 : u 18 = .bool true := HI.out.get HFG.out.1 hL (i := 18) (hdep ⟨18, .guard⟩ (by simp) rfl)
                    obtain ⟨g0, g1, g2, v0, v1, v2, v3, y0, y1, y2, y3, p0, p1⟩ := HCEW.out w' (HI.out.a hL).1
                    go_simp
                    exact hK _ _ ⟨updU u 21 (.agg #[.int .i64 (R : Nat), .int .i64 (C : Nat)]), (by simp [updU, e18] <;> (repeat' apply And.intro) <;> rfl), HI.out.val hL (by decide) (by rw [HFG.out.1]; exact rfl)⟩
                  · rintro f a w' hfi hdep hcl ⟨u, rfl, HI⟩ K hK
                    have hL := hcl.no (L := 38) _ rfl hfi ⟨22, .phase⟩ (by simp) rfl rfl
                    have e19 : u 19 = .agg #[.int .i64 (T : Nat), .int .i64 (lf : Nat), .int .i64 (hh : Nat), .int .i64 (wid : Nat)] := HI.out.get HFG.out.1 hL (i := 19) (hdep ⟨19, .data⟩ (by simp) rfl)
                    have e20 : u 20 = .agg #[.pointer p, .bool tl, .int .i64 eo] := HI.out.get HFG.out.1 hL (i := 20) (hdep ⟨20, .data⟩ (by simp) rfl)
                    have e21 : u 21 = .agg #[.int .i64 (R : Nat), .int .i64 (C : Nat)] := HI.out.get HFG.out.1 hL (i := 21) (hdep ⟨21, .data⟩ (by simp) rfl)
                    have e18 : u 18 = .bool true := HI.out.get HFG.out.1 hL (i := 18) (hdep ⟨18, .guard⟩ (by simp) rfl)
                    refine step_callw _ (by go_simp) 16 #[.agg #[.int .i64 (T : Nat), .int .i64 (lf : Nat), .int .i64 (hh : Nat), .int .i64 (wid : Nat)], .agg #[.pointer p, .bool tl, .int .i64 eo], .agg #[.int .i64 (R : Nat), .int .i64 (C : Nat)]] (by go_simp) _ ((HCF.out w' (HFC.out.trans (HF14.out.trans (HI.out.a hL).1))).2) (by rintro e w' ⟨he, _⟩; exact ⟨_, he⟩) ?_
                    rintro v4 w4 ⟨hv4, hf4⟩
                    injection hv4 with hv4
                    subst hv4
                    try go_simp
                    exact hK _ _ ⟨updU u 22 (.agg #[.int .i64 (T : Nat), .int .i64 (lf : Nat), .int .i64 (hh : Nat), .int .i64 (wid : Nat)]), (by simp [updU, e19, e20, e21, e18] <;> (repeat' apply And.intro) <;> rfl), HI.out.call hL (by decide) (HM.out _ _ hf4) hf4 (by rw [HFG.out.1]; exact rfl)⟩
                  · rintro f a w' hfi hdep hcl ⟨u, rfl, HI⟩ K hK
                    have hL := hcl.no (L := 38) _ rfl hfi ⟨23, .phase⟩ (by simp) rfl rfl
                    have e18 : u 18 = .bool true := HI.out.get HFG.out.1 hL (i := 18) (hdep ⟨18, .guard⟩ (by simp) rfl)
                    obtain ⟨g0, g1, g2, v0, v1, v2, v3, y0, y1, y2, y3, p0, p1⟩ := HCEW.out w' (HI.out.a hL).1
                    go_simp
                    exact hK _ _ ⟨updU u 23 (.agg #[.int .i64 (T : Nat), .int .i64 (lf : Nat), .int .i64 (hh : Nat), .int .i64 (wid : Nat)]), (by simp [updU, e18] <;> (repeat' apply And.intro) <;> rfl), HI.out.val hL (by decide) (by rw [HFG.out.1]; exact rfl)⟩
                  · rintro f a w' hfi hdep hcl ⟨u, rfl, HI⟩ K hK
                    have hL := hcl.no (L := 38) _ rfl hfi ⟨24, .phase⟩ (by simp) rfl rfl
                    have e22 : u 22 = .agg #[.int .i64 (T : Nat), .int .i64 (lf : Nat), .int .i64 (hh : Nat), .int .i64 (wid : Nat)] := HI.out.get HFG.out.1 hL (i := 22) (hdep ⟨22, .data⟩ (by simp) rfl)
                    have e23 : u 23 = .agg #[.int .i64 (T : Nat), .int .i64 (lf : Nat), .int .i64 (hh : Nat), .int .i64 (wid : Nat)] := HI.out.get HFG.out.1 hL (i := 23) (hdep ⟨23, .data⟩ (by simp) rfl)
                    have e18 : u 18 = .bool true := HI.out.get HFG.out.1 hL (i := 18) (hdep ⟨18, .guard⟩ (by simp) rfl)
                    go_simp
                    exact hK _ _ ⟨updU u 24 (.bool true), (by simp [updU, e22, e23, e18] <;> (repeat' apply And.intro) <;> rfl), HI.out.val hL (by decide) (by rw [HFG.out.1]; exact rfl)⟩
                  · rintro f a w' hfi hdep hcl ⟨u, rfl, HI⟩ K hK
                    have hL := hcl.no (L := 38) _ rfl hfi ⟨25, .phase⟩ (by simp) rfl rfl
                    have e18 : u 18 = .bool true := HI.out.get HFG.out.1 hL (i := 18) (hdep ⟨18, .data⟩ (by simp) rfl)
                    have e24 : u 24 = .bool true := HI.out.get HFG.out.1 hL (i := 24) (hdep ⟨24, .data⟩ (by simp) rfl)
                    go_simp
                    exact hK _ _ ⟨updU u 25 (.bool true), (by simp [updU, e18, e24] <;> (repeat' apply And.intro) <;> rfl), HI.out.val hL (by decide) (by rw [HFG.out.1]; exact rfl)⟩
                  · rintro f a w' hfi hdep hcl ⟨u, rfl, HI⟩ K hK
                    have hL := hcl.no (L := 38) _ rfl hfi ⟨26, .phase⟩ (by simp) rfl rfl
                    have e25 : u 25 = .bool true := HI.out.get HFG.out.1 hL (i := 25) (hdep ⟨25, .data⟩ (by simp) rfl)
                    go_simp
                    exact hK _ _ ⟨updU u 26 (.bool true), (by simp [updU, e25] <;> (repeat' apply And.intro) <;> rfl), HI.out.val hL (by decide) (by rw [HFG.out.1]; exact rfl)⟩
                  · rintro f a w' hfi hdep hcl ⟨u, rfl, HI⟩ K hK
                    have hL := hcl.no (L := 38) _ rfl hfi ⟨27, .phase⟩ (by simp) rfl rfl
                    have e26 : u 26 = .bool true := HI.out.get HFG.out.1 hL (i := 26) (hdep ⟨26, .guard⟩ (by simp) rfl)
                    go_simp
                    exact hK _ _ ⟨updU u 27 (.bool b), (by simp [updU, e26] <;> (repeat' apply And.intro) <;> rfl), HI.out.val hL (by decide) (by rw [HFG.out.1]; exact rfl)⟩
                  · rintro f a w' hfi hdep hcl ⟨u, rfl, HI⟩ K hK
                    have hL := hcl.no (L := 38) _ rfl hfi ⟨28, .phase⟩ (by simp) rfl rfl
                    have e27 : u 27 = .bool b := HI.out.get HFG.out.1 hL (i := 27) (hdep ⟨27, .data⟩ (by simp) rfl)
                    have e26 : u 26 = .bool true := HI.out.get HFG.out.1 hL (i := 26) (hdep ⟨26, .guard⟩ (by simp) rfl)
                    go_simp
                    exact hK _ _ ⟨updU u 28 (.bool (!b)), (by simp [updU, e27, e26] <;> (repeat' apply And.intro) <;> rfl), HI.out.val hL (by decide) (by rw [HFG.out.1]; exact rfl)⟩
                  · rintro f a w' hfi hdep hcl ⟨u, rfl, HI⟩ K hK
                    have hL := hcl.no (L := 38) _ rfl hfi ⟨29, .phase⟩ (by simp) rfl rfl
                    have e28 : u 28 = .bool (!b) := HI.out.get HFG.out.1 hL (i := 28) (hdep ⟨28, .data⟩ (by simp) rfl)
                    have e26 : u 26 = .bool true := HI.out.get HFG.out.1 hL (i := 26) (hdep ⟨26, .guard⟩ (by simp) rfl)
                    go_simp
                    exact hK _ _ ⟨updU u 29 (.bool (!b)), (by simp [updU, e28, e26] <;> (repeat' apply And.intro) <;> rfl), HI.out.val hL (by decide) (by rw [HFG.out.1]; exact rfl)⟩
                  · rintro f a w' hfi hdep hcl ⟨u, rfl, HI⟩ K hK
                    have hL := hcl.no (L := 38) _ rfl hfi ⟨30, .phase⟩ (by simp) rfl rfl
                    have e29 : u 29 = .bool (!b) := HI.out.get HFG.out.1 hL (i := 29) (hdep ⟨29, .guard⟩ (by simp) rfl)
                    obtain ⟨g0, g1, g2, v0, v1, v2, v3, y0, y1, y2, y3, p0, p1⟩ := HCEW.out w' (HI.out.a hL).1
                    cases b with
                    | false =>
                      go_simp
                      exact hK _ _ ⟨updU u 30 (undef), (by simp [updU, e29] <;> (repeat' apply And.intro) <;> rfl), HI.out.val hL (by decide) (by rw [HFG.out.1]; exact rfl)⟩
                    | true =>
                      go_simp
                      exact hK _ _ ⟨updU u 30 (.agg #[.int .i64 (T : Nat), .int .i64 (lf : Nat), .int .i64 (hh : Nat), .int .i64 (wid : Nat)]), (by simp [updU, e29] <;> (repeat' apply And.intro) <;> rfl), HI.out.val hL (by decide) (by rw [HFG.out.1]; exact rfl)⟩
                  · rintro f a w' hfi hdep hcl ⟨u, rfl, HI⟩ K hK
                    have hL := hcl.no (L := 38) _ rfl hfi ⟨31, .phase⟩ (by simp) rfl rfl
                    have e29 : u 29 = .bool (!b) := HI.out.get HFG.out.1 hL (i := 29) (hdep ⟨29, .guard⟩ (by simp) rfl)
                    obtain ⟨g0, g1, g2, v0, v1, v2, v3, y0, y1, y2, y3, p0, p1⟩ := HCEW.out w' (HI.out.a hL).1
                    cases b with
                    | false =>
                      go_simp
                      exact hK _ _ ⟨updU u 31 (undef), (by simp [updU, e29] <;> (repeat' apply And.intro) <;> rfl), HI.out.val hL (by decide) (by rw [HFG.out.1]; exact rfl)⟩
                    | true =>
                      go_simp
                      exact hK _ _ ⟨updU u 31 (.agg #[.int .i64 (top : Nat), .int .i64 (left : Nat), .int .i64 (hh : Nat), .int .i64 (wid : Nat)]), (by simp [updU, e29] <;> (repeat' apply And.intro) <;> rfl), HI.out.val hL (by decide) (by rw [HFG.out.1]; exact rfl)⟩
                  · rintro f a w' hfi hdep hcl ⟨u, rfl, HI⟩ K hK
                    have hL := hcl.no (L := 38) _ rfl hfi ⟨32, .phase⟩ (by simp) rfl rfl
                    have e30 : u 30 = cond b (.agg #[.int .i64 (T : Nat), .int .i64 (lf : Nat), .int .i64 (hh : Nat), .int .i64 (wid : Nat)]) undef := HI.out.get HFG.out.1 hL (i := 30) (hdep ⟨30, .data⟩ (by simp) rfl)
                    have e31 : u 31 = cond b (.agg #[.int .i64 (top : Nat), .int .i64 (left : Nat), .int .i64 (hh : Nat), .int .i64 (wid : Nat)]) undef := HI.out.get HFG.out.1 hL (i := 31) (hdep ⟨31, .data⟩ (by simp) rfl)
                    have e29 : u 29 = .bool (!b) := HI.out.get HFG.out.1 hL (i := 29) (hdep ⟨29, .guard⟩ (by simp) rfl)
                    cases b with
                    | false =>
                      go_simp
                      exact hK _ _ ⟨updU u 32 (undef), (by simp [updU, e29, e30, e31] <;> (repeat' apply And.intro) <;> rfl), HI.out.val hL (by decide) (by rw [HFG.out.1]; exact rfl)⟩
                    | true =>
                      obtain ⟨htt, hll⟩ := HBE.out rfl
                      subst htt hll
                      replace e30 : u 30 = .agg #[.int .i64 (T : Nat), .int .i64 (lf : Nat), .int .i64 (hh : Nat), .int .i64 (wid : Nat)] := e30
                      replace e31 : u 31 = .agg #[.int .i64 (T : Nat), .int .i64 (lf : Nat), .int .i64 (hh : Nat), .int .i64 (wid : Nat)] := e31
                      go_simp
                      exact hK _ _ ⟨updU u 32 (.bool true), (by simp [updU, e29, e30, e31] <;> (repeat' apply And.intro) <;> rfl), HI.out.val hL (by decide) (by rw [HFG.out.1]; exact rfl)⟩
                  · rintro f a w' hfi hdep hcl ⟨u, rfl, HI⟩ K hK
                    have hL := hcl.no (L := 38) _ rfl hfi ⟨33, .phase⟩ (by simp) rfl rfl
                    have e29 : u 29 = .bool (!b) := HI.out.get HFG.out.1 hL (i := 29) (hdep ⟨29, .data⟩ (by simp) rfl)
                    have e32 : u 32 = cond b (.bool true) undef := HI.out.get HFG.out.1 hL (i := 32) (hdep ⟨32, .data⟩ (by simp) rfl)
                    have e26 : u 26 = .bool true := HI.out.get HFG.out.1 hL (i := 26) (hdep ⟨26, .guard⟩ (by simp) rfl)
                    cases b with
                    | false =>
                      replace e32 : u 32 = undef := e32
                      go_simp
                      exact hK _ _ ⟨updU u 33 (.bool true), (by simp [updU, e29, e26, e32] <;> (repeat' apply And.intro) <;> rfl), HI.out.val hL (by decide) (by rw [HFG.out.1]; exact rfl)⟩
                    | true =>
                      replace e32 : u 32 = .bool true := e32
                      go_simp
                      exact hK _ _ ⟨updU u 33 (.bool true), (by simp [updU, e29, e26, e32] <;> (repeat' apply And.intro) <;> rfl), HI.out.val hL (by decide) (by rw [HFG.out.1]; exact rfl)⟩
                  · rintro f a w' hfi hdep hcl ⟨u, rfl, HI⟩ K hK
                    have hL := hcl.no (L := 38) _ rfl hfi ⟨34, .phase⟩ (by simp) rfl rfl
                    have e26 : u 26 = .bool true := HI.out.get HFG.out.1 hL (i := 26) (hdep ⟨26, .data⟩ (by simp) rfl)
                    have e33 : u 33 = .bool true := HI.out.get HFG.out.1 hL (i := 33) (hdep ⟨33, .data⟩ (by simp) rfl)
                    go_simp
                    exact hK _ _ ⟨updU u 34 (.bool true), (by simp [updU, e26, e33] <;> (repeat' apply And.intro) <;> rfl), HI.out.val hL (by decide) (by rw [HFG.out.1]; exact rfl)⟩
                  · rintro f a w' hfi hdep hcl ⟨u, rfl, HI⟩ K hK
                    have hL := hcl.no (L := 38) _ rfl hfi ⟨35, .phase⟩ (by simp) rfl rfl
                    have e34 : u 34 = .bool true := HI.out.get HFG.out.1 hL (i := 34) (hdep ⟨34, .data⟩ (by simp) rfl)
                    go_simp
                    exact hK _ _ ⟨updU u 35 (.bool true), (by simp [updU, e34] <;> (repeat' apply And.intro) <;> rfl), HI.out.val hL (by decide) (by rw [HFG.out.1]; exact rfl)⟩
                  · rintro f a w' hfi hdep hcl ⟨u, rfl, HI⟩ K hK
                    have hL := hcl.no (L := 38) _ rfl hfi ⟨36, .phase⟩ (by simp) rfl rfl
                    have e35 : u 35 = .bool true := HI.out.get HFG.out.1 hL (i := 35) (hdep ⟨35, .guard⟩ (by simp) rfl)
                    refine step_callw _ (by go_simp) 14 #[] (by go_simp) _ (awake29_yes w') (by rintro e w' ⟨he, _⟩; exact ⟨_, he⟩) ?_
                    rintro v4 w4 ⟨hv4, hf4⟩
                    injection hv4 with hv4
                    subst hv4
                    try go_simp
                    exact hK _ _ ⟨updU u 36 (.bool true), (by simp [updU, e35] <;> (repeat' apply And.intro) <;> rfl), HI.out.call hL (by decide) (HM.out _ _ hf4) hf4 (by rw [HFG.out.1]; exact rfl)⟩
                  · rintro f a w' hfi hdep hcl ⟨u, rfl, HI⟩ K hK
                    have hL := hcl.no (L := 38) _ rfl hfi ⟨37, .phase⟩ (by simp) rfl rfl
                    have e35 : u 35 = .bool true := HI.out.get HFG.out.1 hL (i := 35) (hdep ⟨35, .data⟩ (by simp) rfl)
                    have e36 : u 36 = .bool true := HI.out.get HFG.out.1 hL (i := 36) (hdep ⟨36, .data⟩ (by simp) rfl)
                    go_simp
                    exact hK _ _ ⟨updU u 37 (.bool true), (by simp [updU, e35, e36] <;> (repeat' apply And.intro) <;> rfl), HI.out.val hL (by decide) (by rw [HFG.out.1]; exact rfl)⟩
                  · rintro f a w' hfi hdep hcl ⟨u, rfl, HI⟩ K hK
                    have hL := hfi
                    have e37 : u 37 = .bool true := HI.out.get HFG.out.1 hL (i := 37) (hdep ⟨37, .data⟩ (by simp) rfl)
                    go_simp
                    refine hK _ _ ⟨updU u 38 (.bool true), (by simp [updU, e37] <;> (repeat' apply And.intro) <;> rfl), RInv.last ?_⟩
                    rw [HFG.out.2]
                    exact ⟨rfl, (HI.out.a hL).1⟩
                · rintro f a w' hall ⟨u, rfl, HI⟩
                  have hG := HI.out.b (hall 38 (by decide))
                  rw [HFG.out.2] at hG
                  obtain ⟨e38, hf16⟩ := hG
                  dsimp only
                  simp only [e38]
                  go_wp2_with fail
                  go_ret
                  exact ⟨rfl, (HE5.out.1.trans HFC.out).trans (HF14.out.trans hf16)⟩
end Go.Proofs.YtblafakafgediaaGreat
