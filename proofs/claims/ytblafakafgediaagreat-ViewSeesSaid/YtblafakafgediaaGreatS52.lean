import Derived.Test.YtblafakafgediaaGreatS51
import Derived.Test.YtblafakafgediaaGreatS47
import Derived.Test.YtblafakafgediaaGreatS31
namespace Go.Proofs.YtblafakafgediaaGreat
open Go.RowKit Go.Proofs.Dm

set_option maxRecDepth 100000 in
set_option maxHeartbeats 6400000 in
theorem viewSees_any (w : World) (s0 : List UInt8) (m t l h x pr pc nn : Int) :
    Calls Tryz.prog 4 #[.string ⟨s0.toArray⟩, .int .u64 m, .agg #[.int .i64 t, .int .i64 l, .int .i64 h, .int .i64 x, .int .i64 pr, .int .i64 pc, .int .i64 nn]] w fun e w' => e = .returned (.bool true) ∧ Fr [] w w' := by
  obtain ⟨W1, hW1⟩ : ∃ W1, W1 = w.alloc (.cells #[.int .i64 t, .int .i64 l, .int .i64 h, .int .i64 x, .int .i64 pr, .int .i64 pc, .int .i64 nn] 28) := ⟨_, rfl⟩
  obtain ⟨X5, hX5⟩ : ∃ X5, X5 = w.heap.size := ⟨_, rfl⟩
  have HW : Hid (Fr [] w W1 ∧ Blk W1 X5 28 #[.int .i64 t, .int .i64 l, .int .i64 h, .int .i64 x, .int .i64 pr, .int .i64 pc, .int .i64 nn]) := by
    rw [hW1, hX5]
    exact ⟨(Fr.refl [] w).alloc _, Blk.new w _ _⟩
  have HHI := Lib.hid (hide_any W1 s0 m)
  have HW1 := Lib.hid hW1
  clear hW1
  go_enter Tryz.func4, Tryz.ntmps4
  go_wp2_with fail
  rw [← HW1.out, ← hX5]
  clear hX5
  refine HHI.out.mono ?_
  rintro en w2 ⟨g, p, tl, eo, s, rs, ⟨zB, zm, zd, zrs, zt, ze⟩, ok, rfl, hg2, hf2⟩
  simp only
  have HG2 := Lib.hid hg2
  have HF2 := Lib.hid hf2
  obtain ⟨G7, hG7⟩ : ∃ G7, G7 = w2.heap.size := ⟨_, rfl⟩
  obtain ⟨D9, hD9⟩ : ∃ D9, D9 = w2.heap.size + 1 := ⟨_, rfl⟩
  obtain ⟨W3, hW3⟩ : ∃ W3, W3 = (w2.alloc (.cells #[.pointer p, .bool tl, .int .i64 eo] TGr)).alloc (.cells #[.slice zB zm zd, .bool zt, .int .i64 ze] TD11) := ⟨_, rfl⟩
  have HE3 : Hid (Fr [] w W3 ∧ Blk W3 X5 28 #[.int .i64 t, .int .i64 l, .int .i64 h, .int .i64 x, .int .i64 pr, .int .i64 pc, .int .i64 nn] ∧ Blk W3 G7 TGr #[.pointer p, .bool tl, .int .i64 eo] ∧ HG [] s g p tl eo rs ⟨zB, zm, zd, zrs, zt, ze⟩ W3 ∧ Blk W3 D9 TD11 #[.slice zB zm zd, .bool zt, .int .i64 ze]) := by
    have hf : Fr [] w2 W3 := by rw [hW3]; exact ((Fr.refl [] w2).alloc _).alloc _
    have b9 := Blk.new (w2.alloc (.cells #[.pointer p, .bool tl, .int .i64 eo] TGr)) TD11 #[.slice zB zm zd, .bool zt, .int .i64 ze]
    rw [World.size_alloc, ← hW3, ← hD9] at b9
    exact ⟨(HW.out.1.trans HF2.out).trans hf, (HW.out.2.fr HF2.out (by simp)).fr hf (by simp), by rw [hW3, hG7]; exact (Blk.new w2 TGr _).alloc _, HG2.out.fr0 hf, b9⟩
  have x0 : W3.cell? ⟨X5, 0, none⟩ = some (.int .i64 t) := HE3.out.2.1.cell 0
  have x1 : W3.cell? ⟨X5, 1, none⟩ = some (.int .i64 l) := HE3.out.2.1.cell 1
  have x2 : W3.cell? ⟨X5, 2, none⟩ = some (.int .i64 h) := HE3.out.2.1.cell 2
  have x3 : W3.cell? ⟨X5, 3, none⟩ = some (.int .i64 x) := HE3.out.2.1.cell 3
  rw [hW3] at x0 x1 x2 x3
  have HW3 := Lib.hid hW3
  clear hW3 hg2 hf2
  go_wp2_with fail
  rw [← HW3.out, ← hD9, ← hG7]
  clear hD9 hG7 x0 x1 x2 x3
  refine (right29_any W3 t l h x).mono ?_
  rintro en w4 ⟨rfl, hf4⟩
  obtain ⟨is, his⟩ : ∃ is, is = decide (RightV t l h x) := ⟨_, rfl⟩
  rw [← his]
  have HIS := Lib.hid his
  obtain ⟨V11, hV11⟩ : ∃ V11, V11 = w4.heap.size := ⟨_, rfl⟩
  obtain ⟨U12, hU12⟩ : ∃ U12, U12 = w4.heap.size + 1 := ⟨_, rfl⟩
  obtain ⟨W5, hW5⟩ : ∃ W5, W5 = (w4.alloc (.cells #[.int .i64 t, .int .i64 l, .int .i64 h, .int .i64 x] 40)).alloc (.cells #[.int .i64 t, .int .i64 l, .int .i64 h, .int .i64 x] 24) := ⟨_, rfl⟩
  have HE5 : Hid (Fr [] w W5 ∧ Blk W5 X5 28 #[.int .i64 t, .int .i64 l, .int .i64 h, .int .i64 x, .int .i64 pr, .int .i64 pc, .int .i64 nn] ∧ Blk W5 G7 TGr #[.pointer p, .bool tl, .int .i64 eo] ∧ HG [] s g p tl eo rs ⟨zB, zm, zd, zrs, zt, ze⟩ W5 ∧ Blk W5 V11 40 #[.int .i64 t, .int .i64 l, .int .i64 h, .int .i64 x] ∧ Blk W5 D9 TD11 #[.slice zB zm zd, .bool zt, .int .i64 ze] ∧ Blk W5 U12 24 #[.int .i64 t, .int .i64 l, .int .i64 h, .int .i64 x]) := by
    have hf : Fr [] w4 W5 := by rw [hW5]; exact ((Fr.refl [] w4).alloc _).alloc _
    have b12 := Blk.new (w4.alloc (.cells #[.int .i64 t, .int .i64 l, .int .i64 h, .int .i64 x] 40)) 24 #[.int .i64 t, .int .i64 l, .int .i64 h, .int .i64 x]
    rw [World.size_alloc, ← hW5, ← hU12] at b12
    have hh := hf4.trans hf
    exact ⟨HE3.out.1.trans hh, HE3.out.2.1.fr hh (by simp), HE3.out.2.2.1.fr hh (by simp), HE3.out.2.2.2.1.fr0 hh, by rw [hW5, hV11]; exact (Blk.new w4 _ _).alloc _, HE3.out.2.2.2.2.fr hh (by simp), b12⟩
  have HCX : Hid (∀ w', Fr [] W5 w' → w'.cell? ⟨X5, 4, none⟩ = some (.int .i64 pr) ∧ w'.cell? ⟨X5, 5, none⟩ = some (.int .i64 pc) ∧ w'.cell? ⟨X5, 6, none⟩ = some (.int .i64 nn) ∧ w'.cell? ⟨G7, 0, none⟩ = some (.pointer p) ∧ w'.cell? ⟨G7, 1, none⟩ = some (.bool tl) ∧ w'.cell? ⟨G7, 2, none⟩ = some (.int .i64 eo) ∧ w'.cell? ⟨V11, 0, none⟩ = some (.int .i64 t) ∧ w'.cell? ⟨V11, 1, none⟩ = some (.int .i64 l) ∧ w'.cell? ⟨V11, 2, none⟩ = some (.int .i64 h) ∧ w'.cell? ⟨V11, 3, none⟩ = some (.int .i64 x) ∧ w'.cell? ⟨U12, 0, none⟩ = some (.int .i64 t) ∧ w'.cell? ⟨U12, 1, none⟩ = some (.int .i64 l) ∧ w'.cell? ⟨U12, 2, none⟩ = some (.int .i64 h) ∧ w'.cell? ⟨U12, 3, none⟩ = some (.int .i64 x) ∧ w'.cell? ⟨D9, 0, none⟩ = some (.slice zB zm zd) ∧ w'.cell? ⟨D9, 1, none⟩ = some (.bool zt) ∧ w'.cell? ⟨D9, 2, none⟩ = some (.int .i64 ze)) := by
    show ∀ _, _
    intro w' hf
    have h1 := HE5.out.2.1.fr hf (by simp)
    have h2 := HE5.out.2.2.1.fr hf (by simp)
    have h3 := HE5.out.2.2.2.2.1.fr hf (by simp)
    have h4 := HE5.out.2.2.2.2.2.1.fr hf (by simp)
    have h5 := HE5.out.2.2.2.2.2.2.fr hf (by simp)
    exact ⟨h1.cell 4, h1.cell 5, h1.cell 6, h2.cell 0, h2.cell 1, h2.cell 2, h3.cell 0, h3.cell 1, h3.cell 2, h3.cell 3, h5.cell 0, h5.cell 1, h5.cell 2, h5.cell 3, h4.cell 0, h4.cell 1, h4.cell 2⟩
  have HW5 := Lib.hid hW5
  clear hW5 his hf4
  cases ok with
  | false =>
    go_wp2_with fail
    rw [← HW5.out]
    clear hU12 hV11
    refine (awake29_yes W5).mono ?_
    rintro en w6 ⟨rfl, hf6⟩
    have HF6 := Lib.hid (HE5.out.1.trans hf6)
    clear hf6
    go_wp2_with fail
    go_ret
    exact ⟨rfl, HF6.out⟩
  | true =>
    cases is with
    | false =>
      go_wp2_with fail
      rw [← HW5.out]
      clear hU12 hV11
      refine (awake29_yes W5).mono ?_
      rintro en w6 ⟨rfl, hf6⟩
      have HF6 := Lib.hid (HE5.out.1.trans hf6)
      clear hf6
      go_wp2_with fail
      go_ret
      exact ⟨rfl, HF6.out⟩
    | true =>
      obtain ⟨d0, d1, _, _, _, _, _, _, _, _, _, _, _, _, _, _, _⟩ := HCX.out W5 (Fr.refl _ _)
      rw [HW5.out] at d0 d1
      go_wp2_with fail
      rw [← HW5.out, ← hU12, ← hV11]
      clear hU12 hV11 d0 d1
      refine (small29_any W5 pr pc).mono ?_
      rintro en w6 ⟨rfl, hf6⟩
      obtain ⟨sm, hsm⟩ : ∃ sm, sm = decide (SmallP pr pc) := ⟨_, rfl⟩
      rw [← hsm]
      have HF6 := Lib.hid hf6
      clear hsm hf6
      cases sm with
      | false =>
        go_wp2_with fail
        refine (awake29_yes w6).mono ?_
        rintro en w7 ⟨rfl, hf7⟩
        have HF7 := Lib.hid ((HE5.out.1.trans HF6.out).trans hf7)
        clear hf7
        go_wp2_with fail
        go_ret
        exact ⟨rfl, HF7.out⟩
      | true =>
        have hrv : RightV t l h x := of_decide_eq_true HIS.out.symm
        obtain ⟨top, rfl⟩ : ∃ top : Nat, t = top := Int.eq_ofNat_of_zero_le hrv.2.2.2.2.1
        obtain ⟨left, rfl⟩ : ∃ left : Nat, l = left := Int.eq_ofNat_of_zero_le hrv.2.2.2.2.2.2.1
        obtain ⟨hh, rfl⟩ : ∃ hh : Nat, h = hh := Int.eq_ofNat_of_zero_le (by have := hrv.1; omega)
        obtain ⟨wid, rfl⟩ : ∃ wid : Nat, x = wid := Int.eq_ofNat_of_zero_le (by have := hrv.2.2.1; omega)
        have HV : Hid (1 ≤ hh ∧ hh ≤ 400 ∧ 1 ≤ wid ∧ wid ≤ 40 ∧ top ≤ 1099511627776 ∧ left ≤ 1099511627776) := by
          obtain ⟨c1, c2, c3, c4, c5, c6, c7, c8⟩ := hrv
          exact ⟨by omega, by omega, by omega, by omega, by omega, by omega⟩
        clear hrv HIS
        obtain ⟨R, C, hset⟩ := sett_ex (rs.map Prod.fst) pr pc
        have HSET := Lib.hid hset
        have HGX : Hid (HG [] s g p tl eo rs ⟨zB, zm, zd, zrs, zt, ze⟩ W5) := HE5.out.2.2.2.1
        obtain ⟨mm, hmm⟩ : ∃ mm, mm = min wid (40 - left) := ⟨_, rfl⟩
        have HMM := Lib.hid hmm
        obtain ⟨L, hL⟩ : ∃ L, L = RowsI (rs.map Prod.fst) (min top (rs.map Prod.fst).length) hh := ⟨_, rfl⟩
        obtain ⟨LT, hLT⟩ : ∃ LT, LT = L.map fun r => dtxP zrs r left mm := ⟨_, rfl⟩
        have HLL : Hid (L.length ≤ 400 ∧ LT.length = L.length ∧ ∀ l ∈ LT, l.length ≤ 1000000) := by
          have h1 := rowsI_len (rs.map Prod.fst) (min top (rs.map Prod.fst).length) hh
          refine ⟨by rw [hL]; have := HV.out; omega, by rw [hLT, List.length_map], fun l hl => ?_⟩
          rw [hLT] at hl
          obtain ⟨r, _, rfl⟩ := List.mem_map.1 hl
          rw [dtxP_len]
          have := HV.out
          omega
        have HCH : Hid (∀ w', Fr [] W5 w' → (Calls Tryz.prog 19 #[.agg #[.int .i64 (top : Nat), .int .i64 (left : Nat), .int .i64 (hh : Nat), .int .i64 (wid : Nat)], .agg #[.pointer p, .bool tl, .int .i64 eo], .agg #[.int .i64 pr, .int .i64 pc], .int .i64 nn] w' fun en w'' => en = .returned (.agg #[.int .i64 (highI (R : Nat) L nn), .int .i64 (C : Nat)]) ∧ Fr [] w' w'') ∧ (Calls Tryz.prog 20 #[.agg #[.int .i64 (top : Nat), .int .i64 (left : Nat), .int .i64 (hh : Nat), .int .i64 (wid : Nat)], .agg #[.pointer p, .bool tl, .int .i64 eo], .agg #[.int .i64 pr, .int .i64 pc], .int .i64 nn] w' fun en w'' => en = .returned (.agg #[.int .i64 (lowI (R : Nat) L nn), .int .i64 (C : Nat)]) ∧ Fr [] w' w'')) := by
          show ∀ _, _
          intro w' hf
          rw [hL]
          exact ⟨(HGX.out.fr0 hf).high HSET.out top hh left wid nn HV.out.2.1, (HGX.out.fr0 hf).low HSET.out top hh left wid nn HV.out.2.1⟩
        have HDH : Hid (∀ w', Fr [] W5 w' → (Calls Tryz.prog 26 #[.agg #[.int .i64 (top : Nat), .int .i64 (left : Nat), .int .i64 (hh : Nat), .int .i64 (wid : Nat)], .agg #[.slice zB zm zd, .bool zt, .int .i64 ze], .agg #[.int .i64 pr, .int .i64 pc], .int .i64 nn] w' fun en w'' => en = .returned (.agg #[.int .i64 (highI (R : Nat) L nn), .int .i64 (C : Nat)]) ∧ Fr [] w' w'') ∧ (Calls Tryz.prog 27 #[.agg #[.int .i64 (top : Nat), .int .i64 (left : Nat), .int .i64 (hh : Nat), .int .i64 (wid : Nat)], .agg #[.slice zB zm zd, .bool zt, .int .i64 ze], .agg #[.int .i64 pr, .int .i64 pc], .int .i64 nn] w' fun en w'' => en = .returned (.agg #[.int .i64 (lowI (R : Nat) L nn), .int .i64 (C : Nat)]) ∧ Fr [] w' w'')) := by
          show ∀ _, _
          intro w' hf
          rw [hL]
          have h1 := HV.out
          exact ⟨dhigh_any w' ⟨zB, zm, zd, zrs, zt, ze⟩ (rs.map Prod.fst) top hh R C left wid pr pc nn (HGX.out.fr0 hf).dgr h1.2.1 (by omega) HSET.out (HGX.out.wids.2), dlow_any w' ⟨zB, zm, zd, zrs, zt, ze⟩ (rs.map Prod.fst) top hh R C left wid pr pc nn (HGX.out.fr0 hf).dgr h1.2.1 (by omega) HSET.out (HGX.out.wids.2)⟩
        have HCR : Hid (∀ w', Fr [] W5 w' → (Calls Tryz.prog 18 #[.agg #[.int .i64 (top : Nat), .int .i64 (left : Nat), .int .i64 (hh : Nat), .int .i64 (wid : Nat)], .agg #[.pointer p, .bool tl, .int .i64 eo]] w' (IntsA w' L)) ∧ (Calls Tryz.prog 22 #[.agg #[.int .i64 (top : Nat), .int .i64 (left : Nat), .int .i64 (hh : Nat), .int .i64 (wid : Nat)], .agg #[.slice zB zm zd, .bool zt, .int .i64 ze]] w' (IntsA w' L))) := by
          show ∀ _, _
          intro w' hf
          rw [hL]
          have h1 := HV.out
          exact ⟨(HGX.out.fr0 hf).rows top hh left wid h1.2.1, (drows_any w' ⟨zB, zm, zd, zrs, zt, ze⟩ (rs.map Prod.fst) top hh left wid (HGX.out.fr0 hf).dgr h1.2.1 (by omega)).mono fun _ _ h => h.ints⟩
        have HCT : Hid (∀ w', Fr [] W5 w' → (Calls Tryz.prog 24 #[.agg #[.int .i64 (top : Nat), .int .i64 (left : Nat), .int .i64 (hh : Nat), .int .i64 (wid : Nat)], .agg #[.pointer p, .bool tl, .int .i64 eo], .pointer (some ⟨g, 0, none⟩)] w' (TextsV w' LT)) ∧ (Calls Tryz.prog 25 #[.agg #[.int .i64 (top : Nat), .int .i64 (left : Nat), .int .i64 (hh : Nat), .int .i64 (wid : Nat)], .agg #[.slice zB zm zd, .bool zt, .int .i64 ze]] w' (TextsV w' LT))) := by
          show ∀ _, _
          intro w' hf
          have h1 := HV.out
          have hg := HGX.out.fr0 hf
          have e1 := hg.dtxs (min top (rs.map Prod.fst).length) hh left mm
          refine ⟨?_, ?_⟩
          · have h2 := hg.vtexts top left hh wid mm h1.2.1 h1.2.2.1 h1.2.2.2.1 (by omega) HMM.out
            rw [← e1, ← hL, ← hLT] at h2
            exact h2
          · have h2 := dtexts_any w' ⟨zB, zm, zd, zrs, zt, ze⟩ (rs.map Prod.fst) top left hh wid mm hg.dgr h1.2.1 (by omega) (by omega) h1.2.2.2.1 HMM.out
            rw [← hL, ← hLT] at h2
            exact h2
        clear hset hmm hL hLT
        obtain ⟨hr_, hhr⟩ : ∃ hr_ : Int, hr_ = highI (R : Nat) L nn := ⟨_, rfl⟩
        obtain ⟨lr_, hlr⟩ : ∃ lr_ : Int, lr_ = lowI (R : Nat) L nn := ⟨_, rfl⟩
        rw [← hhr, ← hlr] at HCH HDH
        clear hhr hlr
        obtain ⟨d0, d1, d2, g0, g1, g2, v0, v1, v2, v3, u0, u1, u2, u3, y0, y1, y2⟩ := HCX.out w6 HF6.out
        go_wp2_with fail
        obtain ⟨P14, hP14⟩ : ∃ P14, P14 = w6.heap.size := ⟨_, rfl⟩
        obtain ⟨W8, hW8⟩ : ∃ W8, W8 = w6.alloc (.cells #[.int .i64 pr, .int .i64 pc] 45) := ⟨_, rfl⟩
        have HE8 : Hid (Fr [] W5 W8 ∧ Blk W8 P14 45 #[.int .i64 pr, .int .i64 pc]) := ⟨by rw [hW8]; exact HF6.out.alloc _, by rw [hW8, hP14]; exact Blk.new w6 _ _⟩
        rw [← hW8, ← hP14]
        clear hW8 hP14 d0 d1 d2 g0 g1 g2 v0 v1 v2 v3 u0 u1 u2 u3 y0 y1 y2
        have HC8 := Lib.hid (fun w' (hf : Fr [] W8 w') => HCX.out w' (HE8.out.1.trans hf))
        have HP8 : Hid (∀ w', Fr [] W8 w' → w'.cell? ⟨P14, 0, none⟩ = some (.int .i64 pr) ∧ w'.cell? ⟨P14, 1, none⟩ = some (.int .i64 pc)) := by
          show ∀ _, _
          intro w' hf
          have h1 := HE8.out.2.fr hf (by simp)
          exact ⟨h1.cell 0, h1.cell 1⟩
        obtain ⟨F, hF⟩ : ∃ F : World → Nat → Value → Prop, F = (fun (w : World) (i : Nat) (v : Value) => match i with | 0 => v = .agg #[.int .i64 (top : Nat), .int .i64 (left : Nat), .int .i64 (hh : Nat), .int .i64 (wid : Nat)] | 1 => v = .agg #[.pointer p, .bool tl, .int .i64 eo] | 2 => v = .agg #[.int .i64 pr, .int .i64 pc] | 3 => v = .pointer (some ⟨X5, 6, none⟩) | 4 => v = .int .i64 nn | 5 => v = .agg #[.int .i64 hr_, .int .i64 (C : Nat)] | 6 => v = .agg #[.int .i64 (top : Nat), .int .i64 (left : Nat), .int .i64 (hh : Nat), .int .i64 (wid : Nat)] | 7 => v = .agg #[.pointer p, .bool tl, .int .i64 eo] | 8 => v = .agg #[.int .i64 pr, .int .i64 pc] | 9 => v = .pointer (some ⟨X5, 6, none⟩) | 10 => v = .int .i64 nn | 11 => v = .agg #[.int .i64 lr_, .int .i64 (C : Nat)] | 12 => ∃ (Q : Nat) (a b : Int), v = .pointer (some ⟨Q, 0, none⟩) ∧ Blk w Q 45 #[.int .i64 a, .int .i64 b] ∧ W8.heap.size ≤ Q | 13 => ∃ (Q : Nat) (a b : Int), v = .pointer (some ⟨Q, 0, none⟩) ∧ Blk w Q 45 #[.int .i64 a, .int .i64 b] ∧ W8.heap.size ≤ Q | 14 => ∃ Q : Nat, v = .pointer (some ⟨Q, 0, none⟩) ∧ Blk w Q 45 #[.int .i64 hr_, .int .i64 (C : Nat)] ∧ W8.heap.size ≤ Q | _ => True) := ⟨_, rfl⟩
        obtain ⟨G, hG⟩ : ∃ G : (Nat → Value) → World → Prop, G = (fun u w => ∃ Q P : Nat, u 12 = .pointer (some ⟨Q, 0, none⟩) ∧ u 13 = .pointer (some ⟨P, 0, none⟩) ∧ Blk w Q 45 #[.int .i64 hr_, .int .i64 (C : Nat)] ∧ Blk w P 45 #[.int .i64 lr_, .int .i64 (C : Nat)] ∧ Fr [] W8 w) := ⟨_, rfl⟩
        have HM : Hid (∀ w1 w2 : World, Fr [] w1 w2 → ∀ j x, F w1 j x → F w2 j x) := by
          show ∀ _, _
          intro w1 w2 hf j x h
          subst hF
          match j, h with
          | 12, ⟨Q, a, b, h1, h2, h3⟩ => exact ⟨Q, a, b, h1, h2.fr hf (by simp), h3⟩
          | 13, ⟨Q, a, b, h1, h2, h3⟩ => exact ⟨Q, a, b, h1, h2.fr hf (by simp), h3⟩
          | 14, ⟨Q, h1, h2, h3⟩ => exact ⟨Q, h1, h2.fr hf (by simp), h3⟩
          | 0, h => exact h
          | 1, h => exact h
          | 2, h => exact h
          | 3, h => exact h
          | 4, h => exact h
          | 5, h => exact h
          | 6, h => exact h
          | 7, h => exact h
          | 8, h => exact h
          | 9, h => exact h
          | 10, h => exact h
          | 11, h => exact h
          | n + 15, h => trivial
        have HFG := Lib.hid (And.intro hF hG)
        clear hF hG
        refine wp_region_invc (by kernel_rfl) (fun f a w' => ∃ u : Nat → Value, a = { tmps := #[Value.string { data := s0.toArray }, .int .u64 m, Value.agg #[.int .i64 ↑top, .int .i64 ↑left, .int .i64 ↑hh, .int .i64 ↑wid, .int .i64 pr, .int .i64 pc, .int .i64 nn], undef, undef, .pointer (some { block := X5, off := 0 }), Value.bool false, .pointer (some { block := G7, off := 0 }), .pointer (some { block := g, off := 0 }), .pointer (some { block := D9, off := 0 }), Value.bool true, .pointer (some { block := V11, off := 0 }), .pointer (some { block := U12, off := 0 }), Value.bool true, .pointer (some { block := P14, off := 0 }), u 12, u 13, Value.tuple #[Value.agg #[.pointer p, Value.bool tl, .int .i64 eo], .pointer (some { block := g, off := 0 }), Value.agg #[.slice zB zm zd, Value.bool zt, .int .i64 ze], Value.bool true], Value.string { data := s0.toArray }, .int .u64 m, Value.tuple #[Value.agg #[.pointer p, Value.bool tl, .int .i64 eo], .pointer (some { block := g, off := 0 }), Value.agg #[.slice zB zm zd, Value.bool zt, .int .i64 ze], Value.bool true], Value.agg #[.pointer p, Value.bool tl, .int .i64 eo], .pointer (some { block := g, off := 0 }), Value.agg #[.slice zB zm zd, Value.bool zt, .int .i64 ze], Value.bool true, Value.tuple #[Value.agg #[.int .i64 ↑top, .int .i64 ↑left, .int .i64 ↑hh, .int .i64 ↑wid], Value.agg #[.int .i64 ↑top, .int .i64 ↑left, .int .i64 ↑hh, .int .i64 ↑wid], Value.bool true], .pointer (some { block := X5, off := 0 }), Value.agg #[.int .i64 ↑top, .int .i64 ↑left, .int .i64 ↑hh, .int .i64 ↑wid], Value.tuple #[Value.agg #[.int .i64 ↑top, .int .i64 ↑left, .int .i64 ↑hh, .int .i64 ↑wid], Value.agg #[.int .i64 ↑top, .int .i64 ↑left, .int .i64 ↑hh, .int .i64 ↑wid], Value.bool true], Value.agg #[.int .i64 ↑top, .int .i64 ↑left, .int .i64 ↑hh, .int .i64 ↑wid], Value.agg #[.int .i64 ↑top, .int .i64 ↑left, .int .i64 ↑hh, .int .i64 ↑wid], Value.bool true, Value.bool true, Value.bool false, Value.bool false, Value.bool true, Value.bool false, Value.bool false, Value.bool false, .pointer (some { block := X5, off := 4 }), Value.agg #[.int .i64 pr, .int .i64 pc], Value.bool true, Value.bool false, Value.bool false, undef, undef, undef, undef, undef, .pointer (some { block := X5, off := 4 }), .pointer (some { block := X5, off := 4 }), .int .i64 pr, .pointer (some { block := X5, off := 4 }), .pointer (some { block := X5, off := 5 }), .int .i64 pc, Value.agg #[.int .i64 pr, .int .i64 pc], u 0, u 1, u 2, u 3, u 4, u 5, u 6, u 7, u 8, u 9, u 10, u 11, undef, undef, undef, undef, undef, undef, undef, undef, undef, undef, undef, undef, undef, undef, undef, undef, undef, undef, undef, undef, undef, undef, undef, undef, undef, undef, undef, undef, undef, undef, undef, undef, undef, undef, undef, undef, undef, undef, undef, undef, undef, undef, undef, undef, undef, undef, undef, undef, undef, undef], defers := [] } ∧ Hid (RInv F G W8 15 f u w' ∧ (f 15 = false → f 12 = true → f 13 = true → u 12 ≠ u 13) ∧ (f 15 = false → f 14 = true → u 14 = u 12))) (by kernel_rfl) ?_ ?_ ?_
        · exact ⟨fun _ => undef, rfl, RInv.start _, fun _ h => Bool.noConfusion h, fun _ h => Bool.noConfusion h⟩
        · simp only [EachOp]
          refine ⟨?_, ?_, ?_, ?_, ?_, ?_, ?_, ?_, ?_, ?_, ?_, ?_, ?_, ?_, ?_, ?_, trivial⟩
          all_goals rintro f a w' hfi hdep hcl ⟨u, rfl, HI⟩ K hK
          all_goals first
            | have hL : f 15 = false := hfi
            | have hL := hcl.no (L := 15) _ rfl hfi ⟨_, .phase⟩ (by simp) rfl rfl
          · obtain ⟨d0, d1, d2, g0, g1, g2, v0, v1, v2, v3, u0, u1, u2, u3, y0, y1, y2⟩ := HC8.out w' (HI.out.1.a hL).1
            obtain ⟨p0, p1⟩ := HP8.out w' (HI.out.1.a hL).1
            go_simp
            exact hK _ _ ⟨updU u 0 (.agg #[.int .i64 (top : Nat), .int .i64 (left : Nat), .int .i64 (hh : Nat), .int .i64 (wid : Nat)]), rfl, HI.out.1.val hL (by decide) (by rw [HFG.out.1]; exact rfl), fun _ a b => HI.out.2.1 hL ((addB_ne (by decide)).symm.trans a) ((addB_ne (by decide)).symm.trans b), fun _ a => HI.out.2.2 hL ((addB_ne (by decide)).symm.trans a)⟩
          · obtain ⟨d0, d1, d2, g0, g1, g2, v0, v1, v2, v3, u0, u1, u2, u3, y0, y1, y2⟩ := HC8.out w' (HI.out.1.a hL).1
            obtain ⟨p0, p1⟩ := HP8.out w' (HI.out.1.a hL).1
            go_simp
            exact hK _ _ ⟨updU u 1 (.agg #[.pointer p, .bool tl, .int .i64 eo]), rfl, HI.out.1.val hL (by decide) (by rw [HFG.out.1]; exact rfl), fun _ a b => HI.out.2.1 hL ((addB_ne (by decide)).symm.trans a) ((addB_ne (by decide)).symm.trans b), fun _ a => HI.out.2.2 hL ((addB_ne (by decide)).symm.trans a)⟩
          · obtain ⟨d0, d1, d2, g0, g1, g2, v0, v1, v2, v3, u0, u1, u2, u3, y0, y1, y2⟩ := HC8.out w' (HI.out.1.a hL).1
            obtain ⟨p0, p1⟩ := HP8.out w' (HI.out.1.a hL).1
            go_simp
            exact hK _ _ ⟨updU u 2 (.agg #[.int .i64 pr, .int .i64 pc]), rfl, HI.out.1.val hL (by decide) (by rw [HFG.out.1]; exact rfl), fun _ a b => HI.out.2.1 hL ((addB_ne (by decide)).symm.trans a) ((addB_ne (by decide)).symm.trans b), fun _ a => HI.out.2.2 hL ((addB_ne (by decide)).symm.trans a)⟩
          · go_simp
            exact hK _ _ ⟨updU u 3 (.pointer (some ⟨X5, 6, none⟩)), rfl, HI.out.1.val hL (by decide) (by rw [HFG.out.1]; exact rfl), fun _ a b => HI.out.2.1 hL ((addB_ne (by decide)).symm.trans a) ((addB_ne (by decide)).symm.trans b), fun _ a => HI.out.2.2 hL ((addB_ne (by decide)).symm.trans a)⟩
          · have e3 : u 3 = .pointer (some ⟨X5, 6, none⟩) := HI.out.1.get HFG.out.1 hL (i := 3) (hdep ⟨3, .data⟩ (by simp) rfl)
            obtain ⟨d0, d1, d2, g0, g1, g2, v0, v1, v2, v3, u0, u1, u2, u3, y0, y1, y2⟩ := HC8.out w' (HI.out.1.a hL).1
            obtain ⟨p0, p1⟩ := HP8.out w' (HI.out.1.a hL).1
            go_simp
            exact hK _ _ ⟨updU u 4 (.int .i64 nn), (by simp [updU, e3] <;> (repeat' apply And.intro) <;> rfl), HI.out.1.val hL (by decide) (by rw [HFG.out.1]; exact rfl), fun _ a b => HI.out.2.1 hL ((addB_ne (by decide)).symm.trans a) ((addB_ne (by decide)).symm.trans b), fun _ a => HI.out.2.2 hL ((addB_ne (by decide)).symm.trans a)⟩
          · have e0 : u 0 = .agg #[.int .i64 (top : Nat), .int .i64 (left : Nat), .int .i64 (hh : Nat), .int .i64 (wid : Nat)] := HI.out.1.get HFG.out.1 hL (i := 0) (hdep ⟨0, .data⟩ (by simp) rfl)
            have e1 : u 1 = .agg #[.pointer p, .bool tl, .int .i64 eo] := HI.out.1.get HFG.out.1 hL (i := 1) (hdep ⟨1, .data⟩ (by simp) rfl)
            have e2 : u 2 = .agg #[.int .i64 pr, .int .i64 pc] := HI.out.1.get HFG.out.1 hL (i := 2) (hdep ⟨2, .data⟩ (by simp) rfl)
            have e4 : u 4 = .int .i64 nn := HI.out.1.get HFG.out.1 hL (i := 4) (hdep ⟨4, .data⟩ (by simp) rfl)
            refine step_call _ (by rfl) 19 #[.agg #[.int .i64 (top : Nat), .int .i64 (left : Nat), .int .i64 (hh : Nat), .int .i64 (wid : Nat)], .agg #[.pointer p, .bool tl, .int .i64 eo], .agg #[.int .i64 pr, .int .i64 pc], .int .i64 nn] (by go_simp) _ ((HCH.out w' (HE8.out.1.trans (HI.out.1.a hL).1)).1) (by rintro e w' ⟨he, _⟩; exact ⟨_, he⟩) ?_
            rintro v4 w4 ⟨hv4, hf4⟩
            injection hv4 with hv4
            subst hv4
            try go_simp
            exact hK _ _ ⟨updU u 5 (.agg #[.int .i64 hr_, .int .i64 (C : Nat)]), (by simp [updU, e0, e1, e2, e4] <;> (repeat' apply And.intro) <;> rfl), HI.out.1.call hL (by decide) (HM.out _ _ hf4) hf4 (by rw [HFG.out.1]; exact rfl), fun _ a b => HI.out.2.1 hL ((addB_ne (by decide)).symm.trans a) ((addB_ne (by decide)).symm.trans b), fun _ a => HI.out.2.2 hL ((addB_ne (by decide)).symm.trans a)⟩
          · obtain ⟨d0, d1, d2, g0, g1, g2, v0, v1, v2, v3, u0, u1, u2, u3, y0, y1, y2⟩ := HC8.out w' (HI.out.1.a hL).1
            obtain ⟨p0, p1⟩ := HP8.out w' (HI.out.1.a hL).1
            go_simp
            exact hK _ _ ⟨updU u 6 (.agg #[.int .i64 (top : Nat), .int .i64 (left : Nat), .int .i64 (hh : Nat), .int .i64 (wid : Nat)]), rfl, HI.out.1.val hL (by decide) (by rw [HFG.out.1]; exact rfl), fun _ a b => HI.out.2.1 hL ((addB_ne (by decide)).symm.trans a) ((addB_ne (by decide)).symm.trans b), fun _ a => HI.out.2.2 hL ((addB_ne (by decide)).symm.trans a)⟩
          · obtain ⟨d0, d1, d2, g0, g1, g2, v0, v1, v2, v3, u0, u1, u2, u3, y0, y1, y2⟩ := HC8.out w' (HI.out.1.a hL).1
            obtain ⟨p0, p1⟩ := HP8.out w' (HI.out.1.a hL).1
            go_simp
            exact hK _ _ ⟨updU u 7 (.agg #[.pointer p, .bool tl, .int .i64 eo]), rfl, HI.out.1.val hL (by decide) (by rw [HFG.out.1]; exact rfl), fun _ a b => HI.out.2.1 hL ((addB_ne (by decide)).symm.trans a) ((addB_ne (by decide)).symm.trans b), fun _ a => HI.out.2.2 hL ((addB_ne (by decide)).symm.trans a)⟩
          · obtain ⟨d0, d1, d2, g0, g1, g2, v0, v1, v2, v3, u0, u1, u2, u3, y0, y1, y2⟩ := HC8.out w' (HI.out.1.a hL).1
            obtain ⟨p0, p1⟩ := HP8.out w' (HI.out.1.a hL).1
            go_simp
            exact hK _ _ ⟨updU u 8 (.agg #[.int .i64 pr, .int .i64 pc]), rfl, HI.out.1.val hL (by decide) (by rw [HFG.out.1]; exact rfl), fun _ a b => HI.out.2.1 hL ((addB_ne (by decide)).symm.trans a) ((addB_ne (by decide)).symm.trans b), fun _ a => HI.out.2.2 hL ((addB_ne (by decide)).symm.trans a)⟩
          · go_simp
            exact hK _ _ ⟨updU u 9 (.pointer (some ⟨X5, 6, none⟩)), rfl, HI.out.1.val hL (by decide) (by rw [HFG.out.1]; exact rfl), fun _ a b => HI.out.2.1 hL ((addB_ne (by decide)).symm.trans a) ((addB_ne (by decide)).symm.trans b), fun _ a => HI.out.2.2 hL ((addB_ne (by decide)).symm.trans a)⟩
          · have e9 : u 9 = .pointer (some ⟨X5, 6, none⟩) := HI.out.1.get HFG.out.1 hL (i := 9) (hdep ⟨9, .data⟩ (by simp) rfl)
            obtain ⟨d0, d1, d2, g0, g1, g2, v0, v1, v2, v3, u0, u1, u2, u3, y0, y1, y2⟩ := HC8.out w' (HI.out.1.a hL).1
            obtain ⟨p0, p1⟩ := HP8.out w' (HI.out.1.a hL).1
            go_simp
            exact hK _ _ ⟨updU u 10 (.int .i64 nn), (by simp [updU, e9] <;> (repeat' apply And.intro) <;> rfl), HI.out.1.val hL (by decide) (by rw [HFG.out.1]; exact rfl), fun _ a b => HI.out.2.1 hL ((addB_ne (by decide)).symm.trans a) ((addB_ne (by decide)).symm.trans b), fun _ a => HI.out.2.2 hL ((addB_ne (by decide)).symm.trans a)⟩
          · have e6 : u 6 = .agg #[.int .i64 (top : Nat), .int .i64 (left : Nat), .int .i64 (hh : Nat), .int .i64 (wid : Nat)] := HI.out.1.get HFG.out.1 hL (i := 6) (hdep ⟨6, .data⟩ (by simp) rfl)
            have e7 : u 7 = .agg #[.pointer p, .bool tl, .int .i64 eo] := HI.out.1.get HFG.out.1 hL (i := 7) (hdep ⟨7, .data⟩ (by simp) rfl)
            have e8 : u 8 = .agg #[.int .i64 pr, .int .i64 pc] := HI.out.1.get HFG.out.1 hL (i := 8) (hdep ⟨8, .data⟩ (by simp) rfl)
            have e10 : u 10 = .int .i64 nn := HI.out.1.get HFG.out.1 hL (i := 10) (hdep ⟨10, .data⟩ (by simp) rfl)
            refine step_call _ (by rfl) 20 #[.agg #[.int .i64 (top : Nat), .int .i64 (left : Nat), .int .i64 (hh : Nat), .int .i64 (wid : Nat)], .agg #[.pointer p, .bool tl, .int .i64 eo], .agg #[.int .i64 pr, .int .i64 pc], .int .i64 nn] (by go_simp) _ ((HCH.out w' (HE8.out.1.trans (HI.out.1.a hL).1)).2) (by rintro e w' ⟨he, _⟩; exact ⟨_, he⟩) ?_
            rintro v4 w4 ⟨hv4, hf4⟩
            injection hv4 with hv4
            subst hv4
            try go_simp
            exact hK _ _ ⟨updU u 11 (.agg #[.int .i64 lr_, .int .i64 (C : Nat)]), (by simp [updU, e6, e7, e8, e10] <;> (repeat' apply And.intro) <;> rfl), HI.out.1.call hL (by decide) (HM.out _ _ hf4) hf4 (by rw [HFG.out.1]; exact rfl), fun _ a b => HI.out.2.1 hL ((addB_ne (by decide)).symm.trans a) ((addB_ne (by decide)).symm.trans b), fun _ a => HI.out.2.2 hL ((addB_ne (by decide)).symm.trans a)⟩
          · go_simp
            refine hK _ _ ⟨updU u 12 (.pointer (some ⟨w'.heap.size, 0, none⟩)), rfl, HI.out.1.call hL (by decide) (HM.out _ _ ((Fr.refl [] w').alloc _)) ((Fr.refl [] w').alloc _) (by rw [HFG.out.1]; exact ⟨_, 0, 0, rfl, Blk.new .., (HI.out.1.a hL).1.size⟩), fun _ _ b => ?_, fun _ a => ?_⟩
            · obtain ⟨Q, _, _, e13, hb1, _⟩ := HI.out.1.get HFG.out.1 hL (i := 13) ((addB_ne (by decide)).symm.trans b)
              show (.pointer (some ⟨w'.heap.size, 0, none⟩) : Value) ≠ u 13
              rw [e13]
              intro e
              injection e with e
              injection e with e
              injection e with e
              have := hb1.lt
              omega
            · exact absurd (hcl 14 _ rfl ((addB_ne (by decide)).symm.trans a) ⟨12, .data⟩ (by simp) rfl) (by rw [hfi]; simp)
          · go_simp
            refine hK _ _ ⟨updU u 13 (.pointer (some ⟨w'.heap.size, 0, none⟩)), rfl, HI.out.1.call hL (by decide) (HM.out _ _ ((Fr.refl [] w').alloc _)) ((Fr.refl [] w').alloc _) (by rw [HFG.out.1]; exact ⟨_, 0, 0, rfl, Blk.new .., (HI.out.1.a hL).1.size⟩), fun _ a _ => ?_, fun _ a => HI.out.2.2 hL ((addB_ne (by decide)).symm.trans a)⟩
            · obtain ⟨Q, _, _, e12, hb1, _⟩ := HI.out.1.get HFG.out.1 hL (i := 12) ((addB_ne (by decide)).symm.trans a)
              show u 12 ≠ (.pointer (some ⟨w'.heap.size, 0, none⟩) : Value)
              rw [e12]
              intro e
              injection e with e
              injection e with e
              injection e with e
              have := hb1.lt
              omega
          · have e5 : u 5 = .agg #[.int .i64 hr_, .int .i64 (C : Nat)] := HI.out.1.get HFG.out.1 hL (i := 5) (hdep ⟨5, .data⟩ (by simp) rfl)
            have e12 := HI.out.1.get HFG.out.1 hL (i := 12) (hdep ⟨12, .data⟩ (by simp) rfl)
            have e13 := HI.out.1.get HFG.out.1 hL (i := 13) (hdep ⟨13, .phase⟩ (by simp) rfl)
            have hne := HI.out.2.1 hL (hdep ⟨12, .data⟩ (by simp) rfl) (hdep ⟨13, .phase⟩ (by simp) rfl)
            obtain ⟨Q, qa, qb, e12, hb, hq⟩ := e12
            obtain ⟨P, pa, pb, e13, hbp, hqp⟩ := e13
            have hQP : Q ≠ P := fun e => hne (by rw [e12, e13, e])
            clear hne
            have q0 : w'.cell? ⟨Q, 0, none⟩ = some (.int .i64 qa) := hb.cell 0
            have q1 : w'.cell? ⟨Q, 1, none⟩ = some (.int .i64 qb) := hb.cell 1
            have z0 := hb.frozen 0
            have z1 := hb.frozen 1
            have lq := hb.lt
            have hbn : Blk ((w'.setCell ⟨Q, 0, none⟩ (.int .i64 hr_)).setCell ⟨Q, 1, none⟩ (.int .i64 (C : Nat))) Q 45 #[.int .i64 hr_, .int .i64 (C : Nat)] := by simpa using (hb.set_ 0 (.int .i64 hr_)).set_ 1 (.int .i64 (C : Nat))
            have hbq : Blk ((w'.setCell ⟨Q, 0, none⟩ (.int .i64 hr_)).setCell ⟨Q, 1, none⟩ (.int .i64 (C : Nat))) P 45 #[.int .i64 pa, .int .i64 pb] := (hbp.far (fun e => hQP e.symm) _).far (fun e => hQP e.symm) _
            go_simp
            refine hK _ _ ⟨updU u 14 (u 12), (by simp [updU, e12, e13, e5] <;> (repeat' apply And.intro) <;> rfl), HI.out.1.step hL (by decide) (((HI.out.1.a hL).1.setB (fun h => absurd h (by omega)) _ _).setB (fun h => absurd h (by omega)) _ _) (fun j hj => ?_) (by rw [HFG.out.1]; exact ⟨Q, e12, hbn, hq⟩), fun _ a b => HI.out.2.1 hL ((addB_ne (by decide)).symm.trans a) ((addB_ne (by decide)).symm.trans b), fun _ _ => rfl⟩
            have h0 := (HI.out.1.a hL).2 j hj
            rw [HFG.out.1] at h0 ⊢
            match j, h0, hj with
            | 12, _, _ => exact ⟨Q, _, _, e12, hbn, hq⟩
            | 13, _, _ => exact ⟨P, _, _, e13, hbq, hqp⟩
            | 14, _, h => rw [hfi] at h; cases h
            | 0, h, _ => exact h
            | 1, h, _ => exact h
            | 2, h, _ => exact h
            | 3, h, _ => exact h
            | 4, h, _ => exact h
            | 5, h, _ => exact h
            | 6, h, _ => exact h
            | 7, h, _ => exact h
            | 8, h, _ => exact h
            | 9, h, _ => exact h
            | 10, h, _ => exact h
            | 11, h, _ => exact h
            | n + 15, _, _ => trivial
          · have e11 : u 11 = .agg #[.int .i64 lr_, .int .i64 (C : Nat)] := HI.out.1.get HFG.out.1 hL (i := 11) (hdep ⟨11, .data⟩ (by simp) rfl)
            have e13 := HI.out.1.get HFG.out.1 hL (i := 13) (hdep ⟨13, .data⟩ (by simp) rfl)
            have e14 := HI.out.1.get HFG.out.1 hL (i := 14) (hdep ⟨14, .phase⟩ (by simp) rfl)
            have e12 := HI.out.1.get HFG.out.1 hL (i := 12) (hdep ⟨12, .phase⟩ (by simp) rfl)
            have hne := HI.out.2.1 hL (hdep ⟨12, .phase⟩ (by simp) rfl) (hdep ⟨13, .data⟩ (by simp) rfl)
            have h14 := HI.out.2.2 hL (hdep ⟨14, .phase⟩ (by simp) rfl)
            obtain ⟨Q, e14, hb14, hq⟩ := e14
            rw [h14] at e14
            clear e12
            obtain ⟨P, pa, pb, e13, hbp, hqp⟩ := e13
            have hQP : Q ≠ P := fun e => hne (by rw [e14, e13, e])
            clear hne
            have q0 : w'.cell? ⟨P, 0, none⟩ = some (.int .i64 pa) := hbp.cell 0
            have q1 : w'.cell? ⟨P, 1, none⟩ = some (.int .i64 pb) := hbp.cell 1
            have z0 := hbp.frozen 0
            have z1 := hbp.frozen 1
            have lq := hbp.lt
            go_simp
            refine hK _ _ ⟨u, (by simp [e13, e14, e11] <;> (repeat' apply And.intro) <;> rfl), RInv.last ?_, fun e => Bool.noConfusion ((addB_self f 15).symm.trans e), fun e => Bool.noConfusion ((addB_self f 15).symm.trans e)⟩
            rw [HFG.out.2]
            refine ⟨Q, P, e14, e13, (hb14.far (fun e => hQP e) _).far (fun e => hQP e) _, by simpa using (hbp.set_ 0 (.int .i64 lr_)).set_ 1 (.int .i64 (C : Nat)), ((HI.out.1.a hL).1.setB (fun h => absurd h (by omega)) _ _).setB (fun h => absurd h (by omega)) _ _⟩
        · rintro f a w' hall ⟨u, rfl, HI⟩
          have hG := HI.out.1.b (hall 15 (by decide))
          rw [HFG.out.2] at hG
          obtain ⟨H15, L16, e12, e13, hb15, hb16, hf8⟩ := hG
          rw [e12, e13]
          dsimp only
          generalize u 0 = u_0
          generalize u 1 = u_1
          generalize u 2 = u_2
          generalize u 3 = u_3
          generalize u 4 = u_4
          generalize u 5 = u_5
          generalize u 6 = u_6
          generalize u 7 = u_7
          generalize u 8 = u_8
          generalize u 9 = u_9
          generalize u 10 = u_10
          generalize u 11 = u_11
          have HE9 : Hid (Fr [] W5 w' ∧ Blk w' H15 45 #[.int .i64 hr_, .int .i64 (C : Nat)] ∧ Blk w' L16 45 #[.int .i64 lr_, .int .i64 (C : Nat)]) := ⟨HE8.out.1.trans hf8, hb15, hb16⟩
          have HF89 := Lib.hid hf8
          clear hb15 hb16 hf8 HI hall HFG HM e12 e13
          go_wp2_with fail
          obtain ⟨nL, hnL⟩ : ∃ nL, nL = L.length := ⟨_, rfl⟩
          have HNL := Lib.hid hnL
          obtain ⟨W9, rfl⟩ : ∃ W9, W9 = w' := ⟨_, rfl⟩
          have HC9 : Hid (∀ w', Fr [] W9 w' → (w'.cell? ⟨X5, 4, none⟩ = some (.int .i64 pr) ∧ w'.cell? ⟨X5, 5, none⟩ = some (.int .i64 pc) ∧ w'.cell? ⟨X5, 6, none⟩ = some (.int .i64 nn)) ∧ (w'.cell? ⟨G7, 0, none⟩ = some (.pointer p) ∧ w'.cell? ⟨G7, 1, none⟩ = some (.bool tl) ∧ w'.cell? ⟨G7, 2, none⟩ = some (.int .i64 eo)) ∧ (w'.cell? ⟨V11, 0, none⟩ = some (.int .i64 (top : Nat)) ∧ w'.cell? ⟨V11, 1, none⟩ = some (.int .i64 (left : Nat)) ∧ w'.cell? ⟨V11, 2, none⟩ = some (.int .i64 (hh : Nat)) ∧ w'.cell? ⟨V11, 3, none⟩ = some (.int .i64 (wid : Nat))) ∧ (w'.cell? ⟨U12, 0, none⟩ = some (.int .i64 (top : Nat)) ∧ w'.cell? ⟨U12, 1, none⟩ = some (.int .i64 (left : Nat)) ∧ w'.cell? ⟨U12, 2, none⟩ = some (.int .i64 (hh : Nat)) ∧ w'.cell? ⟨U12, 3, none⟩ = some (.int .i64 (wid : Nat))) ∧ (w'.cell? ⟨D9, 0, none⟩ = some (.slice zB zm zd) ∧ w'.cell? ⟨D9, 1, none⟩ = some (.bool zt) ∧ w'.cell? ⟨D9, 2, none⟩ = some (.int .i64 ze)) ∧ (w'.cell? ⟨H15, 0, none⟩ = some (.int .i64 hr_) ∧ w'.cell? ⟨H15, 1, none⟩ = some (.int .i64 (C : Nat))) ∧ (w'.cell? ⟨L16, 0, none⟩ = some (.int .i64 lr_) ∧ w'.cell? ⟨L16, 1, none⟩ = some (.int .i64 (C : Nat)))) := by
            show ∀ _, _
            intro w' hf
            obtain ⟨d0, d1, d2, g0, g1, g2, v0, v1, v2, v3, u0, u1, u2, u3, y0, y1, y2⟩ := HCX.out w' (HE9.out.1.trans hf)
            have h1 := HE9.out.2.1.fr hf (by simp)
            have h2 := HE9.out.2.2.fr hf (by simp)
            exact ⟨⟨d0, d1, d2⟩, ⟨g0, g1, g2⟩, ⟨v0, v1, v2, v3⟩, ⟨u0, u1, u2, u3⟩, ⟨y0, y1, y2⟩, ⟨h1.cell 0, h1.cell 1⟩, ⟨h2.cell 0, h2.cell 1⟩⟩
          clear hnL
          obtain ⟨F, hF⟩ : ∃ F : World → Nat → Value → Prop, F = (fun (w : World) (i : Nat) (v : Value) => match i with | 0 => v = .agg #[.int .i64 (top : Nat), .int .i64 (left : Nat), .int .i64 (hh : Nat), .int .i64 (wid : Nat)] | 1 => v = .agg #[.pointer p, .bool tl, .int .i64 eo] | 2 => ∃ (B : Option Addr) (c : Nat), v = .slice B nL c ∧ Sl w B (intsV L) | 3 => v = .agg #[.int .i64 (top : Nat), .int .i64 (left : Nat), .int .i64 (hh : Nat), .int .i64 (wid : Nat)] | 4 => v = .agg #[.slice zB zm zd, .bool zt, .int .i64 ze] | 5 => ∃ (B : Option Addr) (c : Nat), v = .slice B nL c ∧ Sl w B (intsV L) | 6 => v = .bool true | 7 => v = .bool true | 8 => v = .agg #[.int .i64 (top : Nat), .int .i64 (left : Nat), .int .i64 (hh : Nat), .int .i64 (wid : Nat)] | 9 => v = .agg #[.pointer p, .bool tl, .int .i64 eo] | 10 => v = .pointer (some ⟨g, 0, none⟩) | 11 => ∃ (B : Option Addr) (c : Nat) (ps : List Part), v = .slice B nL c ∧ TxAt w B ps LT | 12 => v = .agg #[.int .i64 (top : Nat), .int .i64 (left : Nat), .int .i64 (hh : Nat), .int .i64 (wid : Nat)] | 13 => v = .agg #[.slice zB zm zd, .bool zt, .int .i64 ze] | 14 => ∃ (B : Option Addr) (c : Nat) (ps : List Part), v = .slice B nL c ∧ TxAt w B ps LT | 15 => v = .bool true | 16 => v = .bool true | 17 => v = .bool true | 18 => v = .pointer (some ⟨H15, 0, none⟩) | 19 => v = .int .i64 hr_ | 20 => v = .pointer (some ⟨H15, 1, none⟩) | 21 => v = .int .i64 (C : Nat) | 22 => v = .agg #[.int .i64 hr_, .int .i64 (C : Nat)] | 23 => v = .agg #[.int .i64 (top : Nat), .int .i64 (left : Nat), .int .i64 (hh : Nat), .int .i64 (wid : Nat)] | 24 => v = .agg #[.slice zB zm zd, .bool zt, .int .i64 ze] | 25 => v = .pointer (some ⟨X5, 4, none⟩) | 26 => v = .agg #[.int .i64 pr, .int .i64 pc] | 27 => v = .pointer (some ⟨X5, 6, none⟩) | 28 => v = .int .i64 nn | 29 => v = .agg #[.int .i64 hr_, .int .i64 (C : Nat)] | 30 => v = .bool true | 31 => v = .bool true | 32 => v = .bool true | 33 => v = .pointer (some ⟨L16, 0, none⟩) | 34 => v = .int .i64 lr_ | 35 => v = .pointer (some ⟨L16, 1, none⟩) | 36 => v = .int .i64 (C : Nat) | 37 => v = .agg #[.int .i64 lr_, .int .i64 (C : Nat)] | 38 => v = .agg #[.int .i64 (top : Nat), .int .i64 (left : Nat), .int .i64 (hh : Nat), .int .i64 (wid : Nat)] | 39 => v = .agg #[.slice zB zm zd, .bool zt, .int .i64 ze] | 40 => v = .pointer (some ⟨X5, 4, none⟩) | 41 => v = .agg #[.int .i64 pr, .int .i64 pc] | 42 => v = .pointer (some ⟨X5, 6, none⟩) | 43 => v = .int .i64 nn | 44 => v = .agg #[.int .i64 lr_, .int .i64 (C : Nat)] | 45 => v = .bool true | 46 => v = .bool true | 47 => v = .bool true | 48 => v = .bool true | 49 => v = .bool true | 50 => v = .bool true | _ => True) := ⟨_, rfl⟩
          obtain ⟨G, hG⟩ : ∃ G : (Nat → Value) → World → Prop, G = (fun u w => u 50 = .bool true ∧ Fr [] W9 w) := ⟨_, rfl⟩
          have HM : Hid (∀ w1 w2 : World, Fr [] w1 w2 → ∀ j x, F w1 j x → F w2 j x) := by
            show ∀ _, _
            intro w1 w2 hf j x h
            subst hF
            match j, h with
            | 2, ⟨B, c, h1, h2⟩ => exact ⟨B, c, h1, h2.fr hf (.inr List.not_mem_nil)⟩
            | 5, ⟨B, c, h1, h2⟩ => exact ⟨B, c, h1, h2.fr hf (.inr List.not_mem_nil)⟩
            | 11, ⟨B, c, ps, h1, h2⟩ => exact ⟨B, c, ps, h1, h2.fr0 hf⟩
            | 14, ⟨B, c, ps, h1, h2⟩ => exact ⟨B, c, ps, h1, h2.fr0 hf⟩
            | 0, h => exact h
            | 1, h => exact h
            | 3, h => exact h
            | 4, h => exact h
            | 6, h => exact h
            | 7, h => exact h
            | 8, h => exact h
            | 9, h => exact h
            | 10, h => exact h
            | 12, h => exact h
            | 13, h => exact h
            | 15, h => exact h
            | 16, h => exact h
            | 17, h => exact h
            | 18, h => exact h
            | 19, h => exact h
            | 20, h => exact h
            | 21, h => exact h
            | 22, h => exact h
            | 23, h => exact h
            | 24, h => exact h
            | 25, h => exact h
            | 26, h => exact h
            | 27, h => exact h
            | 28, h => exact h
            | 29, h => exact h
            | 30, h => exact h
            | 31, h => exact h
            | 32, h => exact h
            | 33, h => exact h
            | 34, h => exact h
            | 35, h => exact h
            | 36, h => exact h
            | 37, h => exact h
            | 38, h => exact h
            | 39, h => exact h
            | 40, h => exact h
            | 41, h => exact h
            | 42, h => exact h
            | 43, h => exact h
            | 44, h => exact h
            | 45, h => exact h
            | 46, h => exact h
            | 47, h => exact h
            | 48, h => exact h
            | 49, h => exact h
            | 50, h => exact h
            | n + 51, h => trivial
          have HFG := Lib.hid (And.intro hF hG)
          clear hF hG
          refine wp_region_invc (by kernel_rfl) (fun f a w' => ∃ u : Nat → Value, a = { tmps := #[Value.string { data := s0.toArray }, .int .u64 m, Value.agg #[.int .i64 ↑top, .int .i64 ↑left, .int .i64 ↑hh, .int .i64 ↑wid, .int .i64 pr, .int .i64 pc, .int .i64 nn], undef, undef, .pointer (some { block := X5, off := 0 }), u 50, .pointer (some { block := G7, off := 0 }), .pointer (some { block := g, off := 0 }), .pointer (some { block := D9, off := 0 }), Value.bool true, .pointer (some { block := V11, off := 0 }), .pointer (some { block := U12, off := 0 }), Value.bool true, .pointer (some { block := P14, off := 0 }), .pointer (some { block := H15, off := 0 }), .pointer (some { block := L16, off := 0 }), Value.tuple #[Value.agg #[.pointer p, Value.bool tl, .int .i64 eo], .pointer (some { block := g, off := 0 }), Value.agg #[.slice zB zm zd, Value.bool zt, .int .i64 ze], Value.bool true], Value.string { data := s0.toArray }, .int .u64 m, Value.tuple #[Value.agg #[.pointer p, Value.bool tl, .int .i64 eo], .pointer (some { block := g, off := 0 }), Value.agg #[.slice zB zm zd, Value.bool zt, .int .i64 ze], Value.bool true], Value.agg #[.pointer p, Value.bool tl, .int .i64 eo], .pointer (some { block := g, off := 0 }), Value.agg #[.slice zB zm zd, Value.bool zt, .int .i64 ze], Value.bool true, Value.tuple #[Value.agg #[.int .i64 ↑top, .int .i64 ↑left, .int .i64 ↑hh, .int .i64 ↑wid], Value.agg #[.int .i64 ↑top, .int .i64 ↑left, .int .i64 ↑hh, .int .i64 ↑wid], Value.bool true], .pointer (some { block := X5, off := 0 }), Value.agg #[.int .i64 ↑top, .int .i64 ↑left, .int .i64 ↑hh, .int .i64 ↑wid], Value.tuple #[Value.agg #[.int .i64 ↑top, .int .i64 ↑left, .int .i64 ↑hh, .int .i64 ↑wid], Value.agg #[.int .i64 ↑top, .int .i64 ↑left, .int .i64 ↑hh, .int .i64 ↑wid], Value.bool true], Value.agg #[.int .i64 ↑top, .int .i64 ↑left, .int .i64 ↑hh, .int .i64 ↑wid], Value.agg #[.int .i64 ↑top, .int .i64 ↑left, .int .i64 ↑hh, .int .i64 ↑wid], Value.bool true, Value.bool true, Value.bool false, Value.bool false, Value.bool true, Value.bool false, Value.bool false, Value.bool false, .pointer (some { block := X5, off := 4 }), Value.agg #[.int .i64 pr, .int .i64 pc], Value.bool true, Value.bool false, Value.bool false, undef, undef, undef, undef, undef, .pointer (some { block := X5, off := 4 }), .pointer (some { block := X5, off := 4 }), .int .i64 pr, .pointer (some { block := X5, off := 4 }), .pointer (some { block := X5, off := 5 }), .int .i64 pc, Value.agg #[.int .i64 pr, .int .i64 pc], u_0, u_1, u_2, u_3, u_4, u_5, u_6, u_7, u_8, u_9, u_10, u_11, u 0, u 1, u 2, u 3, u 4, u 5, u 6, u 7, u 8, u 9, u 10, u 11, u 12, u 13, u 14, u 15, u 16, u 17, u 18, u 19, u 20, u 21, u 22, u 23, u 24, u 25, u 26, u 27, u 28, u 29, u 30, u 31, u 32, u 33, u 34, u 35, u 36, u 37, u 38, u 39, u 40, u 41, u 42, u 43, u 44, u 45, u 46, u 47, u 48, u 49], defers := [] } ∧ Hid (RInv F G W9 50 f u w')) (by kernel_rfl) ?_ ?_ ?_
          · exact ⟨fun j => cond (Nat.beq j 50) (.bool false) undef, rfl, RInv.start _⟩
          · simp only [EachOp]
            refine ⟨?_, ?_, ?_, ?_, ?_, ?_, ?_, ?_, ?_, ?_, ?_, ?_, ?_, ?_, ?_, ?_, ?_, ?_, ?_, ?_, ?_, ?_, ?_, ?_, ?_, ?_, ?_, ?_, ?_, ?_, ?_, ?_, ?_, ?_, ?_, ?_, ?_, ?_, ?_, ?_, ?_, ?_, ?_, ?_, ?_, ?_, ?_, ?_, ?_, ?_, ?_, trivial⟩
            all_goals rintro f a w' hfi hdep hcl ⟨u, rfl, HI⟩ K hK
            all_goals first
              | have hL : f 50 = false := hfi
              | have hL := hcl.no (L := 50) _ rfl hfi ⟨_, .phase⟩ (by simp) rfl rfl
            · obtain ⟨⟨d0, d1, d2⟩, ⟨g0, g1, g2⟩, ⟨v0, v1, v2, v3⟩, ⟨x0, x1, x2, x3⟩, ⟨y0, y1, y2⟩, ⟨h0, h1⟩, ⟨l0, l1⟩⟩ := HC9.out w' (HI.out.a hL).1
              go_simp
              exact hK _ _ ⟨updU u 0 (.agg #[.int .i64 (top : Nat), .int .i64 (left : Nat), .int .i64 (hh : Nat), .int .i64 (wid : Nat)]), rfl, HI.out.val hL (by decide) (by rw [HFG.out.1]; exact rfl)⟩
            · obtain ⟨⟨d0, d1, d2⟩, ⟨g0, g1, g2⟩, ⟨v0, v1, v2, v3⟩, ⟨x0, x1, x2, x3⟩, ⟨y0, y1, y2⟩, ⟨h0, h1⟩, ⟨l0, l1⟩⟩ := HC9.out w' (HI.out.a hL).1
              go_simp
              exact hK _ _ ⟨updU u 1 (.agg #[.pointer p, .bool tl, .int .i64 eo]), rfl, HI.out.val hL (by decide) (by rw [HFG.out.1]; exact rfl)⟩
            · have e0 : u 0 = .agg #[.int .i64 (top : Nat), .int .i64 (left : Nat), .int .i64 (hh : Nat), .int .i64 (wid : Nat)] := HI.out.get HFG.out.1 hL (i := 0) (hdep ⟨0, .data⟩ (by simp) rfl)
              have e1 : u 1 = .agg #[.pointer p, .bool tl, .int .i64 eo] := HI.out.get HFG.out.1 hL (i := 1) (hdep ⟨1, .data⟩ (by simp) rfl)
              refine step_call _ (by rfl) 18 #[.agg #[.int .i64 (top : Nat), .int .i64 (left : Nat), .int .i64 (hh : Nat), .int .i64 (wid : Nat)], .agg #[.pointer p, .bool tl, .int .i64 eo]] (by go_simp) _ ((HCR.out w' (HE9.out.1.trans (HI.out.a hL).1)).1) (by rintro e w' ⟨_, _, _, he, _⟩; exact ⟨_, he⟩) ?_
              rintro v4 w4 ⟨B, n, c, hv4, hn, hs, hf4⟩
              injection hv4 with hv4
              rw [← HNL.out] at hn
              subst hv4 hn
              try go_simp
              exact hK _ _ ⟨updU u 2 (.slice B n c), (by simp [updU, e0, e1] <;> (repeat' apply And.intro) <;> rfl), HI.out.call hL (by decide) (HM.out _ _ hf4) hf4 (by rw [HFG.out.1]; exact ⟨B, c, rfl, hs⟩)⟩
            · obtain ⟨⟨d0, d1, d2⟩, ⟨g0, g1, g2⟩, ⟨v0, v1, v2, v3⟩, ⟨x0, x1, x2, x3⟩, ⟨y0, y1, y2⟩, ⟨h0, h1⟩, ⟨l0, l1⟩⟩ := HC9.out w' (HI.out.a hL).1
              go_simp
              exact hK _ _ ⟨updU u 3 (.agg #[.int .i64 (top : Nat), .int .i64 (left : Nat), .int .i64 (hh : Nat), .int .i64 (wid : Nat)]), rfl, HI.out.val hL (by decide) (by rw [HFG.out.1]; exact rfl)⟩
            · obtain ⟨⟨d0, d1, d2⟩, ⟨g0, g1, g2⟩, ⟨v0, v1, v2, v3⟩, ⟨x0, x1, x2, x3⟩, ⟨y0, y1, y2⟩, ⟨h0, h1⟩, ⟨l0, l1⟩⟩ := HC9.out w' (HI.out.a hL).1
              go_simp
              exact hK _ _ ⟨updU u 4 (.agg #[.slice zB zm zd, .bool zt, .int .i64 ze]), rfl, HI.out.val hL (by decide) (by rw [HFG.out.1]; exact rfl)⟩
            · have e3 : u 3 = .agg #[.int .i64 (top : Nat), .int .i64 (left : Nat), .int .i64 (hh : Nat), .int .i64 (wid : Nat)] := HI.out.get HFG.out.1 hL (i := 3) (hdep ⟨3, .data⟩ (by simp) rfl)
              have e4 : u 4 = .agg #[.slice zB zm zd, .bool zt, .int .i64 ze] := HI.out.get HFG.out.1 hL (i := 4) (hdep ⟨4, .data⟩ (by simp) rfl)
              refine step_call _ (by rfl) 22 #[.agg #[.int .i64 (top : Nat), .int .i64 (left : Nat), .int .i64 (hh : Nat), .int .i64 (wid : Nat)], .agg #[.slice zB zm zd, .bool zt, .int .i64 ze]] (by go_simp) _ ((HCR.out w' (HE9.out.1.trans (HI.out.a hL).1)).2) (by rintro e w' ⟨_, _, _, he, _⟩; exact ⟨_, he⟩) ?_
              rintro v4 w4 ⟨B, n, c, hv4, hn, hs, hf4⟩
              injection hv4 with hv4
              rw [← HNL.out] at hn
              subst hv4 hn
              try go_simp
              exact hK _ _ ⟨updU u 5 (.slice B n c), (by simp [updU, e3, e4] <;> (repeat' apply And.intro) <;> rfl), HI.out.call hL (by decide) (HM.out _ _ hf4) hf4 (by rw [HFG.out.1]; exact ⟨B, c, rfl, hs⟩)⟩
            · have e2 := HI.out.get HFG.out.1 hL (i := 2) (hdep ⟨2, .data⟩ (by simp) rfl)
              have e5 := HI.out.get HFG.out.1 hL (i := 5) (hdep ⟨5, .data⟩ (by simp) rfl)
              obtain ⟨B, c, e2, hs2⟩ := e2
              obtain ⟨D, d, e5, hs5⟩ := e5
              refine step_call _ (by rfl) 21 #[.slice B nL c, .slice D nL d] (by go_simp) _ (sameI_yes w' B D nL c d L hs2 hs5 HNL.out (by have := HLL.out.1; have := HNL.out; omega)) (by rintro e w' ⟨he, _⟩; exact ⟨_, he⟩) ?_
              rintro v4 w4 ⟨hv4, hf4⟩
              injection hv4 with hv4
              subst hv4
              try go_simp
              exact hK _ _ ⟨updU u 6 (.bool true), (by simp [updU, e2, e5] <;> (repeat' apply And.intro) <;> rfl), HI.out.call hL (by decide) (HM.out _ _ hf4) hf4 (by rw [HFG.out.1]; exact rfl)⟩
            · have e6 : u 6 = .bool true := HI.out.get HFG.out.1 hL (i := 6) (hdep ⟨6, .data⟩ (by simp) rfl)
              go_simp
              exact hK _ _ ⟨updU u 7 (.bool true), (by simp [updU, e6] <;> (repeat' apply And.intro) <;> rfl), HI.out.val hL (by decide) (by rw [HFG.out.1]; exact rfl)⟩
            · have e7 : u 7 = .bool true := HI.out.get HFG.out.1 hL (i := 7) (hdep ⟨7, .guard⟩ (by simp) rfl)
              obtain ⟨⟨d0, d1, d2⟩, ⟨g0, g1, g2⟩, ⟨v0, v1, v2, v3⟩, ⟨x0, x1, x2, x3⟩, ⟨y0, y1, y2⟩, ⟨h0, h1⟩, ⟨l0, l1⟩⟩ := HC9.out w' (HI.out.a hL).1
              go_simp
              exact hK _ _ ⟨updU u 8 (.agg #[.int .i64 (top : Nat), .int .i64 (left : Nat), .int .i64 (hh : Nat), .int .i64 (wid : Nat)]), (by simp [updU, e7] <;> (repeat' apply And.intro) <;> rfl), HI.out.val hL (by decide) (by rw [HFG.out.1]; exact rfl)⟩
            · have e7 : u 7 = .bool true := HI.out.get HFG.out.1 hL (i := 7) (hdep ⟨7, .guard⟩ (by simp) rfl)
              obtain ⟨⟨d0, d1, d2⟩, ⟨g0, g1, g2⟩, ⟨v0, v1, v2, v3⟩, ⟨x0, x1, x2, x3⟩, ⟨y0, y1, y2⟩, ⟨h0, h1⟩, ⟨l0, l1⟩⟩ := HC9.out w' (HI.out.a hL).1
              go_simp
              exact hK _ _ ⟨updU u 9 (.agg #[.pointer p, .bool tl, .int .i64 eo]), (by simp [updU, e7] <;> (repeat' apply And.intro) <;> rfl), HI.out.val hL (by decide) (by rw [HFG.out.1]; exact rfl)⟩
            · have e7 : u 7 = .bool true := HI.out.get HFG.out.1 hL (i := 7) (hdep ⟨7, .guard⟩ (by simp) rfl)
              go_simp
              exact hK _ _ ⟨updU u 10 (.pointer (some ⟨g, 0, none⟩)), (by simp [updU, e7] <;> (repeat' apply And.intro) <;> rfl), HI.out.val hL (by decide) (by rw [HFG.out.1]; exact rfl)⟩
            · have e8 : u 8 = .agg #[.int .i64 (top : Nat), .int .i64 (left : Nat), .int .i64 (hh : Nat), .int .i64 (wid : Nat)] := HI.out.get HFG.out.1 hL (i := 8) (hdep ⟨8, .data⟩ (by simp) rfl)
              have e9 : u 9 = .agg #[.pointer p, .bool tl, .int .i64 eo] := HI.out.get HFG.out.1 hL (i := 9) (hdep ⟨9, .data⟩ (by simp) rfl)
              have e10 : u 10 = .pointer (some ⟨g, 0, none⟩) := HI.out.get HFG.out.1 hL (i := 10) (hdep ⟨10, .data⟩ (by simp) rfl)
              have e7 : u 7 = .bool true := HI.out.get HFG.out.1 hL (i := 7) (hdep ⟨7, .guard⟩ (by simp) rfl)
              refine step_callw _ (by go_simp) 24 #[.agg #[.int .i64 (top : Nat), .int .i64 (left : Nat), .int .i64 (hh : Nat), .int .i64 (wid : Nat)], .agg #[.pointer p, .bool tl, .int .i64 eo], .pointer (some ⟨g, 0, none⟩)] (by go_simp) _ ((HCT.out w' (HE9.out.1.trans (HI.out.a hL).1)).1) (by rintro e w' ⟨_, _, _, _, he, _⟩; exact ⟨_, he⟩) ?_
              rintro v4 w4 ⟨B, n, c, ps, hv4, hn0, hp, hq, hs, hb, hf4⟩
              injection hv4 with hv4
              have hn : n = nL := by
                have h1 := congrArg List.length hp
                rw [List.length_map, List.length_map] at h1
                rw [hn0, h1, HNL.out, HLL.out.2.1]
              clear hn0
              subst hv4 hn
              try go_simp
              exact hK _ _ ⟨updU u 11 (.slice B n c), (by simp [updU, e8, e9, e10, e7] <;> (repeat' apply And.intro) <;> rfl), HI.out.call hL (by decide) (HM.out _ _ hf4) hf4 (by rw [HFG.out.1]; exact ⟨B, c, ps, rfl, hs, hp, fun p hp => ⟨hq p hp, hb p hp⟩⟩)⟩
            · have e7 : u 7 = .bool true := HI.out.get HFG.out.1 hL (i := 7) (hdep ⟨7, .guard⟩ (by simp) rfl)
              obtain ⟨⟨d0, d1, d2⟩, ⟨g0, g1, g2⟩, ⟨v0, v1, v2, v3⟩, ⟨x0, x1, x2, x3⟩, ⟨y0, y1, y2⟩, ⟨h0, h1⟩, ⟨l0, l1⟩⟩ := HC9.out w' (HI.out.a hL).1
              go_simp
              exact hK _ _ ⟨updU u 12 (.agg #[.int .i64 (top : Nat), .int .i64 (left : Nat), .int .i64 (hh : Nat), .int .i64 (wid : Nat)]), (by simp [updU, e7] <;> (repeat' apply And.intro) <;> rfl), HI.out.val hL (by decide) (by rw [HFG.out.1]; exact rfl)⟩
            · have e7 : u 7 = .bool true := HI.out.get HFG.out.1 hL (i := 7) (hdep ⟨7, .guard⟩ (by simp) rfl)
              obtain ⟨⟨d0, d1, d2⟩, ⟨g0, g1, g2⟩, ⟨v0, v1, v2, v3⟩, ⟨x0, x1, x2, x3⟩, ⟨y0, y1, y2⟩, ⟨h0, h1⟩, ⟨l0, l1⟩⟩ := HC9.out w' (HI.out.a hL).1
              go_simp
              exact hK _ _ ⟨updU u 13 (.agg #[.slice zB zm zd, .bool zt, .int .i64 ze]), (by simp [updU, e7] <;> (repeat' apply And.intro) <;> rfl), HI.out.val hL (by decide) (by rw [HFG.out.1]; exact rfl)⟩
            · have e12 : u 12 = .agg #[.int .i64 (top : Nat), .int .i64 (left : Nat), .int .i64 (hh : Nat), .int .i64 (wid : Nat)] := HI.out.get HFG.out.1 hL (i := 12) (hdep ⟨12, .data⟩ (by simp) rfl)
              have e13 : u 13 = .agg #[.slice zB zm zd, .bool zt, .int .i64 ze] := HI.out.get HFG.out.1 hL (i := 13) (hdep ⟨13, .data⟩ (by simp) rfl)
              have e7 : u 7 = .bool true := HI.out.get HFG.out.1 hL (i := 7) (hdep ⟨7, .guard⟩ (by simp) rfl)
              refine step_callw _ (by go_simp) 25 #[.agg #[.int .i64 (top : Nat), .int .i64 (left : Nat), .int .i64 (hh : Nat), .int .i64 (wid : Nat)], .agg #[.slice zB zm zd, .bool zt, .int .i64 ze]] (by go_simp) _ ((HCT.out w' (HE9.out.1.trans (HI.out.a hL).1)).2) (by rintro e w' ⟨_, _, _, _, he, _⟩; exact ⟨_, he⟩) ?_
              rintro v4 w4 ⟨B, n, c, ps, hv4, hn0, hp, hq, hs, hb, hf4⟩
              injection hv4 with hv4
              have hn : n = nL := by
                have h1 := congrArg List.length hp
                rw [List.length_map, List.length_map] at h1
                rw [hn0, h1, HNL.out, HLL.out.2.1]
              clear hn0
              subst hv4 hn
              try go_simp
              exact hK _ _ ⟨updU u 14 (.slice B n c), (by simp [updU, e12, e13, e7] <;> (repeat' apply And.intro) <;> rfl), HI.out.call hL (by decide) (HM.out _ _ hf4) hf4 (by rw [HFG.out.1]; exact ⟨B, c, ps, rfl, hs, hp, fun p hp => ⟨hq p hp, hb p hp⟩⟩)⟩
            · have e11 := HI.out.get HFG.out.1 hL (i := 11) (hdep ⟨11, .data⟩ (by simp) rfl)
              have e14 := HI.out.get HFG.out.1 hL (i := 14) (hdep ⟨14, .data⟩ (by simp) rfl)
              have e7 : u 7 = .bool true := HI.out.get HFG.out.1 hL (i := 7) (hdep ⟨7, .guard⟩ (by simp) rfl)
              obtain ⟨B, c, ps, e11, hs2⟩ := e11
              obtain ⟨D, d, qs, e14, hs5⟩ := e14
              refine step_callw _ (by go_simp) 23 #[.slice B nL c, .slice D nL d] (by go_simp) _ (sameT_yes w' B D nL c d ps qs LT hs2 hs5 (by rw [HNL.out, HLL.out.2.1]) (by have := HLL.out.1; have := HNL.out; omega) HLL.out.2.2) (by rintro e w' ⟨he, _⟩; exact ⟨_, he⟩) ?_
              rintro v4 w4 ⟨hv4, hf4⟩
              injection hv4 with hv4
              subst hv4
              try go_simp
              exact hK _ _ ⟨updU u 15 (.bool true), (by simp [updU, e11, e14, e7] <;> (repeat' apply And.intro) <;> rfl), HI.out.call hL (by decide) (HM.out _ _ hf4) hf4 (by rw [HFG.out.1]; exact rfl)⟩
            · have e7 : u 7 = .bool true := HI.out.get HFG.out.1 hL (i := 7) (hdep ⟨7, .data⟩ (by simp) rfl)
              have e15 : u 15 = .bool true := HI.out.get HFG.out.1 hL (i := 15) (hdep ⟨15, .data⟩ (by simp) rfl)
              go_simp
              exact hK _ _ ⟨updU u 16 (.bool true), (by simp [updU, e7, e15] <;> (repeat' apply And.intro) <;> rfl), HI.out.val hL (by decide) (by rw [HFG.out.1]; exact rfl)⟩
            · have e16 : u 16 = .bool true := HI.out.get HFG.out.1 hL (i := 16) (hdep ⟨16, .data⟩ (by simp) rfl)
              go_simp
              exact hK _ _ ⟨updU u 17 (.bool true), (by simp [updU, e16] <;> (repeat' apply And.intro) <;> rfl), HI.out.val hL (by decide) (by rw [HFG.out.1]; exact rfl)⟩
            · have e17 : u 17 = .bool true := HI.out.get HFG.out.1 hL (i := 17) (hdep ⟨17, .guard⟩ (by simp) rfl)
              go_simp
              exact hK _ _ ⟨updU u 18 (.pointer (some ⟨H15, 0, none⟩)), (by simp [updU, e17] <;> (repeat' apply And.intro) <;> rfl), HI.out.val hL (by decide) (by rw [HFG.out.1]; exact rfl)⟩
            · have e18 : u 18 = .pointer (some ⟨H15, 0, none⟩) := HI.out.get HFG.out.1 hL (i := 18) (hdep ⟨18, .data⟩ (by simp) rfl)
              have e17 : u 17 = .bool true := HI.out.get HFG.out.1 hL (i := 17) (hdep ⟨17, .guard⟩ (by simp) rfl)
              obtain ⟨⟨d0, d1, d2⟩, ⟨g0, g1, g2⟩, ⟨v0, v1, v2, v3⟩, ⟨x0, x1, x2, x3⟩, ⟨y0, y1, y2⟩, ⟨h0, h1⟩, ⟨l0, l1⟩⟩ := HC9.out w' (HI.out.a hL).1
              go_simp
              exact hK _ _ ⟨updU u 19 (.int .i64 hr_), (by simp [updU, e18, e17] <;> (repeat' apply And.intro) <;> rfl), HI.out.val hL (by decide) (by rw [HFG.out.1]; exact rfl)⟩
            · have e17 : u 17 = .bool true := HI.out.get HFG.out.1 hL (i := 17) (hdep ⟨17, .guard⟩ (by simp) rfl)
              go_simp
              exact hK _ _ ⟨updU u 20 (.pointer (some ⟨H15, 1, none⟩)), (by simp [updU, e17] <;> (repeat' apply And.intro) <;> rfl), HI.out.val hL (by decide) (by rw [HFG.out.1]; exact rfl)⟩
            · have e20 : u 20 = .pointer (some ⟨H15, 1, none⟩) := HI.out.get HFG.out.1 hL (i := 20) (hdep ⟨20, .data⟩ (by simp) rfl)
              have e17 : u 17 = .bool true := HI.out.get HFG.out.1 hL (i := 17) (hdep ⟨17, .guard⟩ (by simp) rfl)
              obtain ⟨⟨d0, d1, d2⟩, ⟨g0, g1, g2⟩, ⟨v0, v1, v2, v3⟩, ⟨x0, x1, x2, x3⟩, ⟨y0, y1, y2⟩, ⟨h0, h1⟩, ⟨l0, l1⟩⟩ := HC9.out w' (HI.out.a hL).1
              go_simp
              exact hK _ _ ⟨updU u 21 (.int .i64 (C : Nat)), (by simp [updU, e20, e17] <;> (repeat' apply And.intro) <;> rfl), HI.out.val hL (by decide) (by rw [HFG.out.1]; exact rfl)⟩
            · have e19 : u 19 = .int .i64 hr_ := HI.out.get HFG.out.1 hL (i := 19) (hdep ⟨19, .data⟩ (by simp) rfl)
              have e21 : u 21 = .int .i64 (C : Nat) := HI.out.get HFG.out.1 hL (i := 21) (hdep ⟨21, .data⟩ (by simp) rfl)
              have e17 : u 17 = .bool true := HI.out.get HFG.out.1 hL (i := 17) (hdep ⟨17, .guard⟩ (by simp) rfl)
              go_simp
              exact hK _ _ ⟨updU u 22 (.agg #[.int .i64 hr_, .int .i64 (C : Nat)]), (by simp [updU, e19, e21, e17] <;> (repeat' apply And.intro) <;> rfl), HI.out.val hL (by decide) (by rw [HFG.out.1]; exact rfl)⟩
            · have e17 : u 17 = .bool true := HI.out.get HFG.out.1 hL (i := 17) (hdep ⟨17, .guard⟩ (by simp) rfl)
              obtain ⟨⟨d0, d1, d2⟩, ⟨g0, g1, g2⟩, ⟨v0, v1, v2, v3⟩, ⟨x0, x1, x2, x3⟩, ⟨y0, y1, y2⟩, ⟨h0, h1⟩, ⟨l0, l1⟩⟩ := HC9.out w' (HI.out.a hL).1
              go_simp
              exact hK _ _ ⟨updU u 23 (.agg #[.int .i64 (top : Nat), .int .i64 (left : Nat), .int .i64 (hh : Nat), .int .i64 (wid : Nat)]), (by simp [updU, e17] <;> (repeat' apply And.intro) <;> rfl), HI.out.val hL (by decide) (by rw [HFG.out.1]; exact rfl)⟩
            · have e17 : u 17 = .bool true := HI.out.get HFG.out.1 hL (i := 17) (hdep ⟨17, .guard⟩ (by simp) rfl)
              obtain ⟨⟨d0, d1, d2⟩, ⟨g0, g1, g2⟩, ⟨v0, v1, v2, v3⟩, ⟨x0, x1, x2, x3⟩, ⟨y0, y1, y2⟩, ⟨h0, h1⟩, ⟨l0, l1⟩⟩ := HC9.out w' (HI.out.a hL).1
              go_simp
              exact hK _ _ ⟨updU u 24 (.agg #[.slice zB zm zd, .bool zt, .int .i64 ze]), (by simp [updU, e17] <;> (repeat' apply And.intro) <;> rfl), HI.out.val hL (by decide) (by rw [HFG.out.1]; exact rfl)⟩
            · have e17 : u 17 = .bool true := HI.out.get HFG.out.1 hL (i := 17) (hdep ⟨17, .guard⟩ (by simp) rfl)
              go_simp
              exact hK _ _ ⟨updU u 25 (.pointer (some ⟨X5, 4, none⟩)), (by simp [updU, e17] <;> (repeat' apply And.intro) <;> rfl), HI.out.val hL (by decide) (by rw [HFG.out.1]; exact rfl)⟩
            · have e25 : u 25 = .pointer (some ⟨X5, 4, none⟩) := HI.out.get HFG.out.1 hL (i := 25) (hdep ⟨25, .data⟩ (by simp) rfl)
              have e17 : u 17 = .bool true := HI.out.get HFG.out.1 hL (i := 17) (hdep ⟨17, .guard⟩ (by simp) rfl)
              obtain ⟨⟨d0, d1, d2⟩, ⟨g0, g1, g2⟩, ⟨v0, v1, v2, v3⟩, ⟨x0, x1, x2, x3⟩, ⟨y0, y1, y2⟩, ⟨h0, h1⟩, ⟨l0, l1⟩⟩ := HC9.out w' (HI.out.a hL).1
              go_simp
              exact hK _ _ ⟨updU u 26 (.agg #[.int .i64 pr, .int .i64 pc]), (by simp [updU, e25, e17] <;> (repeat' apply And.intro) <;> rfl), HI.out.val hL (by decide) (by rw [HFG.out.1]; exact rfl)⟩
            · have e17 : u 17 = .bool true := HI.out.get HFG.out.1 hL (i := 17) (hdep ⟨17, .guard⟩ (by simp) rfl)
              go_simp
              exact hK _ _ ⟨updU u 27 (.pointer (some ⟨X5, 6, none⟩)), (by simp [updU, e17] <;> (repeat' apply And.intro) <;> rfl), HI.out.val hL (by decide) (by rw [HFG.out.1]; exact rfl)⟩
            · have e27 : u 27 = .pointer (some ⟨X5, 6, none⟩) := HI.out.get HFG.out.1 hL (i := 27) (hdep ⟨27, .data⟩ (by simp) rfl)
              have e17 : u 17 = .bool true := HI.out.get HFG.out.1 hL (i := 17) (hdep ⟨17, .guard⟩ (by simp) rfl)
              obtain ⟨⟨d0, d1, d2⟩, ⟨g0, g1, g2⟩, ⟨v0, v1, v2, v3⟩, ⟨x0, x1, x2, x3⟩, ⟨y0, y1, y2⟩, ⟨h0, h1⟩, ⟨l0, l1⟩⟩ := HC9.out w' (HI.out.a hL).1
              go_simp
              exact hK _ _ ⟨updU u 28 (.int .i64 nn), (by simp [updU, e27, e17] <;> (repeat' apply And.intro) <;> rfl), HI.out.val hL (by decide) (by rw [HFG.out.1]; exact rfl)⟩
            · have e23 : u 23 = .agg #[.int .i64 (top : Nat), .int .i64 (left : Nat), .int .i64 (hh : Nat), .int .i64 (wid : Nat)] := HI.out.get HFG.out.1 hL (i := 23) (hdep ⟨23, .data⟩ (by simp) rfl)
              have e24 : u 24 = .agg #[.slice zB zm zd, .bool zt, .int .i64 ze] := HI.out.get HFG.out.1 hL (i := 24) (hdep ⟨24, .data⟩ (by simp) rfl)
              have e26 : u 26 = .agg #[.int .i64 pr, .int .i64 pc] := HI.out.get HFG.out.1 hL (i := 26) (hdep ⟨26, .data⟩ (by simp) rfl)
              have e28 : u 28 = .int .i64 nn := HI.out.get HFG.out.1 hL (i := 28) (hdep ⟨28, .data⟩ (by simp) rfl)
              have e17 : u 17 = .bool true := HI.out.get HFG.out.1 hL (i := 17) (hdep ⟨17, .guard⟩ (by simp) rfl)
              refine step_callw _ (by go_simp) 26 #[.agg #[.int .i64 (top : Nat), .int .i64 (left : Nat), .int .i64 (hh : Nat), .int .i64 (wid : Nat)], .agg #[.slice zB zm zd, .bool zt, .int .i64 ze], .agg #[.int .i64 pr, .int .i64 pc], .int .i64 nn] (by go_simp) _ ((HDH.out w' (HE9.out.1.trans (HI.out.a hL).1)).1) (by rintro e w' ⟨he, _⟩; exact ⟨_, he⟩) ?_
              rintro v4 w4 ⟨hv4, hf4⟩
              injection hv4 with hv4
              subst hv4
              try go_simp
              exact hK _ _ ⟨updU u 29 (.agg #[.int .i64 hr_, .int .i64 (C : Nat)]), (by simp [updU, e23, e24, e26, e28, e17] <;> (repeat' apply And.intro) <;> rfl), HI.out.call hL (by decide) (HM.out _ _ hf4) hf4 (by rw [HFG.out.1]; exact rfl)⟩
            · have e22 : u 22 = .agg #[.int .i64 hr_, .int .i64 (C : Nat)] := HI.out.get HFG.out.1 hL (i := 22) (hdep ⟨22, .data⟩ (by simp) rfl)
              have e29 : u 29 = .agg #[.int .i64 hr_, .int .i64 (C : Nat)] := HI.out.get HFG.out.1 hL (i := 29) (hdep ⟨29, .data⟩ (by simp) rfl)
              have e17 : u 17 = .bool true := HI.out.get HFG.out.1 hL (i := 17) (hdep ⟨17, .guard⟩ (by simp) rfl)
              go_simp
              exact hK _ _ ⟨updU u 30 (.bool true), (by simp [updU, e22, e29, e17] <;> (repeat' apply And.intro) <;> rfl), HI.out.val hL (by decide) (by rw [HFG.out.1]; exact rfl)⟩
            · have e17 : u 17 = .bool true := HI.out.get HFG.out.1 hL (i := 17) (hdep ⟨17, .data⟩ (by simp) rfl)
              have e30 : u 30 = .bool true := HI.out.get HFG.out.1 hL (i := 30) (hdep ⟨30, .data⟩ (by simp) rfl)
              go_simp
              exact hK _ _ ⟨updU u 31 (.bool true), (by simp [updU, e17, e30] <;> (repeat' apply And.intro) <;> rfl), HI.out.val hL (by decide) (by rw [HFG.out.1]; exact rfl)⟩
            · have e31 : u 31 = .bool true := HI.out.get HFG.out.1 hL (i := 31) (hdep ⟨31, .data⟩ (by simp) rfl)
              go_simp
              exact hK _ _ ⟨updU u 32 (.bool true), (by simp [updU, e31] <;> (repeat' apply And.intro) <;> rfl), HI.out.val hL (by decide) (by rw [HFG.out.1]; exact rfl)⟩
            · have e32 : u 32 = .bool true := HI.out.get HFG.out.1 hL (i := 32) (hdep ⟨32, .guard⟩ (by simp) rfl)
              go_simp
              exact hK _ _ ⟨updU u 33 (.pointer (some ⟨L16, 0, none⟩)), (by simp [updU, e32] <;> (repeat' apply And.intro) <;> rfl), HI.out.val hL (by decide) (by rw [HFG.out.1]; exact rfl)⟩
            · have e33 : u 33 = .pointer (some ⟨L16, 0, none⟩) := HI.out.get HFG.out.1 hL (i := 33) (hdep ⟨33, .data⟩ (by simp) rfl)
              have e32 : u 32 = .bool true := HI.out.get HFG.out.1 hL (i := 32) (hdep ⟨32, .guard⟩ (by simp) rfl)
              obtain ⟨⟨d0, d1, d2⟩, ⟨g0, g1, g2⟩, ⟨v0, v1, v2, v3⟩, ⟨x0, x1, x2, x3⟩, ⟨y0, y1, y2⟩, ⟨h0, h1⟩, ⟨l0, l1⟩⟩ := HC9.out w' (HI.out.a hL).1
              go_simp
              exact hK _ _ ⟨updU u 34 (.int .i64 lr_), (by simp [updU, e33, e32] <;> (repeat' apply And.intro) <;> rfl), HI.out.val hL (by decide) (by rw [HFG.out.1]; exact rfl)⟩
            · have e32 : u 32 = .bool true := HI.out.get HFG.out.1 hL (i := 32) (hdep ⟨32, .guard⟩ (by simp) rfl)
              go_simp
              exact hK _ _ ⟨updU u 35 (.pointer (some ⟨L16, 1, none⟩)), (by simp [updU, e32] <;> (repeat' apply And.intro) <;> rfl), HI.out.val hL (by decide) (by rw [HFG.out.1]; exact rfl)⟩
            · have e35 : u 35 = .pointer (some ⟨L16, 1, none⟩) := HI.out.get HFG.out.1 hL (i := 35) (hdep ⟨35, .data⟩ (by simp) rfl)
              have e32 : u 32 = .bool true := HI.out.get HFG.out.1 hL (i := 32) (hdep ⟨32, .guard⟩ (by simp) rfl)
              obtain ⟨⟨d0, d1, d2⟩, ⟨g0, g1, g2⟩, ⟨v0, v1, v2, v3⟩, ⟨x0, x1, x2, x3⟩, ⟨y0, y1, y2⟩, ⟨h0, h1⟩, ⟨l0, l1⟩⟩ := HC9.out w' (HI.out.a hL).1
              go_simp
              exact hK _ _ ⟨updU u 36 (.int .i64 (C : Nat)), (by simp [updU, e35, e32] <;> (repeat' apply And.intro) <;> rfl), HI.out.val hL (by decide) (by rw [HFG.out.1]; exact rfl)⟩
            · have e34 : u 34 = .int .i64 lr_ := HI.out.get HFG.out.1 hL (i := 34) (hdep ⟨34, .data⟩ (by simp) rfl)
              have e36 : u 36 = .int .i64 (C : Nat) := HI.out.get HFG.out.1 hL (i := 36) (hdep ⟨36, .data⟩ (by simp) rfl)
              have e32 : u 32 = .bool true := HI.out.get HFG.out.1 hL (i := 32) (hdep ⟨32, .guard⟩ (by simp) rfl)
              go_simp
              exact hK _ _ ⟨updU u 37 (.agg #[.int .i64 lr_, .int .i64 (C : Nat)]), (by simp [updU, e34, e36, e32] <;> (repeat' apply And.intro) <;> rfl), HI.out.val hL (by decide) (by rw [HFG.out.1]; exact rfl)⟩
            · have e32 : u 32 = .bool true := HI.out.get HFG.out.1 hL (i := 32) (hdep ⟨32, .guard⟩ (by simp) rfl)
              obtain ⟨⟨d0, d1, d2⟩, ⟨g0, g1, g2⟩, ⟨v0, v1, v2, v3⟩, ⟨x0, x1, x2, x3⟩, ⟨y0, y1, y2⟩, ⟨h0, h1⟩, ⟨l0, l1⟩⟩ := HC9.out w' (HI.out.a hL).1
              go_simp
              exact hK _ _ ⟨updU u 38 (.agg #[.int .i64 (top : Nat), .int .i64 (left : Nat), .int .i64 (hh : Nat), .int .i64 (wid : Nat)]), (by simp [updU, e32] <;> (repeat' apply And.intro) <;> rfl), HI.out.val hL (by decide) (by rw [HFG.out.1]; exact rfl)⟩
            · have e32 : u 32 = .bool true := HI.out.get HFG.out.1 hL (i := 32) (hdep ⟨32, .guard⟩ (by simp) rfl)
              obtain ⟨⟨d0, d1, d2⟩, ⟨g0, g1, g2⟩, ⟨v0, v1, v2, v3⟩, ⟨x0, x1, x2, x3⟩, ⟨y0, y1, y2⟩, ⟨h0, h1⟩, ⟨l0, l1⟩⟩ := HC9.out w' (HI.out.a hL).1
              go_simp
              exact hK _ _ ⟨updU u 39 (.agg #[.slice zB zm zd, .bool zt, .int .i64 ze]), (by simp [updU, e32] <;> (repeat' apply And.intro) <;> rfl), HI.out.val hL (by decide) (by rw [HFG.out.1]; exact rfl)⟩
            · have e32 : u 32 = .bool true := HI.out.get HFG.out.1 hL (i := 32) (hdep ⟨32, .guard⟩ (by simp) rfl)
              go_simp
              exact hK _ _ ⟨updU u 40 (.pointer (some ⟨X5, 4, none⟩)), (by simp [updU, e32] <;> (repeat' apply And.intro) <;> rfl), HI.out.val hL (by decide) (by rw [HFG.out.1]; exact rfl)⟩
            · have e40 : u 40 = .pointer (some ⟨X5, 4, none⟩) := HI.out.get HFG.out.1 hL (i := 40) (hdep ⟨40, .data⟩ (by simp) rfl)
              have e32 : u 32 = .bool true := HI.out.get HFG.out.1 hL (i := 32) (hdep ⟨32, .guard⟩ (by simp) rfl)
              obtain ⟨⟨d0, d1, d2⟩, ⟨g0, g1, g2⟩, ⟨v0, v1, v2, v3⟩, ⟨x0, x1, x2, x3⟩, ⟨y0, y1, y2⟩, ⟨h0, h1⟩, ⟨l0, l1⟩⟩ := HC9.out w' (HI.out.a hL).1
              go_simp
              exact hK _ _ ⟨updU u 41 (.agg #[.int .i64 pr, .int .i64 pc]), (by simp [updU, e40, e32] <;> (repeat' apply And.intro) <;> rfl), HI.out.val hL (by decide) (by rw [HFG.out.1]; exact rfl)⟩
            · have e32 : u 32 = .bool true := HI.out.get HFG.out.1 hL (i := 32) (hdep ⟨32, .guard⟩ (by simp) rfl)
              go_simp
              exact hK _ _ ⟨updU u 42 (.pointer (some ⟨X5, 6, none⟩)), (by simp [updU, e32] <;> (repeat' apply And.intro) <;> rfl), HI.out.val hL (by decide) (by rw [HFG.out.1]; exact rfl)⟩
            · have e42 : u 42 = .pointer (some ⟨X5, 6, none⟩) := HI.out.get HFG.out.1 hL (i := 42) (hdep ⟨42, .data⟩ (by simp) rfl)
              have e32 : u 32 = .bool true := HI.out.get HFG.out.1 hL (i := 32) (hdep ⟨32, .guard⟩ (by simp) rfl)
              obtain ⟨⟨d0, d1, d2⟩, ⟨g0, g1, g2⟩, ⟨v0, v1, v2, v3⟩, ⟨x0, x1, x2, x3⟩, ⟨y0, y1, y2⟩, ⟨h0, h1⟩, ⟨l0, l1⟩⟩ := HC9.out w' (HI.out.a hL).1
              go_simp
              exact hK _ _ ⟨updU u 43 (.int .i64 nn), (by simp [updU, e42, e32] <;> (repeat' apply And.intro) <;> rfl), HI.out.val hL (by decide) (by rw [HFG.out.1]; exact rfl)⟩
            · have e38 : u 38 = .agg #[.int .i64 (top : Nat), .int .i64 (left : Nat), .int .i64 (hh : Nat), .int .i64 (wid : Nat)] := HI.out.get HFG.out.1 hL (i := 38) (hdep ⟨38, .data⟩ (by simp) rfl)
              have e39 : u 39 = .agg #[.slice zB zm zd, .bool zt, .int .i64 ze] := HI.out.get HFG.out.1 hL (i := 39) (hdep ⟨39, .data⟩ (by simp) rfl)
              have e41 : u 41 = .agg #[.int .i64 pr, .int .i64 pc] := HI.out.get HFG.out.1 hL (i := 41) (hdep ⟨41, .data⟩ (by simp) rfl)
              have e43 : u 43 = .int .i64 nn := HI.out.get HFG.out.1 hL (i := 43) (hdep ⟨43, .data⟩ (by simp) rfl)
              have e32 : u 32 = .bool true := HI.out.get HFG.out.1 hL (i := 32) (hdep ⟨32, .guard⟩ (by simp) rfl)
              refine step_callw _ (by go_simp) 27 #[.agg #[.int .i64 (top : Nat), .int .i64 (left : Nat), .int .i64 (hh : Nat), .int .i64 (wid : Nat)], .agg #[.slice zB zm zd, .bool zt, .int .i64 ze], .agg #[.int .i64 pr, .int .i64 pc], .int .i64 nn] (by go_simp) _ ((HDH.out w' (HE9.out.1.trans (HI.out.a hL).1)).2) (by rintro e w' ⟨he, _⟩; exact ⟨_, he⟩) ?_
              rintro v4 w4 ⟨hv4, hf4⟩
              injection hv4 with hv4
              subst hv4
              try go_simp
              exact hK _ _ ⟨updU u 44 (.agg #[.int .i64 lr_, .int .i64 (C : Nat)]), (by simp [updU, e38, e39, e41, e43, e32] <;> (repeat' apply And.intro) <;> rfl), HI.out.call hL (by decide) (HM.out _ _ hf4) hf4 (by rw [HFG.out.1]; exact rfl)⟩
            · have e37 : u 37 = .agg #[.int .i64 lr_, .int .i64 (C : Nat)] := HI.out.get HFG.out.1 hL (i := 37) (hdep ⟨37, .data⟩ (by simp) rfl)
              have e44 : u 44 = .agg #[.int .i64 lr_, .int .i64 (C : Nat)] := HI.out.get HFG.out.1 hL (i := 44) (hdep ⟨44, .data⟩ (by simp) rfl)
              have e32 : u 32 = .bool true := HI.out.get HFG.out.1 hL (i := 32) (hdep ⟨32, .guard⟩ (by simp) rfl)
              go_simp
              exact hK _ _ ⟨updU u 45 (.bool true), (by simp [updU, e37, e44, e32] <;> (repeat' apply And.intro) <;> rfl), HI.out.val hL (by decide) (by rw [HFG.out.1]; exact rfl)⟩
            · have e32 : u 32 = .bool true := HI.out.get HFG.out.1 hL (i := 32) (hdep ⟨32, .data⟩ (by simp) rfl)
              have e45 : u 45 = .bool true := HI.out.get HFG.out.1 hL (i := 45) (hdep ⟨45, .data⟩ (by simp) rfl)
              go_simp
              exact hK _ _ ⟨updU u 46 (.bool true), (by simp [updU, e32, e45] <;> (repeat' apply And.intro) <;> rfl), HI.out.val hL (by decide) (by rw [HFG.out.1]; exact rfl)⟩
            · have e46 : u 46 = .bool true := HI.out.get HFG.out.1 hL (i := 46) (hdep ⟨46, .data⟩ (by simp) rfl)
              go_simp
              exact hK _ _ ⟨updU u 47 (.bool true), (by simp [updU, e46] <;> (repeat' apply And.intro) <;> rfl), HI.out.val hL (by decide) (by rw [HFG.out.1]; exact rfl)⟩
            · have e47 : u 47 = .bool true := HI.out.get HFG.out.1 hL (i := 47) (hdep ⟨47, .guard⟩ (by simp) rfl)
              refine step_callw _ (by go_simp) 14 #[] (by go_simp) _ (awake29_yes w') (by rintro e w' ⟨he, _⟩; exact ⟨_, he⟩) ?_
              rintro v4 w4 ⟨hv4, hf4⟩
              injection hv4 with hv4
              subst hv4
              try go_simp
              exact hK _ _ ⟨updU u 48 (.bool true), (by simp [updU, e47] <;> (repeat' apply And.intro) <;> rfl), HI.out.call hL (by decide) (HM.out _ _ hf4) hf4 (by rw [HFG.out.1]; exact rfl)⟩
            · have e47 : u 47 = .bool true := HI.out.get HFG.out.1 hL (i := 47) (hdep ⟨47, .data⟩ (by simp) rfl)
              have e48 : u 48 = .bool true := HI.out.get HFG.out.1 hL (i := 48) (hdep ⟨48, .data⟩ (by simp) rfl)
              go_simp
              exact hK _ _ ⟨updU u 49 (.bool true), (by simp [updU, e47, e48] <;> (repeat' apply And.intro) <;> rfl), HI.out.val hL (by decide) (by rw [HFG.out.1]; exact rfl)⟩
            · have e49 : u 49 = .bool true := HI.out.get HFG.out.1 hL (i := 49) (hdep ⟨49, .data⟩ (by simp) rfl)
              go_simp
              refine hK _ _ ⟨updU u 50 (.bool true), (by simp [updU, e49] <;> (repeat' apply And.intro) <;> rfl), RInv.last ?_⟩
              rw [HFG.out.2]
              exact ⟨rfl, (HI.out.a hL).1⟩
          · rintro f a w' hall ⟨u, rfl, HI⟩
            have hG := HI.out.b (hall 50 (by decide))
            rw [HFG.out.2] at hG
            obtain ⟨e50, hf16⟩ := hG
            dsimp only
            simp only [e50]
            go_wp2_with fail
            go_ret
            exact ⟨rfl, (HE5.out.1.trans HE9.out.1).trans hf16⟩
end Go.Proofs.YtblafakafgediaaGreat
