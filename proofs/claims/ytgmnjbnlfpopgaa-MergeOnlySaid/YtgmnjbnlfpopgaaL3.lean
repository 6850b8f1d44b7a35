import Derived.Test.YtgmnjbnlfpopgaaK11
import Derived.IntWalk
namespace Go.Proofs.Ytgmnjbnlfpopgaa.Only
open Go.RowKit Go.Proofs.Dm Go.Proofs.Ytgmnjbnlfpopgaa

/-- Which one stands where. -/
def permP (L : List Int) : List Int := srt (fun i => tens (L.getD i.toNat 0)) (idx L.length)
theorem permP_len (L : List Int) : (permP L).length = L.length := by unfold permP; rw [srt_len, idx_len]
theorem idx_map (L : List Int) : (idx L.length).map (fun i => L.getD i.toNat 0) = L := by
  apply List.ext_getElem
  · simp [idx]
  · intro i h1 h2
    simp [idx, List.getD_eq_getElem?_getD, h2]
theorem permP_map (L : List Int) : (permP L).map (fun i => L.getD i.toNat 0) = srt tens L := by
  unfold permP
  rw [srt_map tens (fun i => L.getD i.toNat 0), idx_map]
theorem permP_range (L : List Int) (x : Int) (h : x ∈ permP L) : 0 ≤ x ∧ x < L.length := by
  have := srt_mem.1 h
  obtain ⟨i, hi, rfl⟩ := List.mem_map.1 this
  have := List.mem_range.1 hi
  omega
theorem permP_up (L : List Int) : Up (fun i => tens (L.getD i.toNat 0)) (permP L) := srt_up (idx_up _)
theorem permP_get (L : List Int) (q : Nat) (h : q < L.length) : ∃ k : Nat, (permP L).getD q 0 = (k : Int) ∧ k < L.length ∧ L.getD k 0 = (srt tens L).getD q 0 := by
  have hq : q < (permP L).length := by rw [permP_len]; exact h
  have hm : (permP L).getD q 0 ∈ permP L := by rw [List.getD_eq_getElem?_getD, List.getElem?_eq_getElem hq]; exact List.getElem_mem hq
  have hr := permP_range L _ hm
  refine ⟨((permP L).getD q 0).toNat, by omega, by omega, ?_⟩
  rw [← permP_map]
  simp [List.getD_eq_getElem?_getD, hq]
/-- Two that stand beside each other: in order; alike ones as they came. -/
theorem permP_two (L : List Int) (j : Nat) (h : j + 1 < L.length) : tens ((srt tens L).getD j 0) < tens ((srt tens L).getD (j + 1) 0) ∨ (tens ((srt tens L).getD j 0) = tens ((srt tens L).getD (j + 1) 0) ∧ (permP L).getD j 0 < (permP L).getD (j + 1) 0) := by
  have hp := List.pairwise_iff_getElem.1 (permP_up L) j (j + 1) (by rw [permP_len]; omega) (by rw [permP_len]; exact h) (by omega)
  have e : ∀ q, (hq : q < L.length) → (srt tens L).getD q 0 = L.getD ((permP L)[q]'(by rw [permP_len]; exact hq)).toNat 0 := fun q hq => by
    rw [← permP_map]
    simp [List.getD_eq_getElem?_getD, show q < (permP L).length by rw [permP_len]; exact hq]
  have g : ∀ q, (hq : q < L.length) → (permP L).getD q 0 = (permP L)[q]'(by rw [permP_len]; exact hq) := fun q hq => by
    simp [List.getD_eq_getElem?_getD, show q < (permP L).length by rw [permP_len]; exact hq]
  rw [e j (by omega), e (j + 1) h, g j (by omega), g (j + 1) h]
  exact hp
theorem cmp12 (w : World) : CmpOK (.func (.func 12) #[] #[]) (· < w.heap.size) w ten tens := cmp_tens _ _
theorem srt_ten {L : List Int} (h : ∀ y ∈ L, ten y) : ∀ y ∈ srt tens L, ten y := fun y hy => h y (srt_mem.1 hy)
theorem getD_mem {L : List Int} {q : Nat} (h : q < L.length) : L.getD q 0 ∈ L := by rw [List.getD_eq_getElem?_getD, List.getElem?_eq_getElem h]; exact List.getElem_mem h

set_option maxRecDepth 100000 in
set_option maxHeartbeats 6400000 in
theorem only_walk (A : Option Addr) (c : Nat) (xs : List Int) (w : World) (hs : Sl w A (ints xs)) (hc : xs.length ≤ c) (hm : c ≤ maxLen) :
    Calls Try.prog 5 #[.slice A xs.length c] w fun e w' => e = .returned (.bool true) ∧ Fr [] w w' := by
  have hfew := few_any A c xs w hs hc hm
  have htn := fewL_ten xs
  have hln := fewL_len xs
  obtain ⟨L, hL⟩ : ∃ L, L = fewL xs := ⟨_, rfl⟩
  rw [← hL] at hfew htn hln
  have H0 := Lib.hid hfew
  have HT := Lib.hid htn
  clear hfew htn hL hs hc hm
  go_enter Try.func5, Try.ntmps5
  go_wp2_with fail
  refine H0.out.mono ?_
  rintro e w1 ⟨A1, c1, rfl, hr1, hf1, hA1⟩
  have hcap1 : L.length ≤ c1 := ORow.cap hr1
  clear H0 hA1
  go_wp2_with fail
  go_loopw [13, 3] (fun iv ov wr => ∃ (q : Nat) (Ao : Option Addr) (co : Nat), iv = .int .i64 q ∧ ov = .slice Ao q co ∧ q ≤ L.length ∧ IRow wr 3 Ao co (L.take q) ∧ Fr [] w1 wr ∧ Hid (∀ j, bk Ao = some j → w1.heap.size ≤ j)) (fun iv _ _ => L.length - (intOf iv).toNat)
  case atStart => exact ⟨0, none, 0, rfl, rfl, Nat.zero_le _, IRow.nil_ _ _, Fr.refl _ _, fun j hj => by cases hj⟩
  case round =>
    obtain ⟨q, Ao, co, rfl, rfl, hq, hrow, hF, HA⟩ := hrel
    by_cases hlt : q < L.length
    · obtain ⟨ad, rfl, hcell⟩ := sl_ints (hr1.fr hF (.inr List.not_mem_nil)).sl hlt
      have hnx := take_snoc L q hlt
      have hlq : (L.take q).length = q := by rw [List.length_take]; omega
      obtain ⟨x, hx⟩ : ∃ x, x = L.getD q 0 := ⟨_, rfl⟩
      rw [← hx] at hcell hnx
      have HN := Lib.hid hnx
      have HLQ := Lib.hid hlq
      have hrow2 : ORow wr 3 1 Ao co q (ints (L.take q)) := irow_len hrow hlq
      clear hx hnx hlq hrow
      go_wp2_with (first | (at_builtin; go_must (
        refine wpList_app _ rfl _ _ 22 3 rfl (.int .i64 0) 1 8 Try.underlying22 info3 rfl (by decide) Ao co q (ints (L.take q)) rfl (hrow2.fr (Fr.alloc (Fr.refl [] wr) _) (.inr List.not_mem_nil)) _ 1 1 (ints [x]) rfl rfl (sl_new wr _ 3) (ints_one _) (by simp only [maxLen]; omega) (by omega) ?_
        intro A3 c3 w3 hr3 hg3 hb3)))
      go_roundw
      case rel =>
        obtain ⟨g1, g2, g3⟩ := own_app hF HA.out hr3 (by rw [HLQ.out]) _ hg3 hb3
        exact ⟨q + 1, A3, c3, by go_num, rfl, by omega, by rw [HN.out]; exact g1, g2, g3⟩
      case measure => simp [intOf]; omega
    · obtain rfl : q = L.length := by omega
      rw [List.take_length] at hrow
      have hr12 := hr1.fr hF (.inr List.not_mem_nil)
      have hF2 := hf1.trans hF
      have hp := perm_any (.func (.func 12) #[] #[]) A1 c1 L wr ten tens (cmp12 wr) hr12.sl (fun j hj => hr12.lt hj) (by omega) HT.out
      obtain ⟨P, hP⟩ : ∃ P, P = permP L := ⟨_, rfl⟩
      have hPl : P.length = L.length := by rw [hP, permP_len]
      have hp2 : Calls Try.prog 20 #[.slice A1 L.length c1, .func (.func 12) #[] #[]] wr (RowAns wr P) := by rw [hP]; exact hp
      obtain ⟨W, hW⟩ : ∃ W, W = srt tens L := ⟨_, rfl⟩
      have hWl : W.length = L.length := by rw [hW, srt_len]
      have HSORT : Hid (∀ w', Fr [] wr w' → Calls Try.prog 21 #[.slice A1 L.length c1, .func (.func 12) #[] #[]] w' (RowAns w' W)) := by
        show ∀ _, _
        intro w' hf
        rw [hW]
        exact sort_any (.func (.func 12) #[] #[]) A1 c1 L w' ten tens (cmp12 _) (hr12.fr hf (.inr List.not_mem_nil)).sl hcap1 (by omega) HT.out
      have HG : Hid (∀ i, i < L.length → ∃ k : Nat, P.getD i 0 = (k : Int) ∧ k < L.length ∧ L.getD k 0 = W.getD i 0) := by
        show ∀ _, _
        intro i hi
        rw [hP, hW]
        exact permP_get L i hi
      have HTW : Hid (∀ j, j + 1 < L.length → tens (W.getD j 0) < tens (W.getD (j + 1) 0) ∨ (tens (W.getD j 0) = tens (W.getD (j + 1) 0) ∧ P.getD j 0 < P.getD (j + 1) 0)) := by
        show ∀ _, _
        intro j hj
        rw [hP, hW]
        exact permP_two L j hj
      have HWT : Hid (∀ y ∈ W, ten y) := by show ∀ _, _; rw [hW]; exact srt_ten HT.out
      have HSW : Hid (srt tens W = W) := by show _ = _; rw [hW]; exact srt_of_sd (srt_sd L)
      have H2 := Lib.hid hp2
      have HPL := Lib.hid hPl
      have HWL := Lib.hid hWl
      clear hp hp2 hP hPl hW hWl hr1 hF hf1
      go_wp2_with fail
      refine H2.out.mono ?_
      rintro e w3 ⟨A3, c3, rfl, hr3, hf3, hA3⟩
      rw [HPL.out]
      clear H2 hA3
      go_wp2_with fail
      refine (HSORT.out w3 hf3).mono ?_
      rintro e w4 ⟨A4, c4, rfl, hr4, hf4, hA4⟩
      rw [HWL.out]
      have hr14 := (hr12.fr hf3 (.inr List.not_mem_nil)).fr hf4 (.inr List.not_mem_nil)
      have hw14 := (hrow.fr hf3 (.inr List.not_mem_nil)).fr hf4 (.inr List.not_mem_nil)
      have hr34 := hr3.fr hf4 (.inr List.not_mem_nil)
      have hF4 := (hF2.trans hf3).trans hf4
      have hcap4 : W.length ≤ c4 := ORow.cap hr4
      clear HSORT hr12 hrow hr3 hf3 hf4 hA4 hF2
      go_wp2_with fail
      go_loopw [40] (fun iv wx => ∃ i : Nat, iv = .int .i64 i ∧ i ≤ L.length ∧ Fr [] w4 wx) (fun iv _ => L.length - (intOf iv).toNat)
      case atStart => exact ⟨0, rfl, Nat.zero_le _, Fr.refl _ _⟩
      case round =>
        obtain ⟨i, rfl, hi, hFx⟩ := hrel
        by_cases hil : i < L.length
        · obtain ⟨k, k1, k2, k3⟩ := HG.out i hil
          obtain ⟨ap, rfl, cp⟩ := sl_ints (hr34.fr hFx (.inr List.not_mem_nil)).sl (j := i) (by have := HPL.out; omega)
          obtain ⟨aw, rfl, cs⟩ := sl_ints (hr4.fr hFx (.inr List.not_mem_nil)).sl (j := i) (by have := HWL.out; omega)
          obtain ⟨al, rfl, cl⟩ := sl_ints (hr14.fr hFx (.inr List.not_mem_nil)).sl k2
          rw [k1] at cp
          rw [k3] at cl
          have p1 : (i : Int) < (L.length : Int) := by omega
          have p2 : (k : Int) < (L.length : Int) := by omega
          obtain ⟨v, hv⟩ : ∃ v, v = W.getD i 0 := ⟨_, rfl⟩
          rw [← hv] at cs cl
          have HV := Lib.hid hv
          have HK1 := Lib.hid k1
          clear k1 k3 hv
          go_wp2_with fail
          go_quiet (fail)
          go_wp2_with fail
          have hFy : Fr [] w4 (wr.drewN nq) := hFx.drewN nq
          generalize wr.drewN nq = wy at hFy ⊢
          clear cp cs cl hFx
          rcases Nat.eq_zero_or_pos i with h0 | h0
          · subst h0
            have s0 : decide ((0 : Int) < ((0 : Nat) : Int)) = false := by simp
            go_quiet (fail)
            go_wp2_with fail
            go_roundw
            case rel => exact ⟨1, rfl, by omega, hFy.drewN _⟩
            case measure => simp [intOf]; omega
          · obtain ⟨j, hj⟩ : ∃ j, i = j + 1 := ⟨i - 1, by omega⟩
            obtain ⟨kj, kj1, kj2, _⟩ := HG.out j (by omega)
            have cpi := sl_add (hr34.fr hFy (.inr List.not_mem_nil)).sl i (by have := HPL.out; omega)
            have cpj := sl_add (hr34.fr hFy (.inr List.not_mem_nil)).sl j (by have := HPL.out; omega)
            have csi := sl_add (hr4.fr hFy (.inr List.not_mem_nil)).sl i (by have := HWL.out; omega)
            have csj := sl_add (hr4.fr hFy (.inr List.not_mem_nil)).sl j (by have := HWL.out; omega)
            rw [HK1.out] at cpi
            rw [kj1] at cpj
            have htw := HTW.out j (by omega)
            rw [← hj, HK1.out, kj1] at htw
            have hui := HWT.out _ (getD_mem (L := W) (q := j) (by have := HWL.out; omega))
            have hvi := HWT.out _ (getD_mem (L := W) (q := i) (by have := HWL.out; omega))
            rw [← HV.out] at csi htw hvi
            obtain ⟨u, hu⟩ : ∃ u, u = W.getD j 0 := ⟨_, rfl⟩
            rw [← hu] at csj htw hui
            obtain ⟨sg, hsg⟩ : ∃ sg, sg = sgn (tens u) (tens v) := ⟨_, rfl⟩
            have hcm : ∀ w, Calls Try.prog 12 #[.int .i64 u, .int .i64 v] w fun e w' => e = .returned (.int .i64 sg) ∧ w' = w := fun w => by rw [hsg]; exact compare_any u v w hui.1 hui.2 hvi.1 hvi.2
            have hsg2 : (sg = -1) ∨ (sg = 0 ∧ kj < k) := by
              rw [hsg]; unfold sgn
              rcases htw with h | ⟨h, h2⟩
              · left; rw [if_pos h]
              · right; rw [if_neg (by omega), if_neg (by omega)]; exact ⟨rfl, by omega⟩
            have q1 : (j : Int) < (L.length : Int) := by omega
            have q2 : IntKind.i64.wrap ((i : Int) - 1) = (j : Int) := by rw [IntWalk.i64_in _ (by omega)]; omega
            have q3 : (i : Int) < (L.length : Int) := by omega
            have q4 : decide (0 < (i : Int)) = true := by simp; omega
            clear hu hsg htw hui hvi kj1 kj2 hj
            rcases hsg2 with rfl | ⟨rfl, hkk⟩
            · go_quiet ((go_at_call 12; exact Calls.quiet_of_same (hcm _)))
              clear hcm q2 q4
              go_wp2_with fail
              go_roundw
              case rel => exact ⟨i + 1, by go_num, by omega, hFy.drewN _⟩
              case measure => simp [intOf]; omega
            · have q5 : decide ((k : Int) ≤ (kj : Int)) = false := by simp; omega
              go_quiet ((go_at_call 12; exact Calls.quiet_of_same (hcm _)))
              clear hcm q2 q4 q5
              go_wp2_with fail
              go_roundw
              case rel => exact ⟨i + 1, by go_num, by omega, hFy.drewN _⟩
              case measure => simp [intOf]; omega
        · obtain rfl : i = L.length := by omega
          have hso := sort_any (.func (.func 12) #[] #[]) A4 c4 W wr ten tens (cmp12 _) (hr4.fr hFx (.inr List.not_mem_nil)).sl hcap4 (by have := HWL.out; omega) HWT.out
          rw [HSW.out, HWL.out] at hso
          have HSO := Lib.hid hso
          clear hso
          go_wp2_with fail
          refine HSO.out.mono ?_
          rintro e w5 ⟨A5, c5, rfl, hr5, hf5, hA5⟩
          rw [HWL.out]
          have hF5 := hFx.trans hf5
          have hsame := same_yes A5 A4 c5 c4 W w5 hr5.sl (hr4.fr hF5 (.inr List.not_mem_nil)).sl (by have := HWL.out; omega)
          rw [HWL.out] at hsame
          have HSA := Lib.hid hsame
          clear hsame HSO hf5 hA5 hFx
          go_wp2_with fail
          refine HSA.out.mono ?_
          rintro e w6 ⟨rfl, hf6⟩
          have hF6 := hF5.trans hf6
          clear HSA hf6 hF5
          go_wp2_with fail
          refine (same_yes A1 Ao c1 co L w6 (hr14.fr hF6 (.inr List.not_mem_nil)).sl (hw14.fr hF6 (.inr List.not_mem_nil)).sl (by omega)).mono ?_
          rintro e w7 ⟨rfl, hf7⟩
          go_wp2_with fail
          refine (awake_yes w7).mono ?_
          rintro e w8 ⟨rfl, hf8⟩
          go_wp2_with fail
          go_ret
          exact ⟨rfl, ((hF4.trans hF6).trans hf7).trans hf8⟩
end Go.Proofs.Ytgmnjbnlfpopgaa.Only
