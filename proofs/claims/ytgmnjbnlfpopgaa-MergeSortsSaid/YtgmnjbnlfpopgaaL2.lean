import Derived.Test.YtgmnjbnlfpopgaaK11
namespace Go.Proofs.Ytgmnjbnlfpopgaa
open Go.RowKit Go.Proofs.Dm

/-- Which one stands where. -/
def permP (L : List Int) : List Int := srt (fun i => tens (L.getD i.toNat 0)) (idx L.length)
theorem permP_len (L : List Int) : (permP L).length = L.length := by unfold permP; rw [srt_len, idx_len]
theorem idx_map (L : List Int) : (idx L.length).map (fun i => L.getD i.toNat 0) = L := by
  apply List.ext_getElem
  · simp [idx]
  · intro i h1 h2
    simp [idx, List.getD_eq_getElem?_getD, h2]
theorem permP_map (L : List Int) : (permP L).map (fun i => L.getD i.toNat 0) = srt tens L := by
  unfold permP
  rw [srt_map tens (fun i => L.getD i.toNat 0), idx_map]
theorem permP_range (L : List Int) (x : Int) (h : x ∈ permP L) : 0 ≤ x ∧ x < L.length := by
  have := srt_mem.1 h
  obtain ⟨i, hi, rfl⟩ := List.mem_map.1 this
  have := List.mem_range.1 hi
  omega
theorem permP_up (L : List Int) : Up (fun i => tens (L.getD i.toNat 0)) (permP L) := srt_up (idx_up _)
theorem permP_once (L : List Int) : (turnP (permP L)).isSome = true := by
  rw [Option.isSome_iff_exists, turnP_iff, once_iff, permP_len]
  refine ⟨permP_range L, ?_⟩
  exact (permP_up L).imp fun h e => by subst e; omega
theorem permP_get (L : List Int) (q : Nat) (h : q < L.length) : ∃ k : Nat, (permP L).getD q 0 = (k : Int) ∧ k < L.length ∧ L.getD k 0 = (srt tens L).getD q 0 := by
  have hq : q < (permP L).length := by rw [permP_len]; exact h
  have hm : (permP L).getD q 0 ∈ permP L := by rw [List.getD_eq_getElem?_getD, List.getElem?_eq_getElem hq]; exact List.getElem_mem hq
  have hr := permP_range L _ hm
  refine ⟨((permP L).getD q 0).toNat, by omega, by omega, ?_⟩
  rw [← permP_map]
  simp [List.getD_eq_getElem?_getD, hq]
theorem cmp12 (w : World) : CmpOK (.func (.func 12) #[] #[]) (· < w.heap.size) w ten tens := cmp_tens _ _
theorem take_some {L : List Int} {n s : Int} (hs : s = min (max n 0) L.length) : L.take s.toNat = L.take n.toNat := by
  by_cases h : n.toNat ≤ L.length
  · have : s.toNat = n.toNat := by omega
    rw [this]
  · have : s.toNat = L.length := by omega
    rw [this, List.take_of_length_le (Nat.le_refl _), List.take_of_length_le (by omega)]

set_option maxRecDepth 100000 in
set_option maxHeartbeats 6400000 in
theorem sorts_walk (A : Option Addr) (c : Nat) (xs : List Int) (n : Int) (w : World) (hs : Sl w A (ints xs)) (hc : xs.length ≤ c) (hm : c ≤ maxLen) :
    Calls Try.prog 6 #[.slice A xs.length c, .int .i64 n] w fun e w' => e = .returned (.bool true) ∧ Fr [] w w' := by
  have hfew := few_any A c xs w hs hc hm
  have htn := fewL_ten xs
  have hln := fewL_len xs
  obtain ⟨L, hL⟩ : ∃ L, L = fewL xs := ⟨_, rfl⟩
  rw [← hL] at hfew htn hln
  have H0 := Lib.hid hfew
  have HT := Lib.hid htn
  clear hfew htn hL hs hc hm
  go_enter Try.func6, Try.ntmps6
  go_wp2_with fail
  refine H0.out.mono ?_
  rintro e w1 ⟨A1, c1, rfl, hr1, hf1, hA1⟩
  have hcap1 : L.length ≤ c1 := ORow.cap hr1
  have hrs := rsort_any A1 c1 L w1 hr1.sl (by omega) HT.out
  obtain ⟨W, hW⟩ : ∃ W, W = srt tens L := ⟨_, rfl⟩
  have hWl : W.length = L.length := by rw [hW, srt_len]
  rw [← hW] at hrs
  have HW := Lib.hid hW
  have HWL := Lib.hid hWl
  have H1 := Lib.hid hrs
  clear H0 hrs hW hWl
  go_wp2_with fail
  refine H1.out.mono ?_
  rintro e w2 ⟨A2, c2, rfl, hr2, hf2, hA2⟩
  have hr12 := hr1.fr hf2 (.inr List.not_mem_nil)
  have hF2 := hf1.trans hf2
  have hcap2 : W.length ≤ c2 := ORow.cap hr2
  have hwl : W.length ≤ 200 := by rw [HWL.out]; exact hln
  clear H1 hr1 hf1 hf2 hA1 hA2
  go_upto_if 18 with fail
  go_cut [6] (fun s6 wx => wx = w2 ∧ ∃ i : Int, s6 = .int .i64 i ∧ i = max n 0)
  case first =>
    by_cases h : n < 0
    · have HM : Hid (0 = max n 0) := by show _ = _; omega
      go_wp2
      go_meet
      exact ⟨rfl, 0, rfl, HM.out⟩
    · have HM : Hid (n = max n 0) := by show _ = _; omega
      have h' : 0 ≤ n := by omega
      go_wp2
      go_meet
      exact ⟨rfl, n, rfl, HM.out⟩
  case rest =>
    obtain ⟨rfl, i, rfl, hi⟩ := hcut
    have HI := Lib.hid hi
    have hi0 : 0 ≤ i := by omega
    clear hi
    go_upto_if 22 with fail
    go_cut [6] (fun s6 wx => wx = wc ∧ ∃ k : Nat, s6 = .int .i64 k ∧ (k : Int) = min i W.length)
    case first =>
      by_cases h : (W.length : Int) < i
      · have HM : Hid (((W.length : Nat) : Int) = min i W.length) := by show _ = _; omega
        go_wp2
        go_meet
        exact ⟨rfl, _, rfl, HM.out⟩
      · obtain ⟨k, rfl⟩ : ∃ k : Nat, i = (k : Int) := ⟨i.toNat, by omega⟩
        have HM : Hid ((k : Int) = min (k : Int) W.length) := by show _ = _; omega
        have h' : (k : Int) ≤ W.length := by omega
        clear h
        go_wp2
        go_meet
        exact ⟨rfl, k, rfl, HM.out⟩
    case rest =>
      obtain ⟨rfl, k, rfl, hk⟩ := hcut
      have hkl : k ≤ W.length := by omega
      have htk : W.take k = W.take n.toNat := by
        have := take_some (L := W) (n := n) (s := (k : Int)) (by have := HI.out; omega)
        simpa using this
      obtain ⟨T, hT, rfl⟩ : ∃ T, T = W.take n.toNat ∧ k = T.length := ⟨_, rfl, by rw [← htk, List.length_take]; omega⟩
      have hT2 : T = W.take T.length := hT.trans htk.symm
      have HTK := Lib.hid hT
      have HT2 := Lib.hid hT2
      have hp := perm_any (.func (.func 12) #[] #[]) A1 c1 L wc ten tens (cmp12 wc) hr12.sl (fun j hj => hr12.lt hj) (by omega) HT.out
      obtain ⟨P, hP⟩ : ∃ P, P = permP L := ⟨_, rfl⟩
      have hPl : P.length = L.length := by rw [hP, permP_len]
      have hp2 : Calls Try.prog 20 #[.slice A1 L.length c1, .func (.func 12) #[] #[]] wc (RowAns wc P) := by rw [hP]; exact hp
      have HP := Lib.hid hP
      have HPL := Lib.hid hPl
      have H2 := Lib.hid hp2
      clear hp hp2 hP hPl hk htk HI hT hT2
      go_wp2_with fail
      refine H2.out.mono ?_
      rintro e w3 ⟨A3, c3, rfl, hr3, hf3, hA3⟩
      have hr13 := hr12.fr hf3 (.inr List.not_mem_nil)
      have hr23 := hr2.fr hf3 (.inr List.not_mem_nil)
      have hF3 := hF2.trans hf3
      clear H2 hr12 hr2 hF2 hf3 hA3
      have HSORT : Hid (∀ w', Fr [] w3 w' → Calls Try.prog 21 #[.slice A1 L.length c1, .func (.func 12) #[] #[]] w' (RowAns w' W)) := by
        show ∀ _, _
        intro w' hf
        rw [HW.out]
        exact sort_any (.func (.func 12) #[] #[]) A1 c1 L w' ten tens (cmp12 _) (hr13.fr hf (.inr List.not_mem_nil)).sl hcap1 (by omega) HT.out
      have HLEAST : Hid (∀ w', Fr [] w3 w' → Calls Try.prog 22 #[.slice A1 L.length c1, .int .i64 n, .func (.func 12) #[] #[]] w' (RowAns w' T)) := by
        show ∀ _, _
        intro w' hf
        rw [HTK.out, HW.out]
        exact least_any (.func (.func 12) #[] #[]) A1 c1 L n w' ten tens (cmp12 _) (hr13.fr hf (.inr List.not_mem_nil)).sl hcap1 (by omega) HT.out
      have HTSL : Hid (∀ w', Fr [] w3 w' → Sl w' A2 (ints T) ∧ Sl w' A2 (ints W)) := by
        show ∀ _, _
        intro w' hf
        have h := (hr23.fr hf (.inr List.not_mem_nil)).sl
        have h2 := h.take T.length
        rw [← ints_take, ← HT2.out] at h2
        exact ⟨h2, h⟩
      go_upto_region 9 with fail
      go_cut [48] (fun s48 wx => s48 = .bool false ∧ Fr [] w3 wx)
      case first =>
        go_region_with (first
          | (go_at_call 21; go_must (
              refine (HSORT.out _ (Fr.refl [] w3).drew).mono ?_
              rintro e w4 ⟨A4, c4, rfl, hr4, hf4, hA4⟩
              have G4 := (Fr.refl [] w3).drew.trans hf4))
          | (go_at_call 22; go_must (
              refine (HLEAST.out _ G5).mono ?_
              rintro e w6 ⟨A6, c6, rfl, hr6, hf6, hA6⟩
              have G6 := G5.trans hf6))
          | (go_at_call 14; (
              with_reducible refine (same_yes A4 A2 c4 c2 W w4 hr4.sl (HTSL.out _ G4).2 (by omega)).mono ?_
              rintro e w5 ⟨rfl, hf5⟩
              have G5 := G4.trans hf5))
          | (go_at_call 14; go_must (
              refine (same_yes A6 A2 c6 c2 T w6 hr6.sl (HTSL.out _ G6).1 (by omega)).mono ?_
              rintro e w7 ⟨rfl, hf7⟩
              have G7 := G6.trans hf7)))
        all_goals
          go_simp
          go_wp2
          go_meet
          exact ⟨by first | rfl | trivial | (rw [HPL.out]; simp), G7⟩
      case rest =>
        obtain ⟨rfl, hF⟩ := hcut
        have HG : Hid (∀ i, i < L.length → ∃ k : Nat, P.getD i 0 = (k : Int) ∧ k < L.length ∧ L.getD k 0 = W.getD i 0) := by
          show ∀ _, _
          intro i hi
          rw [HP.out, HW.out]
          exact permP_get L i hi
        have hturn := turn_any A3 c3 P
        have honce : ∃ o, turnP P = some o := by
          rw [HP.out]
          exact Option.isSome_iff_exists.1 (permP_once L)
        obtain ⟨o, ho⟩ := honce
        rw [ho] at hturn
        have HTU := Lib.hid hturn
        clear hturn ho HSORT HLEAST HTSL HTK HT2
        go_wp2_with fail
        go_loopw [51] (fun iv wr => ∃ i : Nat, iv = .int .i64 i ∧ i ≤ P.length ∧ Fr [] w3 wr) (fun iv _ => P.length - (intOf iv).toNat)
        case atStart => exact ⟨0, rfl, Nat.zero_le _, hF⟩
        case round =>
          clear hF
          obtain ⟨i, rfl, hi, hF⟩ := hrel
          by_cases hil : i < P.length
          · have hiL : i < L.length := by have := HPL.out; omega
            obtain ⟨k, k1, k2, k3⟩ := HG.out i hiL
            obtain ⟨ap, rfl, cp⟩ := sl_ints (hr3.fr hF (.inr List.not_mem_nil)).sl hil
            obtain ⟨aw, rfl, cw⟩ := sl_ints (hr23.fr hF (.inr List.not_mem_nil)).sl (j := i) (by have := HWL.out; omega)
            obtain ⟨al, rfl, cl⟩ := sl_ints (hr13.fr hF (.inr List.not_mem_nil)).sl k2
            rw [k1] at cp
            rw [k3] at cl
            have p1 : (i : Int) < (W.length : Int) := by have := HWL.out; omega
            have p2 : (k : Int) < (L.length : Int) := by omega
            obtain ⟨v, hv⟩ : ∃ v, v = W.getD i 0 := ⟨_, rfl⟩
            rw [← hv] at cw cl
            clear k1 k3 hv
            go_wp2_with fail
            go_quiet (fail)
            go_wp2_with fail
            go_roundw
            case rel => exact ⟨i + 1, by go_num, by omega, hF.drewN _⟩
            case measure => simp [intOf]; omega
          · obtain rfl : i = P.length := by omega
            go_wp2_with fail
            refine (HTU.out _ (hr3.fr hF (.inr List.not_mem_nil)).sl (by have := HPL.out; omega)).mono ?_
            rintro e w5 ⟨hf5, A5, c5, rfl, hr5, hA5⟩
            have hF5 := hF.trans hf5
            clear hf5 hr5 hA5 HTU
            go_wp2_with fail
            refine (awake_yes w5).mono ?_
            rintro e w6 ⟨rfl, hf6⟩
            go_wp2_with fail
            go_ret
            exact ⟨rfl, (hF3.trans hF5).trans hf6⟩
end Go.Proofs.Ytgmnjbnlfpopgaa
