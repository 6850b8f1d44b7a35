import Derived.Test.YthhkannmeljfkaaR4
namespace Go.Proofs.Ythhkannmeljfkaa
open Go.RowKit Go.Proofs.Dm

theorem in_ops {k : Int} (h : inB k sOps = true) : k = 100 ∨ k = 121 ∨ k = 99 := by
  obtain ⟨c, hc, rfl⟩ := in_mem h
  simp [sOps] at hc
  rcases hc with rfl | rfl | rfl <;> simp
theorem named_run (verb count reg : Int) (rc : Bool) (rest : List Int) (c : Int) : pRun ⟨0, verb, count, reg, 0, 0, 40, false, rc⟩ (c :: rest) = if letterB c false = true then (five 0 verb count reg c, 1, 0) else (Zero5, 2, 10) := by
  rw [pRun_cons]
  have hp : pStep ⟨0, verb, count, reg, 0, 0, 40, false, rc⟩ c = pNamed ⟨0, verb, count, reg, 0, 0, 40, false, rc⟩ c := by simp [pStep]
  rw [hp, pNamed]
  split
  · exact pGo_whole ..
  · exact pGo_wrong ..

/-- @ or q: the name behind it. -/
def nameT (verb count reg : Int) : List Int → List Value × Int × Int
  | [] => (Zero5, 0, 0)
  | c :: _ => if letterB c false = true then (five 0 verb count reg c, 1, 0) else (Zero5, 2, 10)
theorem named_t (verb count reg : Int) (rc : Bool) (rest : List Int) : pRun ⟨0, verb, count, reg, 0, 0, 40, false, rc⟩ rest = nameT verb count reg rest := by
  cases rest with
  | nil => rfl
  | cons c rest => exact named_run ..

set_option maxRecDepth 100000 in
set_option maxHeartbeats 1600000 in
theorem normal_at (w : World) (g : Nat) (A : Option Addr) (c : Nat) (l : List Int) (i : Nat) (count reg k : Int) (rc : Bool) (hl : l.length < 60000) (hi : i ≤ l.length) (hc0 : 0 ≤ count) (hc1 : count ≤ 9999) (hk1 : k ≠ 34) (hk2 : k ≠ 103) (hmo : amongB (arrowF k) sMotions = false)
    (h : RAt w g A c l ⟨i, 0, 0, count, reg, 0, 0, 0⟩) :
    Calls Try.prog 27 #[.pointer (some ⟨g, 0, none⟩), .int .i64 k, .bool rc] w fun e w' => e = .returned (.tuple #[]) ∧ Fr [some g] w w' ∧ RTold w' g A c l (pGo (pBegin2 ⟨0, 0, count, reg, 0, 0, 18, false, rc⟩ k) (l.drop i)) := by
  have hops := among_in k sOps (by simp)
  have hpl := among_in k sPlain (by simp)
  have hct := ctrl_in k sCtrl (by simp)
  cases hA : inB k sOps with
  | true =>
    rw [hA] at hops
    have hop := in_ops hA
    have hp : pBegin2 ⟨0, 0, count, reg, 0, 0, 18, false, rc⟩ k = (⟨k, 0, count, reg, 0, 0, 18, false, rc⟩, 39, 0) := by simp [pBegin2, hk1, hk2, hmo, hops]
    generalize ht : pGo (pBegin2 ⟨0, 0, count, reg, 0, 0, 18, false, rc⟩ k) (l.drop i) = t
    rw [hp, pGo_more] at ht
    subst ht
    clear hp hops hmo hpl hct
    go_enter Try.func27, Try.ntmps27
    go_wp2_with fail
    refine (in_at k sOps true _ (by decide) hA).mono ?_
    rintro e w1 ⟨rfl, rfl⟩
    go_wp2_with fail
    refine (operated_at w g A c l i 0 0 count reg 0 k rc hl hi hc0 hc1 hop h).mono ?_
    rintro e w1 ⟨rfl, hf1, h1⟩
    go_wp2
    refine bodyPost_ret (results_none rfl _ _ _) rfl ?_
    exact ⟨rfl, hf1, h1⟩
  | false =>
    rw [hA] at hops
    by_cases hB : k = 64 ∨ (k = 113 ∧ rc = false)
    · have hp : pBegin2 ⟨0, 0, count, reg, 0, 0, 18, false, rc⟩ k = (⟨0, k, count, reg, 0, 0, 18, false, rc⟩, 40, 0) := by
        rcases hB with rfl | ⟨rfl, rfl⟩
        · simp [pBegin2, hmo, hops]
        · simp [pBegin2, hmo, hops]
      generalize ht : pGo (pBegin2 ⟨0, 0, count, reg, 0, 0, 18, false, rc⟩ k) (l.drop i) = t
      rw [hp, pGo_more, named_t] at ht
      clear hp hops hmo hpl hct
      by_cases hlt : i < l.length
      · have hkey := rkey_some w g A c l i 0 0 count reg 0 0 0 h hl hlt
        rw [drop_at l i hlt] at ht
        obtain ⟨x, hx⟩ : ∃ x, x = l.getD i 0 := ⟨_, rfl⟩
        rw [← hx] at hkey ht
        have HK := Lib.hid hkey
        clear hx hkey h
        simp only [nameT, letterB] at ht
        by_cases h1 : 97 ≤ x
        · by_cases h2 : x ≤ 122
          · have ht2 : (five 0 k count reg x, 1, 0) = t := by rw [← ht]; simp [h1, h2]
            subst ht2
            clear ht
            rcases hB with rfl | ⟨rfl, rfl⟩
            all_goals
              go_enter Try.func27, Try.ntmps27
              go_wp2_with fail
              refine (in_at _ sOps false _ (by decide) hA).mono ?_
              rintro e w1 ⟨rfl, rfl⟩
              go_wp2_with fail
              refine HK.out.mono ?_
              rintro e w2 ⟨rfl, ⟨hb2, hs2, hA2⟩, hf2⟩
              have c6 : w2.cell? ⟨g, 6, none⟩ = some (.int .i64 0) := hb2.cell 6
              have f6 := hb2.frozen 6
              have hf3 : Fr [some g] w2 (w2.setCell ⟨g, 6, none⟩ (.int .i64 x)) := (Fr.refl [some g] w2).setB (g := g) (by simp) 6 _
              have h3 : RAt (w2.setCell ⟨g, 6, none⟩ (.int .i64 x)) g A c l ⟨i + 1, 0, 0, count, reg, x, 0, 0⟩ := ⟨hb2.set_ 6 _, hs2.fr hf3 (.inr (by simpa using hA2)), hA2⟩
              clear HK
              go_wp2_with fail
              refine (done_at _ g A c l (i + 1) 0 0 count reg x 0 0 _ h3).mono ?_
              rintro e w4 ⟨rfl, h4, hf4⟩
              go_wp2
              refine bodyPost_ret (results_none rfl _ _ _) rfl ?_
              exact ⟨rfl, (hf2.trans hf3).trans hf4, _, h4, rfl, rfl, fun _ => rfl⟩
          · have ht2 : (Zero5, 2, 10) = t := by rw [← ht]; simp [h2]
            subst ht2
            clear ht
            rcases hB with rfl | ⟨rfl, rfl⟩
            all_goals
              go_enter Try.func27, Try.ntmps27
              go_wp2_with fail
              refine (in_at _ sOps false _ (by decide) hA).mono ?_
              rintro e w1 ⟨rfl, rfl⟩
              go_wp2_with fail
              refine HK.out.mono ?_
              rintro e w2 ⟨rfl, h2', hf2⟩
              clear HK
              go_wp2_with fail
              refine (wrong_at w2 g A c l (i + 1) 0 0 count reg 0 0 0 h2').mono ?_
              rintro e w4 ⟨rfl, h4, hf4⟩
              go_wp2
              refine bodyPost_ret (results_none rfl _ _ _) rfl ?_
              exact ⟨rfl, hf2.trans hf4, _, h4, rfl, rfl, fun h => by cases h⟩
        · have ht2 : (Zero5, 2, 10) = t := by rw [← ht]; simp [h1]
          subst ht2
          clear ht
          rcases hB with rfl | ⟨rfl, rfl⟩
          all_goals
            go_enter Try.func27, Try.ntmps27
            go_wp2_with fail
            refine (in_at _ sOps false _ (by decide) hA).mono ?_
            rintro e w1 ⟨rfl, rfl⟩
            go_wp2_with fail
            refine HK.out.mono ?_
            rintro e w2 ⟨rfl, h2', hf2⟩
            clear HK
            go_wp2_with fail
            refine (wrong_at w2 g A c l (i + 1) 0 0 count reg 0 0 0 h2').mono ?_
            rintro e w4 ⟨rfl, h4, hf4⟩
            go_wp2
            refine bodyPost_ret (results_none rfl _ _ _) rfl ?_
            exact ⟨rfl, hf2.trans hf4, _, h4, rfl, rfl, fun h => by cases h⟩
      · obtain rfl : i = l.length := by omega
        rw [List.drop_length] at ht
        have ht2 : (Zero5, 0, 0) = t := ht
        subst ht2
        clear ht
        rcases hB with rfl | ⟨rfl, rfl⟩
        all_goals
          go_enter Try.func27, Try.ntmps27
          go_wp2_with fail
          refine (in_at _ sOps false _ (by decide) hA).mono ?_
          rintro e w1 ⟨rfl, rfl⟩
          go_wp2_with fail
          refine (rkey_end w g A c l 0 0 count reg 0 0 0 h (by omega)).mono ?_
          rintro e w2 ⟨rfl, h2, hf2⟩
          go_wp2
          refine bodyPost_ret (results_none rfl _ _ _) rfl ?_
          exact ⟨rfl, hf2, _, h2, rfl, rfl, fun h => by cases h⟩
    · have h64 : k ≠ 64 := fun e => hB (.inl e)
      have h64' : (k == 64) = false := beq_eq_false_iff_ne.2 h64
      by_cases hq : k = 113
      · subst hq
        have hrc : rc = true := by cases rc <;> simp_all
        subst hrc
        generalize ht : pGo (pBegin2 ⟨0, 0, count, reg, 0, 0, 18, false, true⟩ 113) (l.drop i) = t
        have hp : pBegin2 ⟨0, 0, count, reg, 0, 0, 18, false, true⟩ 113 = pWhole ⟨0, 0, count, reg, 0, 0, 18, false, true⟩ 113 := by simp [pBegin2, hmo, hops]
        rw [hp, pGo_whole] at ht
        subst ht
        clear hp hops hmo hpl hct hB h64'
        go_enter Try.func27, Try.ntmps27
        go_wp2_with fail
        refine (in_at _ sOps false _ (by decide) hA).mono ?_
        rintro e w1 ⟨rfl, rfl⟩
        go_wp2_with fail
        refine (done_at w g A c l i 0 0 count reg 0 0 0 _ h).mono ?_
        rintro e w4 ⟨rfl, h4, hf4⟩
        go_wp2
        refine bodyPost_ret (results_none rfl _ _ _) rfl ?_
        exact ⟨rfl, hf4, _, h4, rfl, rfl, fun _ => rfl⟩
      · have hq' : (k == 113) = false := beq_eq_false_iff_ne.2 hq
        generalize ht : pGo (pBegin2 ⟨0, 0, count, reg, 0, 0, 18, false, rc⟩ k) (l.drop i) = t
        have hp : pBegin2 ⟨0, 0, count, reg, 0, 0, 18, false, rc⟩ k = if inB k sPlain = true ∨ inC k sCtrl = true then pWhole ⟨0, 0, count, reg, 0, 0, 18, false, rc⟩ k else pWrong ⟨0, 0, count, reg, 0, 0, 18, false, rc⟩ := by
          simp [pBegin2, hmo, hops, hk1, hk2, hq, h64, hpl, hct]
        rw [hp] at ht
        clear hp hops hmo hpl hct hB
        cases hC : inB k sPlain with
        | true =>
          have ht2 : (five 0 k count reg 0, 1, 0) = t := by rw [← ht, if_pos (.inl hC), pGo_whole]
          subst ht2
          clear ht
          go_enter Try.func27, Try.ntmps27
          go_wp2_with fail
          refine (in_at _ sOps false _ (by decide) hA).mono ?_
          rintro e w1 ⟨rfl, rfl⟩
          go_wp2_with fail
          refine (in_at _ sPlain true _ (by decide) hC).mono ?_
          rintro e w1 ⟨rfl, rfl⟩
          go_wp2_with fail
          refine (done_at w g A c l i 0 0 count reg 0 0 0 _ h).mono ?_
          rintro e w4 ⟨rfl, h4, hf4⟩
          go_wp2
          refine bodyPost_ret (results_none rfl _ _ _) rfl ?_
          exact ⟨rfl, hf4, _, h4, rfl, rfl, fun _ => rfl⟩
        | false =>
          cases hD : inC k sCtrl with
          | true =>
            have ht2 : (five 0 k count reg 0, 1, 0) = t := by rw [← ht, if_pos (.inr hD), pGo_whole]
            subst ht2
            clear ht
            go_enter Try.func27, Try.ntmps27
            go_wp2_with fail
            refine (in_at _ sOps false _ (by decide) hA).mono ?_
            rintro e w1 ⟨rfl, rfl⟩
            go_wp2_with fail
            refine (in_at _ sPlain false _ (by decide) hC).mono ?_
            rintro e w1 ⟨rfl, rfl⟩
            go_wp2_with fail
            refine (inc_at _ sCtrl true _ (by decide) hD).mono ?_
            rintro e w1 ⟨rfl, rfl⟩
            go_wp2_with fail
            refine (done_at w g A c l i 0 0 count reg 0 0 0 _ h).mono ?_
            rintro e w4 ⟨rfl, h4, hf4⟩
            go_wp2
            refine bodyPost_ret (results_none rfl _ _ _) rfl ?_
            exact ⟨rfl, hf4, _, h4, rfl, rfl, fun _ => rfl⟩
          | false =>
            have ht2 : (Zero5, 2, 10) = t := by rw [← ht, if_neg (by simp [hC, hD]), pGo_wrong]
            subst ht2
            clear ht
            go_enter Try.func27, Try.ntmps27
            go_wp2_with fail
            refine (in_at _ sOps false _ (by decide) hA).mono ?_
            rintro e w1 ⟨rfl, rfl⟩
            go_wp2_with fail
            refine (in_at _ sPlain false _ (by decide) hC).mono ?_
            rintro e w1 ⟨rfl, rfl⟩
            go_wp2_with fail
            refine (inc_at _ sCtrl false _ (by decide) hD).mono ?_
            rintro e w1 ⟨rfl, rfl⟩
            go_wp2_with fail
            refine (wrong_at w g A c l i 0 0 count reg 0 0 0 h).mono ?_
            rintro e w4 ⟨rfl, h4, hf4⟩
            go_wp2
            go_end0
            exact ⟨rfl, hf4, _, h4, rfl, rfl, fun h => by cases h⟩
end Go.Proofs.Ythhkannmeljfkaa
