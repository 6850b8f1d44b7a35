import Derived.Test.YthhkannmeljfkaaR3
namespace Go.Proofs.Ythhkannmeljfkaa
open Go.RowKit Go.Proofs.Dm

/-- The step behind g, and behind i. -/
theorem sec_op (op verb count reg char : Int) (rc : Bool) (hop : op ≠ 0) (rest : List Int) : pRun ⟨op, verb, count, reg, char, 0, 35, false, rc⟩ rest = secT op verb count reg char 103 ⟨#[103]⟩ rest := by
  cases rest with
  | nil => rfl
  | cons k rest =>
    rw [pRun_cons]
    have hp : pStep ⟨op, verb, count, reg, char, 0, 35, false, rc⟩ k = pSecond ⟨op, verb, count, reg, char, 0, 35, false, rc⟩ k := by simp [pStep]
    rw [hp]
    by_cases hk : k = 103
    · subst hk
      simp only [pSecond, if_true, pGo_whole]
      rfl
    · have h1 : inB k ⟨#[103]⟩ = false := by simp [inB, inFrom]; exact hk
      simp [pSecond, hk, hop, pGo_wrong, secT, h1]
theorem sec_obj (op verb count reg char : Int) (rc : Bool) (rest : List Int) : pRun ⟨op, verb, count, reg, char, 0, 48, false, rc⟩ rest = secT op verb count reg char 105 sObjects rest := by
  cases rest with
  | nil => rfl
  | cons k rest =>
    rw [pRun_cons]
    have hp : pStep ⟨op, verb, count, reg, char, 0, 48, false, rc⟩ k = pObject ⟨op, verb, count, reg, char, 0, 48, false, rc⟩ k := by simp [pStep]
    rw [hp, pObject, among_in k sObjects (by simp)]
    cases h : inB k sObjects with
    | true => simp only [if_true, pGo_whole, secT, h]; rfl
    | false => simp [pGo_wrong, secT, h]

set_option maxRecDepth 100000 in
set_option maxHeartbeats 1600000 in
theorem operated_at (w : World) (g : Nat) (A : Option Addr) (c : Nat) (l : List Int) (i : Nat) (op0 verb count reg char op : Int) (rc : Bool) (hl : l.length < 60000) (hi : i ≤ l.length) (hc0 : 0 ≤ count) (hc1 : count ≤ 9999) (hop : op = 100 ∨ op = 121 ∨ op = 99)
    (h : RAt w g A c l ⟨i, op0, verb, count, reg, char, 0, 0⟩) :
    Calls Try.prog 44 #[.pointer (some ⟨g, 0, none⟩), .int .i64 op] w fun e w' => e = .returned (.tuple #[]) ∧ Fr [some g] w w' ∧ RTold w' g A c l (pRun ⟨op, verb, count, reg, char, 0, 39, false, rc⟩ (l.drop i)) := by
  have hop0 : op ≠ 0 := by omega
  have hopa : arrowF op = op := by rw [arrowF, if_neg (by omega), if_neg (by omega), if_neg (by omega), if_neg (by omega), if_neg (by omega), if_neg (by omega)]
  obtain ⟨hb, hs, hA⟩ := h
  have c2 : w.cell? ⟨g, 2, none⟩ = some (.int .i64 op0) := hb.cell 2
  have f2 := hb.frozen 2
  have hf0 : Fr [some g] w (w.setCell ⟨g, 2, none⟩ (.int .i64 op)) := (Fr.refl [some g] w).setB (g := g) (by simp) 2 _
  have h0 : RAt (w.setCell ⟨g, 2, none⟩ (.int .i64 op)) g A c l ⟨i, op, verb, count, reg, char, 0, 0⟩ := ⟨hb.set_ 2 _, hs.fr hf0 (.inr (by simpa using hA)), hA⟩
  clear hb hs
  generalize ht : pRun ⟨op, verb, count, reg, char, 0, 39, false, rc⟩ (l.drop i) = t
  go_enter Try.func44, Try.ntmps44
  go_wp2_with fail
  refine (count_at _ g A c l i op verb count reg char 39 false rc (.inr rfl) h0 hl hi hc0 hc1).mono ?_
  rintro e w1 ⟨hf1', b, rfl, j, cnt, what, err, hR, hj, hpost⟩
  have hf1 := hf0.trans hf1'
  clear hf0 hf1' h0 c2 f2 hop
  rcases hpost with ⟨rfl, rfl, rfl, hrun⟩ | ⟨rfl, rfl, rfl, ⟨rfl, hrun⟩ | ⟨hjl, _, h0, h9, hrun⟩⟩
  · rw [hrun] at ht
    subst ht
    go_wp2
    refine bodyPost_ret (results_none rfl _ _ _) rfl ?_
    exact ⟨rfl, hf1, _, hR, rfl, rfl, fun h => by cases h⟩
  · rw [hrun] at ht
    subst ht
    go_wp2_with fail
    refine (rkey_end w1 g A c l op verb cnt reg char 0 0 hR (by omega)).mono ?_
    rintro e w2 ⟨rfl, h2, hf2⟩
    go_wp2
    refine bodyPost_ret (results_none rfl _ _ _) rfl ?_
    exact ⟨rfl, hf1.trans hf2, _, h2, rfl, rfl, fun h => by cases h⟩
  · have hkey := rkey_some w1 g A c l j op verb cnt reg char 0 0 hR hl hjl
    obtain ⟨k, hk⟩ : ∃ k, k = l.getD j 0 := ⟨_, rfl⟩
    rw [← hk] at hkey hrun
    have HK := Lib.hid hkey
    have hpn : pNon ⟨op, verb, cnt, reg, char, 0, 39, false, rc⟩ k = pOperated2 ⟨op, verb, cnt, reg, char, 0, 39, false, rc⟩ k := by simp [pNon]
    rw [hpn] at hrun
    rw [hrun] at ht
    clear hk hkey hrun hpn hR
    by_cases hko : k = op
    · subst hko
      have hpo : pOperated2 ⟨k, verb, cnt, reg, char, 0, 39, false, rc⟩ k = pWhole ⟨k, verb, cnt, reg, char, 0, 39, false, rc⟩ k := by simp [pOperated2, hopa]
      rw [hpo, pGo_whole] at ht
      subst ht
      clear hpo hopa
      go_wp2_with fail
      refine HK.out.mono ?_
      rintro e w2 ⟨rfl, h2, hf2⟩
      clear HK
      go_wp2_with fail
      refine (done_at w2 g A c l (j + 1) k verb cnt reg char 0 0 k h2).mono ?_
      rintro e w3 ⟨rfl, h3, hf3⟩
      go_wp2
      refine bodyPost_ret (results_none rfl _ _ _) rfl ?_
      exact ⟨rfl, (hf1.trans hf2).trans hf3, _, h3, rfl, rfl, fun _ => rfl⟩
    · have hko' : (k == op) = false := beq_eq_false_iff_ne.2 hko
      have hne : (k != op) = true := by simpa using hko
      have hm := mot_spec k
      obtain ⟨m, hmm⟩ : ∃ m, m = mot k := ⟨_, rfl⟩
      rw [← hmm] at hm
      have HM := Lib.hid hmm.symm
      clear hmm
      rcases hm with ⟨hm0, hm1, hm2, hm3⟩ | ⟨hm0, hm2⟩
      · have hpo : pOperated2 ⟨op, verb, cnt, reg, char, 0, 39, false, rc⟩ k = pWhole ⟨op, verb, cnt, reg, char, 0, 39, false, rc⟩ m := by simp [pOperated2, hko, hm2, hm3]
        rw [hpo, pGo_whole] at ht
        subst ht
        clear hpo hopa hm2 hm3
        go_wp2_with fail
        refine HK.out.mono ?_
        rintro e w2 ⟨rfl, h2, hf2⟩
        clear HK
        go_wp2_with fail
        refine (motion_at k m HM.out _).mono ?_
        rintro e w3 ⟨rfl, rfl⟩
        go_wp2_with fail
        refine (done_at w2 g A c l (j + 1) op verb cnt reg char 0 0 k h2).mono ?_
        rintro e w3 ⟨rfl, ⟨hb3, hs3, _⟩, hf3⟩
        go_wp2_with fail
        refine (motion_at k m HM.out _).mono ?_
        rintro e w4 ⟨rfl, rfl⟩
        have c3 : w3.cell? ⟨g, 3, none⟩ = some (.int .i64 k) := hb3.cell 3
        have f3 := hb3.frozen 3
        have hf4 : Fr [some g] w3 (w3.setCell ⟨g, 3, none⟩ (.int .i64 m)) := (Fr.refl [some g] w3).setB (g := g) (by simp) 3 _
        go_wp2
        refine bodyPost_ret (results_none rfl _ _ _) rfl ?_
        exact ⟨rfl, ((hf1.trans hf2).trans hf3).trans hf4, ⟨j + 1, op, m, cnt, reg, char, 1, 0⟩, ⟨hb3.set_ 3 _, hs3.fr hf4 (.inr (by simpa using hA)), hA⟩, rfl, rfl, fun _ => rfl⟩
      · by_cases h5 : k = 105
        · subst h5
          have hpo : pOperated2 ⟨op, verb, cnt, reg, char, 0, 39, false, rc⟩ 105 = (⟨op, verb, cnt, reg, char, 0, 39, false, rc⟩, 48, 0) := by simp [pOperated2, hko, hm2]
          rw [hpo, pGo_more, sec_obj] at ht
          subst ht
          clear hpo hopa hm2
          go_wp2_with fail
          refine HK.out.mono ?_
          rintro e w2 ⟨rfl, h2, hf2⟩
          clear HK
          go_wp2_with fail
          refine (motion_at 105 m HM.out _).mono ?_
          rintro e w3 ⟨rfl, rfl⟩
          go_wp2_with fail
          refine (sec_at w2 g A c l (j + 1) op verb cnt reg char 105 sObjects (by decide) hl (by omega) (by omega) (by omega) h2).mono ?_
          rintro e w3 ⟨rfl, hf3, h3⟩
          go_wp2
          refine bodyPost_ret (results_none rfl _ _ _) rfl ?_
          exact ⟨rfl, (hf1.trans hf2).trans hf3, h3⟩
        · by_cases h3 : k = 103
          · subst h3
            have hpo : pOperated2 ⟨op, verb, cnt, reg, char, 0, 39, false, rc⟩ 103 = (⟨op, verb, cnt, reg, char, 0, 39, false, rc⟩, 35, 0) := by simp [pOperated2, hko, hm2]
            rw [hpo, pGo_more, sec_op _ _ _ _ _ _ hop0] at ht
            subst ht
            clear hpo hopa hm2
            go_wp2_with fail
            refine HK.out.mono ?_
            rintro e w2 ⟨rfl, h2, hf2⟩
            clear HK
            go_wp2_with fail
            refine (motion_at 103 m HM.out _).mono ?_
            rintro e w3 ⟨rfl, rfl⟩
            go_wp2_with fail
            refine (sec_at w2 g A c l (j + 1) op verb cnt reg char 103 ⟨#[103]⟩ (by decide) hl (by omega) (by omega) (by omega) h2).mono ?_
            rintro e w3 ⟨rfl, hf3, h3⟩
            go_wp2
            refine bodyPost_ret (results_none rfl _ _ _) rfl ?_
            exact ⟨rfl, (hf1.trans hf2).trans hf3, h3⟩
          · have hpo : pOperated2 ⟨op, verb, cnt, reg, char, 0, 39, false, rc⟩ k = pWrong ⟨op, verb, cnt, reg, char, 0, 39, false, rc⟩ := by simp [pOperated2, hko, hm2, h5, h3]
            rw [hpo, pGo_wrong] at ht
            subst ht
            have h5' : (k == 105) = false := beq_eq_false_iff_ne.2 h5
            have h3' : (k == 103) = false := beq_eq_false_iff_ne.2 h3
            clear hpo hopa hm2
            go_wp2_with fail
            refine HK.out.mono ?_
            rintro e w2 ⟨rfl, h2, hf2⟩
            clear HK
            go_wp2_with fail
            refine (motion_at k m HM.out _).mono ?_
            rintro e w3 ⟨rfl, rfl⟩
            go_wp2_with fail
            refine (wrong_at w2 g A c l (j + 1) op verb cnt reg char 0 0 h2).mono ?_
            rintro e w3 ⟨rfl, h3, hf3⟩
            go_wp2
            go_end0
            exact ⟨rfl, (hf1.trans hf2).trans hf3, _, h3, rfl, rfl, fun h => by cases h⟩
end Go.Proofs.Ythhkannmeljfkaa
