import Derived.Test.YthhkannmeljfkaaW6
namespace Go.Proofs.Ythhkannmeljfkaa
open Go.RowKit Go.Proofs.Dm

theorem close_bounds (P : PS) (h : Inv P) : 0 ≤ P.close.digits ∧ P.close.digits ≤ 0 ∧ 0 ≤ P.close.count ∧ P.close.count ≤ 9999 := by
  obtain ⟨h0, h1, h2, h3, h4⟩ := h
  unfold PS.close
  split
  · refine ⟨Int.le_refl _, Int.le_refl _, Int.mul_nonneg h0 (by omega), h4⟩
  · exact ⟨h0, by omega, h2, h3⟩

/-- What a step's numbers keep to. -/
def Ok (r : R3) : Prop := 0 ≤ r.1.digits ∧ r.1.digits ≤ 100000 ∧ 0 ≤ r.1.count ∧ r.1.count ≤ 9999
theorem ok_ite {c : Prop} [Decidable c] {a b : R3} (ha : Ok a) (hb : Ok b) : Ok (if c then a else b) := by split <;> assumption
theorem pStep_ok (P : PS) (k : Int) (h : Inv P) : Ok (pStep P k) := by
  have hc := close_bounds P h
  obtain ⟨h0, h1, h2, h3, h4⟩ := h
  have hP : Ok (P, 0, 0) := ⟨h0, by show P.digits ≤ 100000; omega, h2, h3⟩
  have hPc : Ok (P.close, 0, 0) := ⟨hc.1, by show P.close.digits ≤ 100000; omega, hc.2.2.1, hc.2.2.2⟩
  have hd : ∀ st, isDigit P k = true → Ok (pDigit P k st) := by
    intro st hd
    simp only [isDigit, Bool.and_eq_true, decide_eq_true_eq] at hd
    obtain ⟨⟨h5, h6⟩, _⟩ := hd
    exact ⟨by show 0 ≤ P.digits * 10 + k - 48; omega, by show P.digits * 10 + k - 48 ≤ 100000; omega, h2, h3⟩
  unfold pStep
  refine ok_ite ?_ (ok_ite ?_ (ok_ite ?_ (ok_ite ?_ (ok_ite ?_ ?_))))
  · unfold pBegin
    split
    · exact hd _ ‹_›
    · unfold pBegin2 pSelected
      repeat' (refine ok_ite ?_ ?_)
      all_goals exact hPc
  · unfold pRegister
    exact ok_ite hP hP
  · unfold pSecond
    exact ok_ite hP (ok_ite hP hP)
  · unfold pOperated
    split
    · exact hd _ ‹_›
    · unfold pOperated2
      repeat' (refine ok_ite ?_ ?_)
      all_goals exact hPc
  · unfold pNamed
    exact ok_ite hP hP
  · unfold pObject
    exact ok_ite hP hP

/-- The next stage is one of those that there are, where there is more to come. -/
def StOk (r : R3) : Prop := (r.2.2 = 0 ∧ r.2.1 ∈ stages) ∨ (r.2.2 = 1 ∧ r.2.1 = 0) ∨ (r.2.2 = 2 ∧ r.2.1 = 0)
theorem stOk_ite {c : Prop} [Decidable c] {a b : R3} (ha : StOk a) (hb : StOk b) : StOk (if c then a else b) := by split <;> assumption
theorem pStep_st (P : PS) (k : Int) : StOk (pStep P k) := by
  have hw : ∀ P v, StOk (pWhole P v) := fun P v => .inr (.inl ⟨rfl, rfl⟩)
  have hx : ∀ P, StOk (pWrong P) := fun P => .inr (.inr ⟨rfl, rfl⟩)
  have hm : ∀ P st, st ∈ stages → StOk (P, st, 0) := fun P st h => .inl ⟨rfl, h⟩
  unfold pStep pBegin pOperated pRegister pSecond pNamed pObject pBegin2 pOperated2 pSelected pDigit
  repeat' (refine stOk_ite ?_ ?_)
  all_goals first
    | exact hw _ _
    | exact hx _
    | exact hm _ _ (by decide)
end Go.Proofs.Ythhkannmeljfkaa
