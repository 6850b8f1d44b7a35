import Derived.Test.YtgmnjbnlfpopgaaG15
namespace Go.Proofs.Ytgmnjbnlfpopgaa
open Go.RowKit Go.Proofs.Dm

/-- The row behind one call. -/
def stepP (S : List Int) (k n : Int) : List Int :=
  if k = 0 ∨ k = 1 then putP S n else if k = 2 ∨ k = 3 then butI S n else if k = 4 then S.tail else S
theorem stepP_sd {S : List Int} (k n : Int) (h : S.Pairwise (· < ·)) : (stepP S k n).Pairwise (· < ·) := by
  unfold stepP
  split
  · exact putP_sd n h
  · split
    · exact h.sublist List.filter_sublist
    · split
      · exact h.sublist (List.tail_sublist S)
      · exact h
theorem stepP_len (S : List Int) (k n : Int) : (stepP S k n).length ≤ S.length + 1 := by
  unfold stepP
  split
  · exact putP_len S n
  · split
    · have := but_len S n; omega
    · split
      · simp; omega
      · omega
/-- What a call leaves: the row behind it, and the queue likewise. -/
def StepAns (Z : Nat → Prop) (g r : Nat) (S' : List Int) (A : Option Addr) (w : World) (e : Ending) (w' : World) : Prop :=
  ∃ A' c', e = .returned (.tuple #[.slice A' S'.length c', .bool true]) ∧ Sl w' A' (ints S') ∧ S'.length ≤ c' ∧ QAt (fun k => Z k ∨ bk A' = some k) w' w' g r S' ∧ FrU Z w w' ∧ ∀ j, bk A' = some j → bk A = some j ∨ w.heap.size ≤ j
theorem fru_of {Z U : Nat → Prop} {w w1 w2 : World} (hf : Fr [] w w1) (hq : FrU U w1 w2) (hU : ∀ k, Z k → U k) (hb : ∀ k, Z k → k < w.heap.size) : FrU Z w w2 := by
  obtain ⟨T, hT, hTU⟩ := FrU.toFr hq
  exact ((FrU.refl Z w hb).trans hf).seq hT (fun i hi hb' => hTU i (hU i hb') hi)
end Go.Proofs.Ytgmnjbnlfpopgaa
