import Derived.Test.YtgmnjbnlfpopgaaK7
namespace Go.Proofs.Ytgmnjbnlfpopgaa
open Go.RowKit Go.Proofs.Dm

def ten : Int → Prop := fun x => -1000000 ≤ x ∧ x ≤ 1000000
def F12 : Value := .func (.func 12) #[] #[]
theorem ans_yes {w w' : World} {S : List (Option Nat)} (h : Fr S w w') (hS : S = []) : Fr [] w w' := by subst hS; exact h
theorem irow_lit (w : World) (xs : List Int) (hl : xs.length ≤ 10000) : IRow (w.alloc (.cells (ints xs).toArray 3)) 3 (some ⟨w.heap.size, 0, none⟩) xs.length xs := by
  have := World.ownsRow_lit (base := 0) (e := 3) (size := 1) w (ints xs).toArray xs.length (Nat.zero_le _) (by simp only [maxLen]; omega) (by simp [ints])
  simpa [IRow, ORow] using this

set_option maxRecDepth 100000 in
set_option maxHeartbeats 1600000 in
theorem awake_yes (w : World) : Calls Try.prog 18 #[] w fun e w' => e = .returned (.bool true) ∧ Fr [] w w' := by
  have hturn : ∀ (A : Option Addr) (c : Nat) (w1 : World), Sl w1 A (ints [1, 2, 0]) → Calls Try.prog 19 #[.slice A 3 c] w1 (TurnAns w1 (some [2, 0, 1])) := fun A c w1 h => by
    have := turn_any A c [1, 2, 0] w1 h (by decide)
    exact this
  have hsort : ∀ (A : Option Addr) (c : Nat) (w1 : World), Sl w1 A (ints [31, 12, 30, 11]) → 4 ≤ c → Calls Try.prog 21 #[.slice A 4 c, .func (.func 12) #[] #[]] w1 (RowAns w1 [12, 11, 31, 30]) := fun A c w1 h hc => by
    have := sort_any (.func (.func 12) #[] #[]) A c [31, 12, 30, 11] w1 _ tens (cmp_tens _ _) h hc (by decide) (by decide)
    exact this
  have HT := Lib.hid hturn
  have HS := Lib.hid hsort
  clear hturn hsort
  go_enter Try.func18, Try.ntmps18
  go_wp2_with fail
  refine (HT.out _ _ _ (irow_lit w [1, 2, 0] (by decide)).sl).mono ?_
  rintro e w1 ⟨hf1, A1, c1, rfl, hr1, hA1⟩
  have hF1 : Fr [] w w1 := ((Fr.refl [] w).alloc _).trans hf1
  clear HT hf1
  go_wp2_with fail
  refine (HS.out _ _ _ (irow_lit w1 [31, 12, 30, 11] (by decide)).sl (by decide)).mono ?_
  rintro e w2 ⟨A2, c2, rfl, hr2, hf2, hA2⟩
  have hF12 : Fr [] w1 w2 := ((Fr.refl [] w1).alloc _).trans hf2
  have hF2 := hF1.trans hF12
  have hr12 := hr1.fr hF12 (.inr List.not_mem_nil)
  clear HS hf2 hr1
  go_wp2_with fail
  refine (same_yes A2 _ c2 4 [12, 11, 31, 30] _ (hr2.sl.fr ((Fr.refl [] w2).alloc _) (.inr List.not_mem_nil)) (irow_lit w2 [12, 11, 31, 30] (by decide)).sl (by decide)).mono ?_
  rintro e w3 ⟨rfl, hf3⟩
  have hF23 : Fr [] w2 w3 := ((Fr.refl [] w2).alloc _).trans hf3
  have hF3 := hF2.trans hF23
  have hr13 := hr12.fr hF23 (.inr List.not_mem_nil)
  clear hf3 hr12 hr2
  go_wp2_with fail
  refine (same_yes A1 _ c1 3 [2, 0, 1] _ (hr13.sl.fr ((Fr.refl [] w3).alloc _) (.inr List.not_mem_nil)) (irow_lit w3 [2, 0, 1] (by decide)).sl (by decide)).mono ?_
  rintro e w4 ⟨rfl, hf4⟩
  have hF34 : Fr [] w3 w4 := ((Fr.refl [] w3).alloc _).trans hf4
  go_wp2_with fail
  go_ret
  exact ⟨rfl, hF3.trans hF34⟩
end Go.Proofs.Ytgmnjbnlfpopgaa
