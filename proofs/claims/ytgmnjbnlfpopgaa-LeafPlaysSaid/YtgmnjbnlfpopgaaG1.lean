import Derived.Test.YtgmnjbnlfpopgaaMapB
import Derived.Test.YtgmnjbnlfpopgaaM5
import Derived.BigRegion
import Derived.Deep.RegionLaw
/-!
leaf.pile: numbers, and where each one stands.
-/
namespace Go.Proofs.Ytgmnjbnlfpopgaa
open Go.RowKit Go.Proofs.Dm

def plv (i : Nat) : Value := .agg #[.int .i64 (i : Int)]
/-- The map tells of each number where it stands. -/
def Wh (m : List (Int × Value)) (L : List Int) : Prop := (∀ i, i < L.length → ∃ j, fidx m (L.getD i 0) = some j ∧ m[j]? = some (L.getD i 0, plv i)) ∧ (∀ k, k ∉ L → fidx m k = none) ∧ (m.map (·.1)).Nodup
/-- A queue behind g: its numbers as they lie; its map is r. -/
def PAt (U : Nat → Prop) (w0 w : World) (g r : Nat) (L : List Int) : Prop :=
  FrU U w0 w ∧ ¬ U g ∧ ¬ U r ∧ g ≠ r ∧ L.Nodup ∧ L.length ≤ 1000000 ∧ ∃ (A : Option Addr) (cap : Nat) (m : List (Int × Value)) (bs : List Nat) (c : Nat),
    Blk w g 61 #[.slice A L.length cap, .map (some r)] ∧ IRow w 3 A cap L ∧ (bk A ≠ some g ∧ bk A ≠ some r ∧ ∀ j, bk A = some j → ¬ U j) ∧ MapB w r m bs c ∧ Wh m L
theorem PAt.grow {U : Nat → Prop} {w0 w w' : World} {g r : Nat} {L : List Int} (h : PAt U w0 w g r L) (hf : Fr [] w w') : PAt U w0 w' g r L := by
  obtain ⟨h1, h2, h3, h4, h5, h6, A, cap, m, bs, c, k1, k2, k3, k4, k5⟩ := h
  exact ⟨h1.trans hf, h2, h3, h4, h5, h6, A, cap, m, bs, c, k1.fr hf (by simp), k2.fr hf (.inr List.not_mem_nil), k3, k4.fr hf (by simp), k5⟩
theorem plen_at (U : Nat → Prop) (w0 w : World) (g r : Nat) (L : List Int) (h : PAt U w0 w g r L) :
    Calls Try.prog 94 #[.pointer (some ⟨g, 0, none⟩)] w fun e w' => e = .returned (.int .i64 L.length) ∧ PAt U w0 w' g r L := by
  have h' := h
  obtain ⟨h1, h2, h3, h4, h5, h6, A, cap, m, bs, c, k1, k2, k3, k4, k5⟩ := h
  have c0 : w.cell? ⟨g, 0, none⟩ = some (.slice A L.length cap) := k1.cell 0
  go_enter Try.func94, Try.ntmps94
  go_wp2
  go_ret
  exact ⟨rfl, h'⟩
theorem ints_ne {L : List Int} {i : Nat} (h : i < L.length) : ints L ≠ [] := by
  intro e
  have := ints_len' L
  rw [e] at this; simp at this; omega
theorem pless_at (U : Nat → Prop) (w0 w : World) (g r : Nat) (L : List Int) (h : PAt U w0 w g r L) (i j : Nat) (hi : i < L.length) (hj : j < L.length) :
    Calls Try.prog 95 #[.pointer (some ⟨g, 0, none⟩), .int .i64 i, .int .i64 j] w fun e w' => e = .returned (.bool (decide (L.getD i 0 < L.getD j 0))) ∧ PAt U w0 w' g r L := by
  have h' := h
  obtain ⟨h1, h2, h3, h4, h5, h6, A, cap, m, bs, c, k1, k2, k3, k4, k5⟩ := h
  obtain ⟨b, rfl⟩ := orow_some k2 (ints_ne hi)
  have c0 : w.cell? ⟨g, 0, none⟩ = some (.slice (some ⟨b, 0, none⟩) L.length cap) := k1.cell 0
  have r1 : w.cell? ⟨b, i, none⟩ = some (.int .i64 (L.getD i 0)) := by rw [World.ownsRow.cellAt k2 _ (by omega), ints_get _ _ hi]; simp [List.getD_eq_getElem?_getD, hi]
  have r2 : w.cell? ⟨b, j, none⟩ = some (.int .i64 (L.getD j 0)) := by rw [World.ownsRow.cellAt k2 _ (by omega), ints_get _ _ hj]; simp [List.getD_eq_getElem?_getD, hj]
  obtain ⟨x, hx⟩ : ∃ x, x = L.getD i 0 := ⟨_, rfl⟩
  obtain ⟨y, hy⟩ : ∃ y, y = L.getD j 0 := ⟨_, rfl⟩
  rw [← hx] at r1 ⊢
  rw [← hy] at r2 ⊢
  have HP := Lib.hid h'
  clear h' hx hy h1 h2 h3 h4 h5 k1 k2 k3 k4 k5
  go_enter Try.func95, Try.ntmps95
  go_wp2_with fail
  go_quiet (fail)
  go_wp2
  go_ret
  exact ⟨rfl, HP.out.grow ((Fr.refl [] w).drewN _)⟩
end Go.Proofs.Ytgmnjbnlfpopgaa
