import Derived.Test.YtblafakafgediaaGreatW48
import Derived.BigRegion
namespace Go.Proofs.YtblafakafgediaaGreat
open Go.RowKit Go.Proofs.Dm

/-- A view of which statements ask. -/
def RightV (t l h x : Int) : Prop := 1 ≤ h ∧ h ≤ 400 ∧ 1 ≤ x ∧ x ≤ 40 ∧ 0 ≤ t ∧ t ≤ 1099511627776 ∧ 0 ≤ l ∧ l ≤ 1099511627776
instance (t l h x : Int) : Decidable (RightV t l h x) := by unfold RightV; infer_instance
theorem of_firstV {t l h x : Int} (hn : ¬ RightV t l h x) : ¬ 1 ≤ h ∨ (1 ≤ h ∧ ¬ h ≤ 400) ∨ (1 ≤ h ∧ h ≤ 400 ∧ ¬ 1 ≤ x) ∨ (1 ≤ h ∧ h ≤ 400 ∧ 1 ≤ x ∧ ¬ x ≤ 40) ∨ (1 ≤ h ∧ h ≤ 400 ∧ 1 ≤ x ∧ x ≤ 40 ∧ ¬ 0 ≤ t) ∨ (1 ≤ h ∧ h ≤ 400 ∧ 1 ≤ x ∧ x ≤ 40 ∧ 0 ≤ t ∧ ¬ t ≤ 1099511627776) ∨ (1 ≤ h ∧ h ≤ 400 ∧ 1 ≤ x ∧ x ≤ 40 ∧ 0 ≤ t ∧ t ≤ 1099511627776 ∧ ¬ 0 ≤ l) ∨ (1 ≤ h ∧ h ≤ 400 ∧ 1 ≤ x ∧ x ≤ 40 ∧ 0 ≤ t ∧ t ≤ 1099511627776 ∧ 0 ≤ l ∧ ¬ l ≤ 1099511627776) := by
  unfold RightV at hn
  omega
set_option maxRecDepth 100000 in
set_option maxHeartbeats 6400000 in
theorem right29_a (w : World) (t l h x : Int) (b : Bool) (hr : (1 ≤ h ∧ h ≤ 400 ∧ 1 ≤ x ∧ x ≤ 40 ∧ 0 ≤ t ∧ t ≤ 1099511627776 ∧ 0 ≤ l ∧ l ≤ 1099511627776 ∧ b = true) ∨ (decide (1 ≤ h) = false ∧ b = false) ∨ (1 ≤ h ∧ decide (h ≤ 400) = false ∧ b = false) ∨ (1 ≤ h ∧ h ≤ 400 ∧ decide (1 ≤ x) = false ∧ b = false)) :
    Calls Tryz.prog 12 #[.agg #[.int .i64 t, .int .i64 l, .int .i64 h, .int .i64 x]] w fun e w' => e = .returned (.tuple #[.agg #[.int .i64 t, .int .i64 l, .int .i64 h, .int .i64 x], .agg #[.int .i64 t, .int .i64 l, .int .i64 h, .int .i64 x], .bool b]) ∧ Fr [] w w' := by
  obtain ⟨W1, hW1⟩ : ∃ W1, W1 = (((w.alloc (.cells #[.int .i64 t, .int .i64 l, .int .i64 h, .int .i64 x] 24)).alloc (.cells #[.int .i64 0, .int .i64 0, .int .i64 0, .int .i64 0] 40)).alloc (.cells #[.int .i64 0, .int .i64 0, .int .i64 0, .int .i64 0] 24)).alloc (.cells #[.int .i64 t, .int .i64 l, .int .i64 h, .int .i64 x] 40) := ⟨_, rfl⟩
  have HW : Hid (Fr [] w W1 ∧ Blk W1 w.heap.size 24 #[.int .i64 t, .int .i64 l, .int .i64 h, .int .i64 x] ∧ Blk W1 (w.heap.size + 1) 40 #[.int .i64 0, .int .i64 0, .int .i64 0, .int .i64 0] ∧ Blk W1 (w.heap.size + 1 + 1) 24 #[.int .i64 0, .int .i64 0, .int .i64 0, .int .i64 0] ∧ Blk W1 (w.heap.size + 1 + 1 + 1) 40 #[.int .i64 t, .int .i64 l, .int .i64 h, .int .i64 x]) := by
    have b1 := ((Blk.new (w.alloc (.cells #[.int .i64 t, .int .i64 l, .int .i64 h, .int .i64 x] 24)) 40 #[.int .i64 0, .int .i64 0, .int .i64 0, .int .i64 0]).alloc (.cells #[.int .i64 0, .int .i64 0, .int .i64 0, .int .i64 0] 24)).alloc (.cells #[.int .i64 t, .int .i64 l, .int .i64 h, .int .i64 x] 40)
    have b2 := (Blk.new ((w.alloc (.cells #[.int .i64 t, .int .i64 l, .int .i64 h, .int .i64 x] 24)).alloc (.cells #[.int .i64 0, .int .i64 0, .int .i64 0, .int .i64 0] 40)) 24 #[.int .i64 0, .int .i64 0, .int .i64 0, .int .i64 0]).alloc (.cells #[.int .i64 t, .int .i64 l, .int .i64 h, .int .i64 x] 40)
    have b3 := Blk.new (((w.alloc (.cells #[.int .i64 t, .int .i64 l, .int .i64 h, .int .i64 x] 24)).alloc (.cells #[.int .i64 0, .int .i64 0, .int .i64 0, .int .i64 0] 40)).alloc (.cells #[.int .i64 0, .int .i64 0, .int .i64 0, .int .i64 0] 24)) 40 #[.int .i64 t, .int .i64 l, .int .i64 h, .int .i64 x]
    simp only [World.size_alloc] at b1 b2 b3
    rw [← hW1] at b1 b2 b3
    exact ⟨by rw [hW1]; exact ((((Fr.refl [] w).alloc _).alloc _).alloc _).alloc _, by rw [hW1]; exact (((Blk.new w _ _).alloc _).alloc _).alloc _, b1, b2, b3⟩
  obtain ⟨V5, hV5⟩ : ∃ V5, V5 = w.heap.size + 1 + 1 + 1 := ⟨_, rfl⟩
  obtain ⟨R3, hR3⟩ : ∃ R3, R3 = w.heap.size + 1 + 1 := ⟨_, rfl⟩
  obtain ⟨R2, hR2⟩ : ∃ R2, R2 = w.heap.size + 1 := ⟨_, rfl⟩
  obtain ⟨X1, hX1⟩ : ∃ X1, X1 = w.heap.size := ⟨_, rfl⟩
  have HNB : Hid (V5 = w.heap.size + 1 + 1 + 1 ∧ R3 = w.heap.size + 1 + 1 ∧ R2 = w.heap.size + 1 ∧ X1 = w.heap.size) := ⟨hV5, hR3, hR2, hX1⟩
  rw [← hV5] at HW
  rw [← hR3] at HW
  rw [← hR2] at HW
  rw [← hX1] at HW
  have HW1 := Lib.hid hW1
  clear hW1
  go_enter Tryz.func12, Tryz.ntmps12
  go_wp2_with fail
  rw [← HW1.out, ← hV5, ← hR3, ← hR2, ← hX1]
  clear hV5 hR3 hR2 hX1
  obtain ⟨_, k1, k2, k3, k4⟩ := HW.out
  have a0 : W1.cell? ⟨X1, 0, none⟩ = some (.int .i64 t) := k1.cell 0
  have a1 : W1.cell? ⟨X1, 1, none⟩ = some (.int .i64 l) := k1.cell 1
  have a2 : W1.cell? ⟨X1, 2, none⟩ = some (.int .i64 h) := k1.cell 2
  have a3 : W1.cell? ⟨X1, 3, none⟩ = some (.int .i64 x) := k1.cell 3
  have v0 : W1.cell? ⟨V5, 0, none⟩ = some (.int .i64 t) := k4.cell 0
  have v1 : W1.cell? ⟨V5, 1, none⟩ = some (.int .i64 l) := k4.cell 1
  have v2 : W1.cell? ⟨V5, 2, none⟩ = some (.int .i64 h) := k4.cell 2
  have v3 : W1.cell? ⟨V5, 3, none⟩ = some (.int .i64 x) := k4.cell 3
  have p0 : W1.cell? ⟨R2, 0, none⟩ = some (.int .i64 0) := k2.cell 0
  have pz0 := k2.frozen 0
  have p1 : W1.cell? ⟨R2, 1, none⟩ = some (.int .i64 0) := k2.cell 1
  have pz1 := k2.frozen 1
  have p2 : W1.cell? ⟨R2, 2, none⟩ = some (.int .i64 0) := k2.cell 2
  have pz2 := k2.frozen 2
  have p3 : W1.cell? ⟨R2, 3, none⟩ = some (.int .i64 0) := k2.cell 3
  have pz3 := k2.frozen 3
  have q0 : W1.cell? ⟨R3, 0, none⟩ = some (.int .i64 0) := k3.cell 0
  have qz0 := k3.frozen 0
  have q1 : W1.cell? ⟨R3, 1, none⟩ = some (.int .i64 0) := k3.cell 1
  have qz1 := k3.frozen 1
  have q2 : W1.cell? ⟨R3, 2, none⟩ = some (.int .i64 0) := k3.cell 2
  have qz2 := k3.frozen 2
  have q3 : W1.cell? ⟨R3, 3, none⟩ = some (.int .i64 0) := k3.cell 3
  have qz3 := k3.frozen 3
  have lp := k2.lt
  have lq := k3.lt
  clear k1 k2 k3 k4
  have n1 : ¬ R2 = R3 := by have := HNB.out; omega
  have n2 : ¬ R3 = R2 := fun e => n1 e.symm
  have n3 : ¬ X1 = R2 := by have := HNB.out; omega
  have n4 : ¬ X1 = R3 := by have := HNB.out; omega
  have n5 : ¬ V5 = R2 := by have := HNB.out; omega
  have n6 : ¬ V5 = R3 := by have := HNB.out; omega
  have HX : Hid ((R2 < w.heap.size → some R2 ∈ ([] : List (Option Nat))) ∧ (R3 < w.heap.size → some R3 ∈ ([] : List (Option Nat))) ∧ Fr [] w W1) := ⟨fun h => absurd h (by have := HNB.out; omega), fun h => absurd h (by have := HNB.out; omega), HW.out.1⟩
  rcases hr with ⟨c0, c1, c2, c3, c4, c5, c6, c7, rfl⟩ | ⟨c0, rfl⟩ | ⟨c0, c1, rfl⟩ | ⟨c0, c1, c2, rfl⟩
  all_goals go_region
  all_goals go_wp2_with fail
  all_goals (refine bodyPost_ret (v := .tuple #[.agg #[.int .i64 t, .int .i64 l, .int .i64 h, .int .i64 x], .agg #[.int .i64 t, .int .i64 l, .int .i64 h, .int .i64 x], .bool _]) (by simp [results, Tryz.results12, go_sem, *] <;> rfl) rfl ?_)
  all_goals exact ⟨rfl, ((((((((HX.out.2.2.setB HX.out.1 _ _).setB HX.out.1 _ _).setB HX.out.1 _ _).setB HX.out.1 _ _).setB HX.out.2.1 _ _).setB HX.out.2.1 _ _).setB HX.out.2.1 _ _).setB HX.out.2.1 _ _).drew⟩
end Go.Proofs.YtblafakafgediaaGreat
