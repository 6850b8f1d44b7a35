import Derived.Test.YtblafakafgediaaGreatW52
namespace Go.Proofs.YtblafakafgediaaGreat
open Go.RowKit Go.Proofs.Dm

set_option maxRecDepth 100000 in
set_option maxHeartbeats 6400000 in
theorem right29_b (w : World) (t l h x : Int) (b : Bool) (hr : (1 ≤ h ∧ h ≤ 400 ∧ 1 ≤ x ∧ decide (x ≤ 40) = false ∧ b = false) ∨ (1 ≤ h ∧ h ≤ 400 ∧ 1 ≤ x ∧ x ≤ 40 ∧ decide (0 ≤ t) = false ∧ b = false) ∨ (1 ≤ h ∧ h ≤ 400 ∧ 1 ≤ x ∧ x ≤ 40 ∧ 0 ≤ t ∧ decide (t ≤ 1099511627776) = false ∧ b = false) ∨ (1 ≤ h ∧ h ≤ 400 ∧ 1 ≤ x ∧ x ≤ 40 ∧ 0 ≤ t ∧ t ≤ 1099511627776 ∧ decide (0 ≤ l) = false ∧ b = false) ∨ (1 ≤ h ∧ h ≤ 400 ∧ 1 ≤ x ∧ x ≤ 40 ∧ 0 ≤ t ∧ t ≤ 1099511627776 ∧ 0 ≤ l ∧ decide (l ≤ 1099511627776) = false ∧ b = false)) :
    Calls Tryz.prog 12 #[.agg #[.int .i64 t, .int .i64 l, .int .i64 h, .int .i64 x]] w fun e w' => e = .returned (.tuple #[.agg #[.int .i64 t, .int .i64 l, .int .i64 h, .int .i64 x], .agg #[.int .i64 t, .int .i64 l, .int .i64 h, .int .i64 x], .bool b]) ∧ Fr [] w w' := by
  obtain ⟨W1, hW1⟩ : ∃ W1, W1 = (((w.alloc (.cells #[.int .i64 t, .int .i64 l, .int .i64 h, .int .i64 x] 24)).alloc (.cells #[.int .i64 0, .int .i64 0, .int .i64 0, .int .i64 0] 40)).alloc (.cells #[.int .i64 0, .int .i64 0, .int .i64 0, .int .i64 0] 24)).alloc (.cells #[.int .i64 t, .int .i64 l, .int .i64 h, .int .i64 x] 40) := ⟨_, rfl⟩
  have HW : Hid (Fr [] w W1 ∧ Blk W1 w.heap.size 24 #[.int .i64 t, .int .i64 l, .int .i64 h, .int .i64 x] ∧ Blk W1 (w.heap.size + 1) 40 #[.int .i64 0, .int .i64 0, .int .i64 0, .int .i64 0] ∧ Blk W1 (w.heap.size + 1 + 1) 24 #[.int .i64 0, .int .i64 0, .int .i64 0, .int .i64 0] ∧ Blk W1 (w.heap.size + 1 + 1 + 1) 40 #[.int .i64 t, .int .i64 l, .int .i64 h, .int .i64 x]) := by
    have b1 := ((Blk.new (w.alloc (.cells #[.int .i64 t, .int .i64 l, .int .i64 h, .int .i64 x] 24)) 40 #[.int .i64 0, .int .i64 0, .int .i64 0, .int .i64 0]).alloc (.cells #[.int .i64 0, .int .i64 0, .int .i64 0, .int .i64 0] 24)).alloc (.cells #[.int .i64 t, .int .i64 l, .int .i64 h, .int .i64 x] 40)
    have b2 := (Blk.new ((w.alloc (.cells #[.int .i64 t, .int .i64 l, .int .i64 h, .int .i64 x] 24)).alloc (.cells #[.int .i64 0, .int .i64 0, .int .i64 0, .int .i64 0] 40)) 24 #[.int .i64 0, .int .i64 0, .int .i64 0, .int .i64 0]).alloc (.cells #[.int .i64 t, .int .i64 l, .int .i64 h, .int .i64 x] 40)
    have b3 := Blk.new (((w.alloc (.cells #[.int .i64 t, .int .i64 l, .int .i64 h, .int .i64 x] 24)).alloc (.cells #[.int .i64 0, .int .i64 0, .int .i64 0, .int .i64 0] 40)).alloc (.cells #[.int .i64 0, .int .i64 0, .int .i64 0, .int .i64 0] 24)) 40 #[.int .i64 t, .int .i64 l, .int .i64 h, .int .i64 x]
    simp only [World.size_alloc] at b1 b2 b3
    rw [← hW1] at b1 b2 b3
    exact ⟨by rw [hW1]; exact ((((Fr.refl [] w).alloc _).alloc _).alloc _).alloc _, by rw [hW1]; exact (((Blk.new w _ _).alloc _).alloc _).alloc _, b1, b2, b3⟩
  obtain ⟨V5, hV5⟩ : ∃ V5, V5 = w.heap.size + 1 + 1 + 1 := ⟨_, rfl⟩
  obtain ⟨R3, hR3⟩ : ∃ R3, R3 = w.heap.size + 1 + 1 := ⟨_, rfl⟩
  obtain ⟨R2, hR2⟩ : ∃ R2, R2 = w.heap.size + 1 := ⟨_, rfl⟩
  obtain ⟨X1, hX1⟩ : ∃ X1, X1 = w.heap.size := ⟨_, rfl⟩
  have HNB : Hid (V5 = w.heap.size + 1 + 1 + 1 ∧ R3 = w.heap.size + 1 + 1 ∧ R2 = w.heap.size + 1 ∧ X1 = w.heap.size) := ⟨hV5, hR3, hR2, hX1⟩
  rw [← hV5] at HW
  rw [← hR3] at HW
  rw [← hR2] at HW
  rw [← hX1] at HW
  have HW1 := Lib.hid hW1
  clear hW1
  go_enter Tryz.func12, Tryz.ntmps12
  go_wp2_with fail
  rw [← HW1.out, ← hV5, ← hR3, ← hR2, ← hX1]
  clear hV5 hR3 hR2 hX1
  obtain ⟨_, k1, k2, k3, k4⟩ := HW.out
  have a0 : W1.cell? ⟨X1, 0, none⟩ = some (.int .i64 t) := k1.cell 0
  have a1 : W1.cell? ⟨X1, 1, none⟩ = some (.int .i64 l) := k1.cell 1
  have a2 : W1.cell? ⟨X1, 2, none⟩ = some (.int .i64 h) := k1.cell 2
  have a3 : W1.cell? ⟨X1, 3, none⟩ = some (.int .i64 x) := k1.cell 3
  have v0 : W1.cell? ⟨V5, 0, none⟩ = some (.int .i64 t) := k4.cell 0
  have v1 : W1.cell? ⟨V5, 1, none⟩ = some (.int .i64 l) := k4.cell 1
  have v2 : W1.cell? ⟨V5, 2, none⟩ = some (.int .i64 h) := k4.cell 2
  have v3 : W1.cell? ⟨V5, 3, none⟩ = some (.int .i64 x) := k4.cell 3
  have p0 : W1.cell? ⟨R2, 0, none⟩ = some (.int .i64 0) := k2.cell 0
  have pz0 := k2.frozen 0
  have p1 : W1.cell? ⟨R2, 1, none⟩ = some (.int .i64 0) := k2.cell 1
  have pz1 := k2.frozen 1
  have p2 : W1.cell? ⟨R2, 2, none⟩ = some (.int .i64 0) := k2.cell 2
  have pz2 := k2.frozen 2
  have p3 : W1.cell? ⟨R2, 3, none⟩ = some (.int .i64 0) := k2.cell 3
  have pz3 := k2.frozen 3
  have q0 : W1.cell? ⟨R3, 0, none⟩ = some (.int .i64 0) := k3.cell 0
  have qz0 := k3.frozen 0
  have q1 : W1.cell? ⟨R3, 1, none⟩ = some (.int .i64 0) := k3.cell 1
  have qz1 := k3.frozen 1
  have q2 : W1.cell? ⟨R3, 2, none⟩ = some (.int .i64 0) := k3.cell 2
  have qz2 := k3.frozen 2
  have q3 : W1.cell? ⟨R3, 3, none⟩ = some (.int .i64 0) := k3.cell 3
  have qz3 := k3.frozen 3
  have lp := k2.lt
  have lq := k3.lt
  clear k1 k2 k3 k4
  have n1 : ¬ R2 = R3 := by have := HNB.out; omega
  have n2 : ¬ R3 = R2 := fun e => n1 e.symm
  have n3 : ¬ X1 = R2 := by have := HNB.out; omega
  have n4 : ¬ X1 = R3 := by have := HNB.out; omega
  have n5 : ¬ V5 = R2 := by have := HNB.out; omega
  have n6 : ¬ V5 = R3 := by have := HNB.out; omega
  have HX : Hid ((R2 < w.heap.size → some R2 ∈ ([] : List (Option Nat))) ∧ (R3 < w.heap.size → some R3 ∈ ([] : List (Option Nat))) ∧ Fr [] w W1) := ⟨fun h => absurd h (by have := HNB.out; omega), fun h => absurd h (by have := HNB.out; omega), HW.out.1⟩
  rcases hr with ⟨c0, c1, c2, c3, rfl⟩ | ⟨c0, c1, c2, c3, c4, rfl⟩ | ⟨c0, c1, c2, c3, c4, c5, rfl⟩ | ⟨c0, c1, c2, c3, c4, c5, c6, rfl⟩ | ⟨c0, c1, c2, c3, c4, c5, c6, c7, rfl⟩
  all_goals go_region
  all_goals go_wp2_with fail
  all_goals (refine bodyPost_ret (v := .tuple #[.agg #[.int .i64 t, .int .i64 l, .int .i64 h, .int .i64 x], .agg #[.int .i64 t, .int .i64 l, .int .i64 h, .int .i64 x], .bool _]) (by simp [results, Tryz.results12, go_sem, *] <;> rfl) rfl ?_)
  all_goals exact ⟨rfl, ((((((((HX.out.2.2.setB HX.out.1 _ _).setB HX.out.1 _ _).setB HX.out.1 _ _).setB HX.out.1 _ _).setB HX.out.2.1 _ _).setB HX.out.2.1 _ _).setB HX.out.2.1 _ _).setB HX.out.2.1 _ _).drew⟩
theorem right29_any (w : World) (t l h x : Int) :
    Calls Tryz.prog 12 #[.agg #[.int .i64 t, .int .i64 l, .int .i64 h, .int .i64 x]] w fun e w' => e = .returned (.tuple #[.agg #[.int .i64 t, .int .i64 l, .int .i64 h, .int .i64 x], .agg #[.int .i64 t, .int .i64 l, .int .i64 h, .int .i64 x], .bool (decide (RightV t l h x))]) ∧ Fr [] w w' := by
  by_cases hr : RightV t l h x
  · rw [decide_eq_true hr]
    obtain ⟨c1, c2, c3, c4, c5, c6, c7, c8⟩ := hr
    exact right29_a w t l h x true (.inl ⟨c1, c2, c3, c4, c5, c6, c7, c8, rfl⟩)
  · rw [decide_eq_false hr]
    rcases of_firstV hr with h1 | ⟨h1, h2⟩ | ⟨h1, h2, h3⟩ | ⟨h1, h2, h3, h4⟩ | ⟨h1, h2, h3, h4, h5⟩ | ⟨h1, h2, h3, h4, h5, h6⟩ | ⟨h1, h2, h3, h4, h5, h6, h7⟩ | ⟨h1, h2, h3, h4, h5, h6, h7, h8⟩
    · exact right29_a w t l h x false (.inr (.inl ⟨decide_eq_false h1, rfl⟩))
    · exact right29_a w t l h x false (.inr (.inr (.inl ⟨h1, decide_eq_false h2, rfl⟩)))
    · exact right29_a w t l h x false (.inr (.inr (.inr ⟨h1, h2, decide_eq_false h3, rfl⟩)))
    · exact right29_b w t l h x false (.inl ⟨h1, h2, h3, decide_eq_false h4, rfl⟩)
    · exact right29_b w t l h x false (.inr (.inl ⟨h1, h2, h3, h4, decide_eq_false h5, rfl⟩))
    · exact right29_b w t l h x false (.inr (.inr (.inl ⟨h1, h2, h3, h4, h5, decide_eq_false h6, rfl⟩)))
    · exact right29_b w t l h x false (.inr (.inr (.inr (.inl ⟨h1, h2, h3, h4, h5, h6, decide_eq_false h7, rfl⟩))))
    · exact right29_b w t l h x false (.inr (.inr (.inr (.inr ⟨h1, h2, h3, h4, h5, h6, h7, decide_eq_false h8, rfl⟩))))
/-- A place whose numbers are small. -/
def SmallP (r c : Int) : Prop := -1099511627776 ≤ r ∧ r ≤ 1099511627776 ∧ -1099511627776 ≤ c ∧ c ≤ 1099511627776
instance (r c : Int) : Decidable (SmallP r c) := by unfold SmallP; infer_instance
set_option maxHeartbeats 1600000 in
theorem small29_any (w : World) (r c : Int) :
    Calls Tryz.prog 13 #[.agg #[.int .i64 r, .int .i64 c]] w fun e w' => e = .returned (.bool (decide (SmallP r c))) ∧ Fr [] w w' := by
  have HF : Hid (∀ o : Obj, Fr [] w (w.alloc o)) := fun o => (Fr.refl [] w).alloc _
  have key : SmallP r c ∨ ¬ -1099511627776 ≤ r ∨ (-1099511627776 ≤ r ∧ ¬ r ≤ 1099511627776) ∨ (-1099511627776 ≤ r ∧ r ≤ 1099511627776 ∧ ¬ -1099511627776 ≤ c) ∨ (-1099511627776 ≤ r ∧ r ≤ 1099511627776 ∧ -1099511627776 ≤ c ∧ ¬ c ≤ 1099511627776) := by
    unfold SmallP
    omega
  rcases key with hs | h1 | ⟨h1, h2⟩ | ⟨h1, h2, h3⟩ | ⟨h1, h2, h3, h4⟩
  · rw [decide_eq_true hs]
    obtain ⟨h1, h2, h3, h4⟩ := hs
    go_enter Tryz.func13, Tryz.ntmps13
    go_wp2_with fail
    go_ret
    exact ⟨rfl, HF.out _⟩
  all_goals rw [decide_eq_false (by unfold SmallP; omega)]
  all_goals go_enter Tryz.func13, Tryz.ntmps13
  all_goals go_wp2_with fail
  all_goals go_ret
  all_goals exact ⟨rfl, HF.out _⟩
end Go.Proofs.YtblafakafgediaaGreat
