import Derived.Test.YthhkannmeljfkaaX1
import Derived.Laws.RangeString
import Derived.LoopTactic
namespace Go.Proofs.Ythhkannmeljfkaa
open Go.RowKit Go.Proofs.Dm

/-- Is a number one of the first letters? -/
def wantB (v : Int) (q : Nat) : Bool := v == 26471 || (sMotions.data.toList.take q).any fun c => v == (c.toNat : Int)

theorem wantB_succ (v : Int) (q : Nat) (h : q < sMotions.size) : wantB v (q + 1) = (wantB v q || v == ((sMotions[q]'h).toNat : Int)) := by
  unfold wantB
  rw [List.take_succ_eq_append_getElem (i := q) (by simpa using h)]
  simp only [List.any_append, List.any_cons, List.any_nil, Bool.or_false, Bool.or_assoc]
  rfl
set_option maxRecDepth 100000 in
theorem want_small : ∀ n : Nat, n < 127 → movesB n = wantB n 15 := by decide +kernel
theorem want_far (v : Int) (h : v < 0 ∨ 127 ≤ v) : movesB v = wantB v 15 := by
  have h1 : amongB v sMotions = false := by
    simp only [amongB]
    rcases h with h | h
    · have : ¬ 32 < v := by omega
      simp [this]
    · have : ¬ v < 127 := by omega
      simp [this]
  have h2 : (sMotions.data.toList.take 15).any (fun c => v == (c.toNat : Int)) = false := by
    simp [sMotions]
    omega
  simp [movesB, wantB, h1, h2]
theorem want_moves (v : Int) : movesB v = wantB v 15 := by
  by_cases h : v < 0 ∨ 127 ≤ v
  · exact want_far v h
  · obtain ⟨n, rfl⟩ : ∃ n : Nat, v = n := ⟨v.toNat, by omega⟩
    exact want_small n (by omega)
theorem sm_low : ∀ q (h : q < sMotions.size), (sMotions[q]'h).toNat < 128 := by decide

set_option maxRecDepth 100000 in
set_option maxHeartbeats 1600000 in
theorem moves_walk (v k : Int) (w : World) : Calls Try.prog 5 #[.int .i64 v, .int .i64 k] w fun e w' => e = .returned (.bool true) ∧ Fr [] w w' := by
  go_enter Try.func5, Try.ntmps5
  go_wp2_with fail
  refine (reset_nil w).mono ?_
  rintro e w1 ⟨rfl, rfl⟩
  go_wp2_with fail
  refine (key_nil k 0 false _).mono ?_
  rintro e w1 ⟨rfl, hf1⟩
  have hC := Blk.new w1 26 #[.int .i64 0, .int .i64 0, .int .i64 0, .int .i64 0, .int .i64 0]
  have hF : Fr [] w (w1.alloc (.cells #[.int .i64 0, .int .i64 0, .int .i64 0, .int .i64 0, .int .i64 0] 26)) := hf1.alloc _
  clear hf1
  have hv0 : (v == 26471) = wantB v 0 := by simp [wantB]
  go_wp2_with fail
  obtain ⟨wA, hwA⟩ : ∃ wA, wA = (w1.alloc (.cells #[.int .i64 0, .int .i64 0, .int .i64 0, .int .i64 0, .int .i64 0] 26)) := ⟨_, rfl⟩
  have hsA : wA.heap.size = w1.heap.size + 1 := by rw [hwA]; simp
  rw [← hwA] at hC hF ⊢
  clear hwA
  go_loopw [9, 11] (fun b _ wr => ∃ q : Nat, q ≤ 15 ∧ wr = wA.iter sMotions q ∧ b = .bool (wantB v q)) (fun _ _ wr => 15 - wr.iterPos wA.heap.size)
  case atStart => exact ⟨0, by omega, rfl, rfl⟩
  case round =>
    obtain ⟨q, hq, rfl, rfl⟩ := hrel
    by_cases hp : q < sMotions.size
    · have hnx := fun ty => run_next_ascii (P := Try.prog) wA sMotions q ty hp (sm_low q hp)
      simp only [hsA] at hnx
      have hl := sm_low q hp
      have hsu := Lib.hid (wantB_succ v q hp)
      obtain ⟨x, hx⟩ : ∃ x, x = (sMotions[q]'hp).toNat := ⟨_, rfl⟩
      rw [← hx] at hnx hl hsu
      have hp' : q < 15 := hp
      clear hx
      by_cases hb : wantB v q = true
      · rw [hb] at hsu ⊢
        go_wp2
        go_roundw
        case rel =>
          refine ⟨q + 1, by omega, rfl, ?_⟩
          rw [hsu.out]; rfl
        case measure => simp; omega
      · have hb' : wantB v q = false := by simpa using hb
        rw [hb'] at hsu ⊢
        clear hb hb'
        go_wp2
        go_roundw
        case rel =>
          refine ⟨q + 1, by omega, rfl, ?_⟩
          rw [hsu.out]; simp
        case measure => simp; omega
    · obtain rfl : q = 15 := by have h15 : sMotions.size = 15 := rfl; omega
      have hnx := fun ty => run_next_end (P := Try.prog) wA sMotions 15 ty (by decide)
      simp only [hsA] at hnx
      have hC2 : Blk (wA.iter sMotions 15) w1.heap.size 26 _ := hC.alloc _
      have hF2 : Fr [] w (wA.iter sMotions 15) := hF.alloc _
      go_wp2_with fail
      refine (moves_any v _).mono ?_
      rintro ee w5 ⟨rfl, rfl⟩
      rw [want_moves]
      have m0 : (wA.iter sMotions 15).cell? ⟨w1.heap.size, 0, none⟩ = some (.int .i64 0) := hC2.cell 0
      have m1 : (wA.iter sMotions 15).cell? ⟨w1.heap.size, 1, none⟩ = some (.int .i64 0) := hC2.cell 1
      have m2 : (wA.iter sMotions 15).cell? ⟨w1.heap.size, 2, none⟩ = some (.int .i64 0) := hC2.cell 2
      have m3 : (wA.iter sMotions 15).cell? ⟨w1.heap.size, 3, none⟩ = some (.int .i64 0) := hC2.cell 3
      have m4 : (wA.iter sMotions 15).cell? ⟨w1.heap.size, 4, none⟩ = some (.int .i64 0) := hC2.cell 4
      clear hC hF
      go_wp2_with fail
      refine (pending_nil _).mono ?_
      rintro ee w5 ⟨rfl, rfl⟩
      go_wp2_with fail
      refine (awake_yes _).mono ?_
      rintro ee w5 ⟨rfl, hf5⟩
      go_wp2
      go_ret
      exact ⟨rfl, hF2.trans hf5⟩
end Go.Proofs.Ythhkannmeljfkaa
