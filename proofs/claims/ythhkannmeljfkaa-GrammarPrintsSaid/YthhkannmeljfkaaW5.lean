import Derived.Test.YthhkannmeljfkaaW4
import Derived.Deep.DeepCutAuto
namespace Go.Proofs.Ythhkannmeljfkaa
open Go.RowKit Go.Proofs.Dm

def P0 : PS := ⟨0, 0, 0, 0, 0, 0, 0, false, false⟩
theorem reset_nil (w : World) : Calls Try.prog 13 #[.pointer none] w fun e w' => e = .returned (.tuple #[]) ∧ w = w' := by
  go_enter Try.func13, Try.ntmps13
  go_wp2
  go_end0
  exact ⟨rfl, rfl⟩
set_option maxHeartbeats 800000 in
theorem reset_any (g : Nat) (L : Value) (hL : L.oneCell' = true) (op verb count reg char digits : Int) (st : Nat) (vis rc : Bool) (w : World) (hb : Blk w g 52 (pc ⟨op, verb, count, reg, char, digits, st, vis, rc⟩ L)) :
    Calls Try.prog 13 #[.pointer (some ⟨g, 0, none⟩)] w fun e w' => e = .returned (.tuple #[]) ∧ Blk w' g 52 (pc P0 (.slice none 0 0)) ∧ Fr [some g] w w' := by
  have c0 : w.cell? ⟨g, 0, none⟩ = some (.int .i64 op) := hb.cell 0
  have c1 : w.cell? ⟨g, 1, none⟩ = some (.int .i64 verb) := hb.cell 1
  have c2 : w.cell? ⟨g, 2, none⟩ = some (.int .i64 count) := hb.cell 2
  have c3 : w.cell? ⟨g, 3, none⟩ = some (.int .i64 reg) := hb.cell 3
  have c4 : w.cell? ⟨g, 4, none⟩ = some (.int .i64 char) := hb.cell 4
  have c5 : w.cell? ⟨g, 5, none⟩ = some (.int .i64 digits) := hb.cell 5
  have c6 : w.cell? ⟨g, 6, none⟩ = some L := hb.cell 6
  have c7 : w.cell? ⟨g, 7, none⟩ = some (stV st) := hb.cell 7
  have c8 : w.cell? ⟨g, 8, none⟩ = some (.bool vis) := hb.cell 8
  have c9 : w.cell? ⟨g, 9, none⟩ = some (.bool rc) := hb.cell 9
  have f0 := hb.frozen 0
  have f1 := hb.frozen 1
  have f2 := hb.frozen 2
  have f3 := hb.frozen 3
  have f4 := hb.frozen 4
  have f5 := hb.frozen 5
  have f6 := hb.frozen 6
  have f7 := hb.frozen 7
  have f8 := hb.frozen 8
  have f9 := hb.frozen 9
  go_enter Try.func13, Try.ntmps13
  go_wp2
  go_end0
  have hB := ((((((((((hb.set_ 0 (.int .i64 0)).set_ 1 (.int .i64 0)).set_ 2 (.int .i64 0)).set_ 3 (.int .i64 0)).set_ 4 (.int .i64 0)).set_ 5 (.int .i64 0)).set_ 6 (.slice none 0 0)).set_ 7 .nilFunc).set_ 8 (.bool false)).set_ 9 (.bool false))
  have hF := (((((((((((Fr.refl [some g] w).setB (g := g) (by simp) 0 (.int .i64 0)).setB (g := g) (by simp) 1 (.int .i64 0)).setB (g := g) (by simp) 2 (.int .i64 0)).setB (g := g) (by simp) 3 (.int .i64 0)).setB (g := g) (by simp) 4 (.int .i64 0)).setB (g := g) (by simp) 5 (.int .i64 0)).setB (g := g) (by simp) 6 (.slice none 0 0)).setB (g := g) (by simp) 7 .nilFunc).setB (g := g) (by simp) 8 (.bool false)).setB (g := g) (by simp) 9 (.bool false))
  refine ⟨rfl, ?_, hF⟩
  simpa [pc, stV, P0] using hB

theorem pending_nil (w : World) : Calls Try.prog 12 #[.pointer none] w fun e w' => e = .returned (.slice none 0 0) ∧ w = w' := by
  go_enter Try.func12, Try.ntmps12
  go_wp2
  go_ret
  exact ⟨rfl, rfl⟩
theorem key_nil (k way : Int) (rec : Bool) (w : World) : Calls Try.prog 8 #[.pointer none, .int .i64 k, .int .i64 way, .bool rec] w fun e w' => e = .returned (.tuple #[.agg #[.int .i64 0, .int .i64 0, .int .i64 0, .int .i64 0, .int .i64 0], .int .i64 2, .int .i64 2]) ∧ Fr [] w w' := by
  go_enter Try.func8, Try.ntmps8
  go_wp2
  refine bodyPost_ret (v := .tuple #[.agg #[.int .i64 0, .int .i64 0, .int .i64 0, .int .i64 0, .int .i64 0], .int .i64 2, .int .i64 2]) (by simp [results, Try.results8, go_sem]) rfl ⟨rfl, (Fr.refl _ w).alloc _⟩

def overB (P : PS) : Bool := decide (9999 < P.digits) || decide (9999 < P.digits * max P.count 1)
set_option maxHeartbeats 800000 in
theorem over_any (g : Nat) (L : Value) (op verb count reg char digits : Int) (st : Nat) (vis rc : Bool) (w : World) (hb : Blk w g 52 (pc ⟨op, verb, count, reg, char, digits, st, vis, rc⟩ L)) (h0 : 0 ≤ digits) (h1 : digits ≤ 100000) (h2 : 0 ≤ count) (h3 : count ≤ 9999)
    (b : Bool) (hov : overB ⟨op, verb, count, reg, char, digits, st, vis, rc⟩ = b) :
    Calls Try.prog 19 #[.pointer (some ⟨g, 0, none⟩)] w fun e w' => e = .returned (.bool b) ∧ Fr [] w w' := by
  have c2 : w.cell? ⟨g, 2, none⟩ = some (.int .i64 count) := hb.cell 2
  have c5 : w.cell? ⟨g, 5, none⟩ = some (.int .i64 digits) := hb.cell 5
  by_cases hd : 9999 < digits
  · obtain rfl : b = true := by rw [← hov]; simp [overB, hd]
    clear hov
    go_enter Try.func19, Try.ntmps19
    go_wp2
    go_quiet (fail)
    go_wp2
    go_ret
    exact ⟨rfl, (Fr.refl _ w).drewN _⟩
  · have hd1 : digits ≤ 9999 := by omega
    have hd2 : decide (9999 < digits) = false := by simpa using hd
    clear hd
    obtain ⟨m, hm⟩ : ∃ m, m = max count 1 := ⟨_, rfl⟩
    have hm1 : 1 ≤ m := by omega
    have hm2 : m ≤ 9999 := by omega
    have hp0 : 0 ≤ digits * m := Int.mul_nonneg h0 (by omega)
    have hp1 : digits * m ≤ 9999 * 9999 := Int.mul_le_mul hd1 hm2 (by omega) (by omega)
    have hv : b = decide (9999 < digits * m) := by rw [← hov, hm]; simp only [overB, hd2, Bool.false_or]
    subst hv
    clear hov
    by_cases hc : 1 ≤ count
    · have hmc : m = count := by omega
      subst hmc
      clear hm
      go_enter Try.func19, Try.ntmps19
      go_wp2
      go_quiet (fail)
      go_wp2
      go_ret
      exact ⟨rfl, (Fr.refl _ w).drewN _⟩
    · have hmc : m = 1 := by omega
      subst hmc
      clear hm
      have hc' : count < 1 := by omega
      go_enter Try.func19, Try.ntmps19
      go_wp2
      go_quiet (fail)
      go_wp2
      go_ret
      exact ⟨ret_bool (by rw [Int.mul_one]; exact hd2.symm), (Fr.refl _ w).drewN _⟩
end Go.Proofs.Ythhkannmeljfkaa
