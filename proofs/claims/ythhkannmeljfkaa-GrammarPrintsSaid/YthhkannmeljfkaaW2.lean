import Derived.Test.YthhkannmeljfkaaW1
namespace Go.Proofs.Ythhkannmeljfkaa
open Go.RowKit Go.Proofs.Dm

/-- What a parser has, its pending keys aside. -/
structure PS where
  op : Int
  verb : Int
  count : Int
  reg : Int
  char : Int
  digits : Int
  st : Nat
  vis : Bool
  rc : Bool

def stV (n : Nat) : Value := if n = 0 then .nilFunc else .func (.func n) #[] #[]
def pc (P : PS) (L : Value) : Array Value := #[.int .i64 P.op, .int .i64 P.verb, .int .i64 P.count, .int .i64 P.reg, .int .i64 P.char, .int .i64 P.digits, L, stV P.st, .bool P.vis, .bool P.rc]

def isDigit (P : PS) (k : Int) : Bool := decide (48 ≤ k) && decide (k ≤ 57) && !(k == 48 && P.digits == 0)

theorem counted_yes (g : Nat) (L : Value) (op verb count reg char digits : Int) (st : Nat) (vis rc : Bool) (k : Int) (w : World) (hb : Blk w g 52 (pc ⟨op, verb, count, reg, char, digits, st, vis, rc⟩ L)) (h0 : 0 ≤ digits) (h1 : digits ≤ 9999)
    (hk : isDigit ⟨op, verb, count, reg, char, digits, st, vis, rc⟩ k = true) :
    Calls Try.prog 32 #[.pointer (some ⟨g, 0, none⟩), .int .i64 k] w fun e w' => e = .returned (.bool true) ∧ Blk w' g 52 (pc ⟨op, verb, count, reg, char, digits * 10 + k - 48, st, vis, rc⟩ L) ∧ Fr [some g] w w' := by
  have c5 : w.cell? ⟨g, 5, none⟩ = some (.int .i64 digits) := hb.cell 5
  have f5 := hb.frozen 5
  simp only [isDigit, Bool.and_eq_true, decide_eq_true_eq, Bool.not_eq_true', Bool.and_eq_false_iff] at hk
  obtain ⟨⟨h2, h3⟩, h4⟩ := hk
  rcases h4 with h4 | h4
  · go_enter Try.func32, Try.ntmps32
    go_wp2
    go_ret
    exact ⟨rfl, hb.set_ 5 _, (Fr.refl _ w).setB (g := g) (by simp) 5 _⟩
  · by_cases h5 : k = 48
    · subst h5
      rw [show digits * 10 + 48 - 48 = digits * 10 from by omega]
      go_enter Try.func32, Try.ntmps32
      go_wp2
      go_ret
      exact ⟨rfl, hb.set_ 5 _, (Fr.refl _ w).setB (g := g) (by simp) 5 _⟩
    · have h6 : (k == 48) = false := beq_eq_false_iff_ne.2 h5
      go_enter Try.func32, Try.ntmps32
      go_wp2
      go_ret
      exact ⟨rfl, hb.set_ 5 _, (Fr.refl _ w).setB (g := g) (by simp) 5 _⟩

theorem counted_no (g : Nat) (L : Value) (op verb count reg char digits : Int) (st : Nat) (vis rc : Bool) (k : Int) (w : World) (hb : Blk w g 52 (pc ⟨op, verb, count, reg, char, digits, st, vis, rc⟩ L))
    (hk : isDigit ⟨op, verb, count, reg, char, digits, st, vis, rc⟩ k = false) :
    Calls Try.prog 32 #[.pointer (some ⟨g, 0, none⟩), .int .i64 k] w fun e w' => e = .returned (.bool false) ∧ w = w' := by
  have c5 : w.cell? ⟨g, 5, none⟩ = some (.int .i64 digits) := hb.cell 5
  by_cases h2 : 48 ≤ k
  · by_cases h3 : k ≤ 57
    · simp only [isDigit, h2, h3, decide_true, Bool.and_self, Bool.true_and, Bool.not_eq_false', Bool.and_eq_true] at hk
      obtain ⟨h4, h5⟩ := hk
      go_enter Try.func32, Try.ntmps32
      go_wp2
      go_ret
      exact ⟨rfl, rfl⟩
    · have h3' : 57 < k := by omega
      clear hk
      go_enter Try.func32, Try.ntmps32
      go_wp2
      go_ret
      exact ⟨rfl, rfl⟩
  · have h2' : k < 48 := by omega
    clear hk
    go_enter Try.func32, Try.ntmps32
    go_wp2
    go_ret
    exact ⟨rfl, rfl⟩

def PS.close (P : PS) : PS := if 0 < P.digits then { P with count := P.digits * max P.count 1, digits := 0 } else P

theorem close_any (g : Nat) (L : Value) (op verb count reg char digits : Int) (st : Nat) (vis rc : Bool) (w : World) (hb : Blk w g 52 (pc ⟨op, verb, count, reg, char, digits, st, vis, rc⟩ L)) (h0 : 0 ≤ digits) (h1 : digits ≤ 9999) (h2 : 0 ≤ count) (h3 : count ≤ 9999) :
    Calls Try.prog 33 #[.pointer (some ⟨g, 0, none⟩)] w fun e w' => e = .returned (.tuple #[]) ∧ Blk w' g 52 (pc (PS.close ⟨op, verb, count, reg, char, digits, st, vis, rc⟩) L) ∧ Fr [some g] w w' := by
  have c5 : w.cell? ⟨g, 5, none⟩ = some (.int .i64 digits) := hb.cell 5
  have c2 : w.cell? ⟨g, 2, none⟩ = some (.int .i64 count) := hb.cell 2
  have f5 := hb.frozen 5
  have f2 := hb.frozen 2
  by_cases hd : 0 < digits
  · have HP : Hid (PS.close ⟨op, verb, count, reg, char, digits, st, vis, rc⟩ = ⟨op, verb, digits * max count 1, reg, char, 0, st, vis, rc⟩) := by show _ = _; simp [PS.close, hd]
    have hm1 : 1 ≤ max count 1 := by omega
    have hm2 : max count 1 ≤ 9999 := by omega
    obtain ⟨m, hm⟩ : ∃ m, m = max count 1 := ⟨_, rfl⟩
    rw [← hm] at hm1 hm2 HP
    have hp0 : 0 ≤ digits * m := Int.mul_nonneg h0 (by omega)
    have hp1 : digits * m ≤ 9999 * 9999 := Int.mul_le_mul h1 hm2 (by omega) (by omega)
    by_cases hc : 1 ≤ count
    · have hmc : m = count := by omega
      subst hmc
      clear hm
      go_enter Try.func33, Try.ntmps33
      go_wp2
      go_still_tail 15, (by kernel_rfl)
      go_wp2
      go_end0
      rw [HP.out]
      exact ⟨rfl, ((Blk.drew hb).set_ 2 _).set_ 5 _, ((((Fr.refl _ w).drew).setB (g := g) (by simp) 2 _).setB (g := g) (by simp) 5 _)⟩
    · have hmc : m = 1 := by omega
      subst hmc
      clear hm
      have hc' : count < 1 := by omega
      rw [Int.mul_one] at hp0 hp1 HP
      go_enter Try.func33, Try.ntmps33
      go_wp2
      go_still_tail 15, (by kernel_rfl)
      go_wp2
      go_end0
      rw [HP.out]
      exact ⟨rfl, ((Blk.drew hb).set_ 2 _).set_ 5 _, ((((Fr.refl _ w).drew).setB (g := g) (by simp) 2 _).setB (g := g) (by simp) 5 _)⟩
  · have HP : Hid (PS.close ⟨op, verb, count, reg, char, digits, st, vis, rc⟩ = ⟨op, verb, count, reg, char, digits, st, vis, rc⟩) := by show _ = _; simp [PS.close, hd]
    have hd' : digits ≤ 0 := by omega
    go_enter Try.func33, Try.ntmps33
    go_wp2
    go_end0
    exact ⟨rfl, by rw [HP.out]; exact hb, Fr.refl _ _⟩
end Go.Proofs.Ythhkannmeljfkaa
