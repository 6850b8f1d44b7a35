import Derived.Test.YthhkannmeljfkaaProg
import Derived.Test.YthhkannmeljfkaaLib
import Derived.Lib.Bytealg
import Derived.Deep.Light
namespace Go.Proofs.Ythhkannmeljfkaa
open Go.RowKit Go.Proofs.Dm

theorem index_lite (s : ByteArray) (c : Int) (w : World) : Calls Try.prog 49 #[.string s, .int .u8 c] w fun e w' => e = .returned (.int .i64 (Lib.indexByte s.data.toList c.toNat.toUInt8)) ∧ w = w' := by
  go_enter Try.func49, Try.ntmps49
  go_wp2
  rw [run_callFunc_extern Try.func50 (by kernel_rfl) (by kernel_rfl) (by kernel_rfl) (e := Extern.BytealgIndexByte.indexByte) (by kernel_rfl), Lib.run_indexByteString]
  simp only [Result.andThen]
  rw [Oper.upon_value]
  go_wp2
  go_ret
  exact ⟨rfl, rfl⟩

theorem index_byte (s : ByteArray) (c : Int) (w : World) : Calls Try.prog 45 #[.string s, .int .u8 c] w fun e w' => e = .returned (.int .i64 (Lib.indexByte s.data.toList c.toNat.toUInt8)) ∧ w = w' := by
  go_enter Try.func45, Try.ntmps45
  go_wp2_with (go_at_call 49; go_must (
    refine (index_lite s c _).mono ?_
    rintro e w1 ⟨rfl, rfl⟩))
  go_ret
  exact ⟨rfl, rfl⟩

theorem ret_int {k : IntKind} {a b : Int} (h : a = b) : Ending.returned (.int k a) = .returned (.int k b) := by rw [h]
theorem ret_bool {a b : Bool} (h : a = b) : Ending.returned (.bool a) = .returned (.bool b) := by rw [h]

/-- Is a byte among some? -/
def amongB (k : Int) (s : ByteArray) : Bool := decide (32 < k) && decide (k < 127) && decide (0 ≤ Lib.indexByte s.data.toList k.toNat.toUInt8)

theorem among_any (k : Int) (s : ByteArray) (w : World) : Calls Try.prog 29 #[.int .i64 k, .string s] w fun e w' => e = .returned (.bool (amongB k s)) ∧ w = w' := by
  by_cases h1 : 32 < k
  · by_cases h2 : k < 127
    · have HV : Hid (amongB k s = decide (0 ≤ Lib.indexByte s.data.toList k.toNat.toUInt8)) := by show _ = _; simp [amongB, h1, h2]
      go_enter Try.func29, Try.ntmps29
      go_wp2_with (go_at_call 45; go_must (
        refine (index_byte s k _).mono ?_
        rintro e w1 ⟨rfl, rfl⟩))
      go_ret
      exact ⟨by rw [HV.out]; rfl, rfl⟩
    · have HV : Hid (amongB k s = false) := by show _ = _; simp [amongB, h2]
      have h2'' : 127 ≤ k := by omega
      go_enter Try.func29, Try.ntmps29
      go_wp2
      go_ret
      exact ⟨by rw [HV.out]; rfl, rfl⟩
  · have HV : Hid (amongB k s = false) := by show _ = _; simp [amongB, h1]
    have h1' : k ≤ 32 := by omega
    go_enter Try.func29, Try.ntmps29
    go_wp2
    go_ret
    exact ⟨by rw [HV.out]; rfl, rfl⟩

/-- Is it one with Ctrl and one of some letters? -/
def ctrlB (k : Int) (s : ByteArray) : Bool := decide (1 ≤ k) && decide (k ≤ 26) && decide (0 ≤ Lib.indexByte s.data.toList (k + 96).toNat.toUInt8)
theorem ctrl_any (k : Int) (s : ByteArray) (w : World) : Calls Try.prog 41 #[.int .i64 k, .string s] w fun e w' => e = .returned (.bool (ctrlB k s)) ∧ w = w' := by
  by_cases h1 : 1 ≤ k
  · by_cases h2 : k ≤ 26
    · have HV : Hid (ctrlB k s = decide (0 ≤ Lib.indexByte s.data.toList (k + 96).toNat.toUInt8)) := by show _ = _; simp [ctrlB, h1, h2]
      go_enter Try.func41, Try.ntmps41
      go_wp2_with fail
      rw [show 97 + k - 1 = k + 96 from by omega]
      refine (index_byte s (k + 96) _).mono ?_
      rintro e w1 ⟨rfl, rfl⟩
      go_wp2
      go_ret
      exact ⟨by rw [HV.out]; rfl, rfl⟩
    · have HV : Hid (ctrlB k s = false) := by show _ = _; simp [ctrlB, h2]
      have h2'' : 26 < k := by omega
      go_enter Try.func41, Try.ntmps41
      go_wp2
      go_ret
      exact ⟨by rw [HV.out]; rfl, rfl⟩
  · have HV : Hid (ctrlB k s = false) := by show _ = _; simp [ctrlB, h1]
    have h1' : k < 1 := by omega
    go_enter Try.func41, Try.ntmps41
    go_wp2
    go_ret
    exact ⟨by rw [HV.out]; rfl, rfl⟩

/-- a to z, or A to Z. -/
def letterB (k : Int) (great : Bool) : Bool := (decide (97 ≤ k) && decide (k ≤ 122)) || (great && (decide (65 ≤ k) && decide (k ≤ 90)))
theorem letter_any (k : Int) (great : Bool) (w : World) : Calls Try.prog 47 #[.int .i64 k, .bool great] w fun e w' => e = .returned (.bool (letterB k great)) ∧ w = w' := by
  have fin : ∀ b : Bool, letterB k great = b → Calls Try.prog 47 #[.int .i64 k, .bool great] w fun e w' => e = .returned (.bool b) ∧ w = w' := by
    intro b hv
    cases great
    · by_cases h1 : 97 ≤ k
      · by_cases h2 : k ≤ 122
        · obtain rfl : b = true := by rw [← hv]; simp [letterB, h1, h2]
          clear hv
          go_enter Try.func47, Try.ntmps47
          go_wp2
          go_ret
          exact ⟨rfl, rfl⟩
        · obtain rfl : b = false := by rw [← hv]; simp [letterB, h2]
          have h3 : 122 < k := by omega
          clear hv
          go_enter Try.func47, Try.ntmps47
          go_wp2
          go_ret
          exact ⟨rfl, rfl⟩
      · obtain rfl : b = false := by rw [← hv]; simp [letterB, h1]
        have h3 : k < 97 := by omega
        clear hv
        go_enter Try.func47, Try.ntmps47
        go_wp2
        go_ret
        exact ⟨rfl, rfl⟩
    · by_cases h1 : 97 ≤ k
      · by_cases h2 : k ≤ 122
        · obtain rfl : b = true := by rw [← hv]; simp [letterB, h1, h2]
          clear hv
          go_enter Try.func47, Try.ntmps47
          go_wp2
          go_ret
          exact ⟨rfl, rfl⟩
        · obtain rfl : b = false := by rw [← hv]; simp [letterB, h2]; omega
          have h3 : 122 < k := by omega
          have h4 : 90 < k := by omega
          clear hv
          go_enter Try.func47, Try.ntmps47
          go_wp2
          go_ret
          exact ⟨by simp; omega, rfl⟩
      · have h3 : k < 97 := by omega
        by_cases h4 : 65 ≤ k
        · by_cases h5 : k ≤ 90
          · obtain rfl : b = true := by rw [← hv]; simp [letterB, h4, h5]
            clear hv
            go_enter Try.func47, Try.ntmps47
            go_wp2
            go_ret
            exact ⟨rfl, rfl⟩
          · obtain rfl : b = false := by rw [← hv]; simp [letterB, h1, h5]
            have h6 : 90 < k := by omega
            clear hv
            go_enter Try.func47, Try.ntmps47
            go_wp2
            go_ret
            exact ⟨rfl, rfl⟩
        · obtain rfl : b = false := by rw [← hv]; simp [letterB, h1, h4]
          have h6 : k < 65 := by omega
          clear hv
          go_enter Try.func47, Try.ntmps47
          go_wp2
          go_ret
          exact ⟨rfl, rfl⟩
  exact fin _ rfl

def arrowF (k : Int) : Int := if k = -1 then 104 else if k = -2 then 108 else if k = -3 then 107 else if k = -4 then 106 else if k = -5 then 48 else if k = -6 then 36 else k
theorem arrow_any (k : Int) (w : World) : Calls Try.prog 36 #[.int .i64 k] w fun e w' => e = .returned (.int .i64 (arrowF k)) ∧ w = w' := by
  go_enter Try.func36, Try.ntmps36
  go_wp2
  all_goals
    go_ret
    refine ⟨ret_int ?_, rfl⟩
    go_light
    unfold arrowF
    simp_all
end Go.Proofs.Ythhkannmeljfkaa
