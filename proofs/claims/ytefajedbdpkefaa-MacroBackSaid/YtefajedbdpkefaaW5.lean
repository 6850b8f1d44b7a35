import Derived.Test.YtefajedbdpkefaaW4
namespace Go.Proofs.Ytefajedbdpkefaa
open Go.RowKit Go.Proofs.Dm

theorem play_nil (n k : Int) (w : World) : Calls Try.prog 11 #[.pointer none, .int .i64 n, .int .i64 k] w fun e w' => e = .returned (.tuple #[.slice none 0 0, .int .i64 2]) ∧ w = w' := by
  go_enter Try.func11, Try.ntmps11
  go_wp2_with (go_at_call 9; go_must (
    refine (get_nil n _).mono ?_
    rintro e w1 ⟨rfl, rfl⟩))
  all_goals (go_ret2; exact ⟨rfl, rfl⟩)

theorem typed_nil (k : Int) (w : World) : Calls Try.prog 12 #[.pointer none, .int .i64 k] w fun e w' => e = .returned (.tuple #[]) ∧ w = w' := by
  go_enter Try.func12, Try.ntmps12
  go_wp2
  go_end0
  exact ⟨rfl, rfl⟩
theorem whole_nil (b : Bool) (w : World) : Calls Try.prog 13 #[.pointer none, .bool b] w fun e w' => e = .returned (.tuple #[]) ∧ w = w' := by
  go_enter Try.func13, Try.ntmps13
  go_wp2
  refine bodyPost_ret (results_none rfl _ _ _) rfl ?_
  exact ⟨rfl, rfl⟩
theorem recording_nil (w : World) : Calls Try.prog 14 #[.pointer none] w fun e w' => e = .returned (.tuple #[.int .i64 0, .bool false]) ∧ w = w' := by
  go_enter Try.func14, Try.ntmps14
  go_wp2
  go_ret2
  exact ⟨rfl, rfl⟩
theorem dot_nil (w : World) : Calls Try.prog 15 #[.pointer none] w fun e w' => e = .returned (.tuple #[.slice none 0 0, .bool false]) ∧ w = w' := by
  go_enter Try.func15, Try.ntmps15
  go_wp2
  go_ret2
  exact ⟨rfl, rfl⟩

/-- Of two rows that are alike: true. -/
theorem same_yes (A B : Option Addr) (c d : Nat) (xs : List Int) (w : World) (hA : Sl w A (ints xs)) (hB : Sl w B (ints xs)) (hl : xs.length ≤ 1099511627776) :
    Calls Try.prog 19 #[.slice A xs.length c, .slice B xs.length d] w fun e w' => e = .returned (.bool true) ∧ Fr [] w w' := by
  go_enter Try.func19, Try.ntmps19
  go_wp2
  go_loopw [13, 5] (fun i v wr => ∃ k : Nat, i = .int .i64 k ∧ k ≤ xs.length ∧ Fr [] w wr) (fun i _ _ => xs.length - (intOf i).toNat)
  case atStart => exact ⟨0, rfl, Nat.zero_le _, Fr.refl _ _⟩
  case round =>
    obtain ⟨k, rfl, hk, hf⟩ := hrel
    by_cases hlt : k < xs.length
    · have hA' := hA.fr hf (by simp)
      have hB' := hB.fr hf (by simp)
      obtain ⟨ad, rfl, _, h3⟩ := hA'.at_ (ints_get xs k hlt)
      obtain ⟨bd, rfl, _, h4⟩ := hB'.at_ (ints_get xs k hlt)
      clear hA hB hA' hB'
      obtain ⟨x, hx⟩ : ∃ x, x = xs[k] := ⟨_, rfl⟩
      rw [← hx] at h3 h4
      clear hx
      go_wp2
      go_quiet (fail)
      go_wp2
      go_roundw
      case rel => exact ⟨k + 1, by go_num, by omega, hf.drewN _⟩
      case measure => simp [intOf]; omega
    · go_wp2
      go_ret
      exact ⟨rfl, hf⟩
end Go.Proofs.Ytefajedbdpkefaa
