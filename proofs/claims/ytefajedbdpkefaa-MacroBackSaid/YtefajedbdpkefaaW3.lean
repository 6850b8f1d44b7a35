import Derived.Test.YtefajedbdpkefaaW2
namespace Go.Proofs.Ytefajedbdpkefaa
open Go.RowKit Go.Proofs.Dm

theorem u64_in (x : Int) (h0 : 0 ≤ x) (h1 : x < 18446744073709551616) : IntKind.u64.wrap x = x := by
  exact IntWalk.u64_in x (by omega)

theorem mul_small (x y : Int) (hx : 0 ≤ x) (hx' : x < 65536) (hy : 0 ≤ y) (hy' : y < 65536) : 0 ≤ x * y ∧ x * y < 4294967296 := by
  refine ⟨Int.mul_nonneg hx hy, ?_⟩
  have : x * y ≤ 65535 * 65535 := Int.mul_le_mul (by omega) (by omega) hy (by omega)
  omega

theorem mul64_small (x y : Int) (w : World) (hx : 0 ≤ x) (hx' : x < 65536) (hy : 0 ≤ y) (hy' : y < 65536) :
    Calls Try.prog 23 #[.int .u64 x, .int .u64 y] w fun e w' => e = .returned (.tuple #[.int .u64 0, .int .u64 (x * y)]) ∧ w = w' := by
  go_enter Try.func23, Try.ntmps23
  go_wp2
  go_ret2
  refine ⟨?_, rfl⟩
  obtain ⟨hp, hp'⟩ := mul_small x y hx hx' hy hy'
  have ex : bits .and .u64 x 4294967295 = x := by rw [and_low32 x hx (by omega)]; omega
  have ey : bits .and .u64 y 4294967295 = y := by rw [and_low32 y hy (by omega)]; omega
  have dx : x / 4294967296 = 0 := by omega
  have dy : y / 4294967296 = 0 := by omega
  have dp : x * y / 4294967296 = 0 := by omega
  have z0 : IntKind.u64.wrap 0 = 0 := by rfl
  have zb : bits .and .u64 0 4294967295 = 0 := by rw [and_low32 0 (by omega) (by omega)]; rfl
  have e1 : IntKind.u64.wrap (x * y) = x * y := u64_in _ hp (by omega)
  simp [ex, ey, dx, dy, dp, e1, z0, zb]

theorem mulu_small (x y : Int) (w : World) (hx : 0 ≤ x) (hx' : x < 65536) (hy : 0 ≤ y) (hy' : y < 65536) :
    Calls Try.prog 21 #[.int .u64 x, .int .u64 y] w fun e w' => e = .returned (.tuple #[.int .u64 0, .int .u64 (x * y)]) ∧ w = w' := by
  go_enter Try.func21, Try.ntmps21
  go_wp2_with (go_at_call 23; go_must (
    refine (mul64_small x y _ hx hx' hy hy').mono ?_
    rintro e w1 ⟨rfl, rfl⟩))
  go_ret2
  exact ⟨rfl, rfl⟩
end Go.Proofs.Ytefajedbdpkefaa
