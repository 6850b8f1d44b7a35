import Derived.Test.YtgmnjbnlfpopgaaK5
import Derived.Deep.RegionLaw
namespace Go.Proofs.Ytgmnjbnlfpopgaa
open Go.RowKit Go.Proofs.Dm

theorem u64_in (x : Int) (h0 : 0 ≤ x) (h1 : x < 18446744073709551616) : IntKind.u64.wrap x = x := by
  exact IntWalk.u64_in x (by omega)

theorem mul_small (x y : Int) (hx : 0 ≤ x) (hx' : x < 65536) (hy : 0 ≤ y) (hy' : y < 65536) : 0 ≤ x * y ∧ x * y < 4294967296 := by
  refine ⟨Int.mul_nonneg hx hy, ?_⟩
  have : x * y ≤ 65535 * 65535 := Int.mul_le_mul (by omega) (by omega) hy (by omega)
  omega

theorem mul64_small (x y : Int) (w : World) (hx : 0 ≤ x) (hx' : x < 65536) (hy : 0 ≤ y) (hy' : y < 65536) :
    Calls Try.prog 59 #[.int .u64 x, .int .u64 y] w fun e w' => e = .returned (.tuple #[.int .u64 0, .int .u64 (x * y)]) ∧ w = w' := by
  go_enter Try.func59, Try.ntmps59
  go_wp2
  go_ret2
  refine ⟨?_, rfl⟩
  obtain ⟨hp, hp'⟩ := mul_small x y hx hx' hy hy'
  have ex : bits .and .u64 x 4294967295 = x := by rw [and_low32 x hx (by omega)]; omega
  have ey : bits .and .u64 y 4294967295 = y := by rw [and_low32 y hy (by omega)]; omega
  have dx : x / 4294967296 = 0 := by omega
  have dy : y / 4294967296 = 0 := by omega
  have dp : x * y / 4294967296 = 0 := by omega
  have z0 : IntKind.u64.wrap 0 = 0 := by rfl
  have zb : bits .and .u64 0 4294967295 = 0 := by rw [and_low32 0 (by omega) (by omega)]; rfl
  have e1 : IntKind.u64.wrap (x * y) = x * y := u64_in _ hp (by omega)
  simp [ex, ey, dx, dy, dp, e1, z0, zb]

theorem mulu_small (x y : Int) (w : World) (hx : 0 ≤ x) (hx' : x < 65536) (hy : 0 ≤ y) (hy' : y < 65536) :
    Calls Try.prog 53 #[.int .u64 x, .int .u64 y] w fun e w' => e = .returned (.tuple #[.int .u64 0, .int .u64 (x * y)]) ∧ w = w' := by
  go_enter Try.func53, Try.ntmps53
  go_wp2_with (go_at_call 59; go_must (
    refine (mul64_small x y _ hx hx' hy hy').mono ?_
    rintro e w1 ⟨rfl, rfl⟩))
  go_ret2
  exact ⟨rfl, rfl⟩

theorem size3 : (Try.prog.info? 3).map (·.size) = some 1 := by kernel_rfl
set_option maxHeartbeats 800000 in
set_option maxRecDepth 20000 in
theorem repeat_zero (A : Option Addr) (c : Nat) (x : Int) (w : World) (_ : Sl w A (ints [x])) :
    Calls Try.prog 42 #[.slice A 1 c, .int .i64 0] w fun e w' => ∃ A' c', e = .returned (.slice A' 0 c') ∧ IRow w' 3 A' c' [] ∧ Fr [] w w' ∧ (bk A' = none ∨ ∃ j, w.heap.size ≤ j ∧ bk A' = some j) := by
  go_enter Try.func42, Try.ntmps42
  go_wp2_with (first
    | (go_at_call 53; go_must (
        refine (mulu_small 1 0 _ (by omega) (by omega) (by omega) (by omega)).mono ?_
        rintro e w1 ⟨rfl, rfl⟩))
    | (at_make; go_must (
        refine wpList_makeB _ rfl _ _ 22 3 rfl (.int .i64 0) 8 Try.underlying22 info3 rfl 0 0 rfl rfl rfl (by omega) (by simp only [maxLen]; omega) ?_
        intro w2 hB2' hf2
        have hB2 : Blk w2 w.heap.size 3 ([] : List Value).toArray := hB2'))
    | (with_reducible refine wpList_copyB rfl (.tmp 31) (.tmp 32) 22 22 rfl 3 Try.underlying22 size3 w.heap.size 0 0 0 A 1 c rfl rfl 3 [] hB2 [] 0 rfl ?hn ?hsl ?hfit ?hone ?_))
  case hn => rfl
  case hsl => exact .inl rfl
  case hfit => simp
  case hone => intro v hv; simp at hv
  intro w3 hB3 hf3
  go_wp2_with fail
  go_loopw [8] (fun n wr => n = .int .i64 0 ∧ wr = w3) (fun n _ => 0)
  case atStart => exact ⟨rfl, rfl⟩
  case round =>
    obtain ⟨rfl, rfl⟩ := hrel
    go_wp2_with fail
    go_ret
    exact ⟨some ⟨w.heap.size, 0, none⟩, 0, rfl, blk_orow hB3 rfl (by decide), hf2.seq hf3 (by simp), .inr ⟨_, Nat.le_refl _, rfl⟩⟩

set_option maxHeartbeats 800000 in
set_option maxRecDepth 20000 in
theorem repeat_any (A : Option Addr) (c : Nat) (xs : List Int) (k : Nat) (w : World) (hs : Sl w A (ints xs)) (h1 : 1 ≤ xs.length) (hk : 1 ≤ k) (hT : k * xs.length ≤ 10000) :
    Calls Try.prog 42 #[.slice A xs.length c, .int .i64 k] w fun e w' => ∃ A' c', e = .returned (.slice A' (k * xs.length) c') ∧ IRow w' 3 A' c' (pat xs (k * xs.length)) ∧ Fr [] w w' ∧ (bk A' = none ∨ ∃ j, w.heap.size ≤ j ∧ bk A' = some j) := by
  have hk2 : k ≤ 10000 := Nat.le_trans (Nat.le_mul_of_pos_right _ h1) hT
  have hm0 : (xs.length : Int) * (k : Int) ≤ 10000 := by rw [Int.mul_comm, ← Int.natCast_mul]; omega
  have hm1 : 0 ≤ (xs.length : Int) * (k : Int) := Int.mul_nonneg (by omega) (by omega)
  have hle : xs.length ≤ k * xs.length := Nat.le_mul_of_pos_left _ hk
  obtain ⟨T, hTe⟩ : ∃ T, T = k * xs.length := ⟨_, rfl⟩
  rw [← hTe] at hT hle ⊢
  have HT := Lib.hid hTe
  have HL : Hid ((xs.length : Int) * (k : Int) = (T : Int)) := by show _ = _; rw [hTe, Int.natCast_mul, Int.mul_comm]
  clear hTe
  go_enter Try.func42, Try.ntmps42
  go_wp2_with (first
    | (go_at_call 53; go_must (
        refine (mulu_small xs.length k _ (by omega) (by omega) (by omega) (by omega)).mono ?_
        rintro e w1 ⟨rfl, rfl⟩))
    | (at_make; go_must (
        refine wpList_makeB _ rfl _ _ 22 3 rfl (.int .i64 0) 8 Try.underlying22 info3 rfl ((xs.length : Int) * (k : Int)) T rfl rfl HL.out (by omega) (by simp only [maxLen]; omega) ?_
        intro w2 hB2 hf2))
    | (with_reducible refine wpList_copyB rfl (.tmp 31) (.tmp 32) 22 22 rfl 3 Try.underlying22 size3 w.heap.size 0 T T A xs.length c rfl rfl 3 (List.replicate T (.int .i64 0)) hB2 (ints xs) xs.length (ints_len' xs) ?hn ?hsl ?hfit (ints_one _) ?_))
  case hn => exact (Nat.min_eq_left hle).symm
  case hsl => exact hs.fr hf2 (by simp)
  case hfit => rw [List.length_replicate]; omega
  intro w3 hB3 hf3
  have hB4 : Blk w3 w.heap.size 3 (ints (pat xs xs.length ++ List.replicate (T - xs.length) 0)).toArray := by
    have e := pat_round xs 0 xs.length T 0 (by simp) (by omega)
    have e0 : ints (pat xs 0 ++ List.replicate (T - 0) 0) = List.replicate T (.int .i64 0) := by simp [pat, ints]
    rw [e0, Nat.zero_add] at e
    rw [← e, pat_self]
    exact hB3
  have hf4 : Fr [] w w3 := hf2.seq hf3 (by simp)
  clear hB3 hf3 hB2 hf2 hs hm0 hm1 HL
  go_wp2
  go_loopw [8] (fun n wr => ∃ q j : Nat, n = .int .i64 q ∧ Hid (q = j * xs.length) ∧ q ≤ T ∧ xs.length ≤ q ∧ Blk wr w.heap.size 3 (ints (pat xs q ++ List.replicate (T - q) 0)).toArray ∧ Fr [] w wr) (fun n _ => T - (intOf n).toNat)
  case atStart => exact ⟨xs.length, 1, rfl, by show _ = _; omega, hle, Nat.le_refl _, hB4, hf4⟩
  case round =>
    obtain ⟨q, j, rfl, hq, hqT, hqx, hB, hf⟩ := hrel
    by_cases hlt : q < T
    · obtain ⟨m, hm⟩ : ∃ m, m = min q (T - q) := ⟨_, rfl⟩
      have hmq : m ≤ q := by omega
      have hmT : q + m ≤ T := by omega
      have hmm : Hid (m = min q (T - q)) := hm
      have hsl : Sl wr (some ⟨w.heap.size, 0, none⟩) (ints (pat xs m)) := by
        have := blk_sl hB m
        have e : (ints (pat xs q ++ List.replicate (T - q) 0)).take m = ints (pat xs m) := by
          unfold ints
          rw [← List.map_take, List.take_append_of_le_length (by rw [pat_len]; exact hmq), pat_take xs q m hmq]
        rwa [e] at this
      have hml : (ints (pat xs m)).length = m := by simp [ints, pat_len]
      have hml' := Lib.hid hml
      clear hm hml
      have hBd := hB.drew
      have hsld : Sl wr.drew (some ⟨w.heap.size, 0, none⟩) (ints (pat xs m)) := hsl
      have hTq : ¬ T = q := by omega
      go_wp2
      go_region_law (refine step_copyB rfl (.tmp 41) (.tmp 44) 22 22 rfl 3 Try.underlying22 size3 w.heap.size q (T - q) (T - q) (some ⟨w.heap.size, 0, none⟩) q T (by simp [Act.eval, Act.put]) (by simp [Act.eval, Act.put]) 3 (ints (pat xs q ++ List.replicate (T - q) 0)) hBd (ints (pat xs m)) m hml'.out hmm.out hsld (by simp [ints, pat_len]; omega) (ints_one _) ?_; intro w5 hB5 hf5)
      go_simp
      go_roundw
      case rel =>
        have hj : ∃ j2, q + m = j2 * xs.length := by
          have e1 := hq.out
          have e2 := HT.out
          have e3 := hmm.out
          by_cases hc : q ≤ T - q
          · exact ⟨j + j, by rw [Nat.add_mul]; omega⟩
          · exact ⟨k, by omega⟩
        obtain ⟨j2, hj2⟩ := hj
        refine ⟨_, _, _, _, _, _, _, _, _, _, _, _, _, _, ⟨q + m, j2, ?_, hj2, hmT, by omega, ?_, hf.drew.seq hf5 (by simp)⟩, rfl⟩
        · rw [IntWalk.i64_in _ (by omega), Int.natCast_add]
        · rw [← pat_round xs q m T j hq.out hmT]; exact hB5
      case measure =>
        have e3 := hmm.out
        simp only [intOf]
        show T - (IntKind.i64.wrap (↑q + ↑m)).toNat < T - (q : Int).toNat
        rw [IntWalk.i64_in _ (by omega)]
        omega
    · go_wp2
      go_ret
      obtain rfl : q = T := by omega
      refine ⟨some ⟨w.heap.size, 0, none⟩, q, rfl, ?_, hf, .inr ⟨_, Nat.le_refl _, rfl⟩⟩
      have e : ints (pat xs q ++ List.replicate (q - q) 0) = ints (pat xs q) := by simp
      rw [e] at hB
      unfold IRow
      rw [pat_len]
      exact blk_orow hB (by simp [ints, pat_len]) (by simp only [maxLen]; omega)
end Go.Proofs.Ytgmnjbnlfpopgaa
