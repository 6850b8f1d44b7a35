import Derived.Test.YtefajedbdpkefaaW5
namespace Go.Proofs.Ytefajedbdpkefaa
open Go.RowKit Go.Proofs.Dm

set_option maxHeartbeats 800000 in
theorem play_ok (g r : Nat) (nm l o tl to dot : Value) (A : Option Addr) (c : Nat) (n : Int) (kk : Nat) (cnt : Int) (xs : List Int) (m : List (Int × Value)) (w : World)
    (hb : Blk w g 45 #[.map (some r), nm, l, o, tl, to, dot]) (hmap : MapI w r m) (hg : (mget m n).getD (.slice none 0 0) = .slice A xs.length c) (hs : Sl w A (ints xs)) (hl : 1 ≤ xs.length) (hl2 : xs.length ≤ 100)
    (hn1 : 97 ≤ n) (hn2 : n ≤ 122) (hk : 1 ≤ kk) (hkc : (1 ≤ cnt ∧ cnt = kk) ∨ (cnt ≤ 0 ∧ kk = 1)) (hq : (kk : Int) ≤ 100 / (xs.length : Int)) :
    Calls Try.prog 11 #[.pointer (some ⟨g, 0, none⟩), .int .i64 n, .int .i64 cnt] w fun e w' => ∃ A' c', e = .returned (.tuple #[.slice A' (kk * xs.length) c', .int .i64 0]) ∧
      IRow w' 3 A' c' (pat xs (kk * xs.length)) ∧ Fr [] w w' ∧ (bk A' = none ∨ ∃ j, w.heap.size ≤ j ∧ bk A' = some j) := by
  have hT : kk * xs.length ≤ 10000 := by
    have h1 : (kk : Int) * xs.length ≤ 100 := Int.le_trans (Int.mul_le_mul_of_nonneg_right hq (by omega)) (Int.ediv_mul_le _ (by omega))
    have : ((kk * xs.length : Nat) : Int) ≤ 100 := by rw [Int.natCast_mul]; exact h1
    omega
  have hd : decide (0 < xs.length) = true := by simp; omega
  rcases hkc with ⟨h1, rfl⟩ | ⟨h0, rfl⟩
  all_goals
    go_enter Try.func11, Try.ntmps11
    go_wp2_with (first
      | (go_at_call 9; go_must (
          refine (get_any g r _ _ _ _ _ _ A c n xs m _ hb hmap hg hs (by omega)).mono ?_
          rintro e w1 ⟨A1, c1, rfl, hr1, hf1, hb1⟩
          rw [hd]))
      | (go_at_call 16; go_must (
          refine (letter_yes n _ hn1 hn2).mono ?_
          rintro e w2 ⟨rfl, rfl⟩))
      | (go_at_call 20; go_must (
          refine (repeat_any A1 c1 xs _ _ hr1.sl hl hk hT).mono ?_
          rintro e w3 ⟨A3, c3, rfl, hr3, hf3, hb3⟩)))
    go_ret2
    refine ⟨A3, c3, by first | rfl | (simp; done), hr3, hf1.trans hf3, ?_⟩
    rcases hb3 with h | ⟨j, hj, h⟩
    · exact .inl h
    · exact .inr ⟨j, Nat.le_trans hf1.size hj, h⟩

set_option maxHeartbeats 800000 in
theorem play_none (g r : Nat) (nm l o tl to dot : Value) (A : Option Addr) (c : Nat) (n : Int) (cnt : Int) (m : List (Int × Value)) (w : World)
    (hb : Blk w g 45 #[.map (some r), nm, l, o, tl, to, dot]) (hmap : MapI w r m) (hg : (mget m n).getD (.slice none 0 0) = .slice A 0 c) (hn1 : 97 ≤ n) (hn2 : n ≤ 122) :
    Calls Try.prog 11 #[.pointer (some ⟨g, 0, none⟩), .int .i64 n, .int .i64 cnt] w fun e w' => e = .returned (.tuple #[.slice none 0 0, .int .i64 4]) ∧ Fr [] w w' := by
  go_enter Try.func11, Try.ntmps11
  go_wp2_with (first
    | (go_at_call 9; go_must (
        refine (get_any g r _ _ _ _ _ _ A c n [] m _ hb hmap hg (.inl rfl) (by simp)).mono ?_
        rintro e w1 ⟨A1, c1, rfl, hr1, hf1, hb1⟩))
    | (go_at_call 16; go_must (
        refine (letter_yes n _ hn1 hn2).mono ?_
        rintro e w2 ⟨rfl, rfl⟩)))
  all_goals (go_ret2; exact ⟨rfl, hf1⟩)

set_option maxHeartbeats 800000 in
theorem play_long (g r : Nat) (nm l o tl to dot : Value) (A : Option Addr) (c : Nat) (n : Int) (cnt : Int) (xs : List Int) (m : List (Int × Value)) (w : World)
    (hb : Blk w g 45 #[.map (some r), nm, l, o, tl, to, dot]) (hmap : MapI w r m) (hg : (mget m n).getD (.slice none 0 0) = .slice A xs.length c) (hs : Sl w A (ints xs)) (hl : 1 ≤ xs.length) (hl2 : xs.length ≤ 100)
    (hn1 : 97 ≤ n) (hn2 : n ≤ 122) (hk : 1 ≤ cnt) (hq : 100 / (xs.length : Int) < cnt) :
    Calls Try.prog 11 #[.pointer (some ⟨g, 0, none⟩), .int .i64 n, .int .i64 cnt] w fun e w' => e = .returned (.tuple #[.slice none 0 0, .int .i64 7]) ∧ Fr [] w w' := by
  have hd : decide (0 < xs.length) = true := by simp; omega
  go_enter Try.func11, Try.ntmps11
  go_wp2_with (first
    | (go_at_call 9; go_must (
        refine (get_any g r _ _ _ _ _ _ A c n xs m _ hb hmap hg hs (by omega)).mono ?_
        rintro e w1 ⟨A1, c1, rfl, hr1, hf1, hb1⟩
        rw [hd]))
    | (go_at_call 16; go_must (
        refine (letter_yes n _ hn1 hn2).mono ?_
        rintro e w2 ⟨rfl, rfl⟩)))
  go_ret2
  exact ⟨rfl, hf1⟩

theorem bk_ne {A : Option Addr} {g B : Nat} (h : bk A = none ∨ ∃ j, B ≤ j ∧ bk A = some j) (hg : g < B) : some g ≠ bk A := by
  rcases h with h | ⟨j, hj, h⟩
  · rw [h]; simp
  · rw [h]; simp; omega
end Go.Proofs.Ytefajedbdpkefaa
