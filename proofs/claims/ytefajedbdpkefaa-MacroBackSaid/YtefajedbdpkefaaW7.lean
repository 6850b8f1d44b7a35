import Derived.Test.YtefajedbdpkefaaW6
namespace Go.Proofs.Ytefajedbdpkefaa
open Go.RowKit Go.Proofs.Dm

theorem mget_mput (k : Int) (v : Value) : mget (mput [] k v) k = some v := by simp [mget, mput, fidx]
theorem bk_next {A A' : Option Addr} {g B B' : Nat} (h : bk A' = bk A ∨ ∃ j, B' ≤ j ∧ bk A' = some j) (hA : some g ≠ bk A) (hg : g < B) (hB : B ≤ B') : some g ≠ bk A' := by
  rcases h with h | ⟨j, hj, h⟩
  · rw [h]; exact hA
  · rw [h]; simp; omega

set_option maxRecDepth 4000 in
set_option maxHeartbeats 1600000 in
theorem awake_yes (w : World) : Calls Try.prog 10 #[] w fun e w' => e = .returned (.bool true) ∧ Fr [] w w' := by
  go_enter Try.func10, Try.ntmps10
  go_wp2_with fail
  refine (new_any _).mono ?_
  rintro e w1 ⟨g, r, rfl, hg, hr, hgr, hB1, hm1, hf1⟩
  have hg1 := hB1.lt
  have hr1' := hm1.lt
  go_wp2_with fail
  refine (start_yes g _ _ _ _ _ _ 97 w1 (by omega) (by omega) hB1).mono ?_
  rintro e w2 ⟨rfl, hB2, hf2⟩
  have hm2 := hm1.fr hf2 (by simpa using Ne.symm hgr)
  go_wp2_with fail
  refine (key_more g _ _ _ 97 none 0 false [] 1 w2 (by simp) rfl hB2 (IRow.nil_ _ _) (by simp [bk])).mono ?_
  rintro e w3 ⟨rfl, A3, c3, hB3, hr3, hb3, hf3⟩
  have hg3 : some g ≠ bk A3 := bk_next hb3 (by simp [bk]) hB2.lt (Nat.le_refl _)
  have hr3' : some r ≠ bk A3 := bk_next hb3 (by simp [bk]) hm2.lt (Nat.le_refl _)
  have hm3 := hm2.fr hf3 (by simpa [bk] using Ne.symm hgr)
  go_wp2_with fail
  refine (key_more g _ _ _ 97 A3 c3 false [1] 2 w3 (by simp) rfl hB3 hr3 hg3).mono ?_
  rintro e w4 ⟨rfl, A4, c4, hB4, hr4, hb4, hf4⟩
  have hg4 : some g ≠ bk A4 := bk_next hb4 hg3 hB3.lt (Nat.le_refl _)
  have hr4' : some r ≠ bk A4 := bk_next hb4 hr3' hm3.lt (Nat.le_refl _)
  have hm4 := hm3.fr hf4 (by simp [Ne.symm hgr, hr3'])
  go_wp2_with fail
  refine (stop_row g r _ _ A4 c4 2 false false 97 [] w4 rfl rfl hB4 hm4 hgr).mono ?_
  rintro e w5 ⟨rfl, hB5, hm5, hf5⟩
  have hs5 : Sl w5 A4 (ints [1, 2]) := hr4.sl.fr hf5 (.inr (by simp [Ne.symm hg4, Ne.symm hr4']))
  go_wp2_with fail
  refine (play_ok g r _ _ _ _ _ _ A4 c4 97 2 2 [1, 2] _ w5 hB5 hm5 (by rw [mget_mput]; rfl) hs5 (by simp) (by simp) (by omega) (by omega) (by omega) (.inl ⟨by omega, rfl⟩) (by simp)).mono ?_
  rintro e w6 ⟨A6, c6, rfl, hr6, hf6, hb6⟩
  have hS : Fr [] w w6 := by
    have f2 := hf1.seq hf2 (by simp; omega)
    have f3 := f2.seq hf3 (by simp [bk]; omega)
    have f4 := f3.seq hf4 (by
      intro x hx
      simp at hx
      rcases hx with rfl | rfl
      · exact .inr (.inr ⟨_, hg, rfl⟩)
      · rcases hb3 with h | ⟨j, hj, h⟩
        · exact .inr (.inl (by rw [h]; rfl))
        · exact .inr (.inr ⟨j, Nat.le_trans f2.size hj, h⟩))
    have f5 := f4.seq hf5 (by simp; omega)
    exact f5.trans hf6
  clear hf1 hf2 hf3 hf4 hf5 hf6 hB1 hB2 hB3 hB4 hB5 hm1 hm2 hm3 hm4 hm5
  go_wp2_with fail
  have hr7 : IRow w6 3 A6 c6 [1, 2, 1, 2] := by
    have hp : pat [1, 2] 4 = ([1, 2, 1, 2] : List Int) := by decide
    rw [← hp]
    exact hr6
  have hs6 : Sl (w6.alloc (.cells #[.int .i64 1, .int .i64 2, .int .i64 1, .int .i64 2] 3)) A6 (ints [1, 2, 1, 2]) := hr7.sl.fr (Fr.alloc (Fr.refl [] w6) _) (by simp)
  have hs7 : Sl (w6.alloc (.cells #[.int .i64 1, .int .i64 2, .int .i64 1, .int .i64 2] 3)) (some ⟨w6.heap.size, 0, none⟩) (ints [1, 2, 1, 2]) := blk_sl (cs := ints [1, 2, 1, 2]) (Blk.new w6 3 _) 4
  refine (same_yes A6 _ c6 4 [1, 2, 1, 2] _ hs6 hs7 (by simp)).mono ?_
  rintro e w7 ⟨rfl, hf7⟩
  have hS7 : Fr [] w w7 := (hS.alloc _).trans hf7
  clear hS hf7 hs6 hs7 hr6 hr7
  go_wp2
  go_ret
  exact ⟨rfl, hS7⟩

theorem nil_true (name k : Int) (w : World) : Calls Try.prog 4 #[.int .i64 name, .int .i64 k] w fun e w' => e = .returned (.bool true) ∧ Fr [] w w' := by
  go_enter Try.func4, Try.ntmps4
  go_wp2_with fail
  refine (typed_nil k w).mono ?_
  rintro e w1 ⟨rfl, rfl⟩
  go_wp2_with fail
  refine (whole_nil true w).mono ?_
  rintro e w1 ⟨rfl, rfl⟩
  go_wp2_with fail
  refine (recording_nil w).mono ?_
  rintro e w1 ⟨rfl, rfl⟩
  go_wp2_with fail
  refine (stop_nil w).mono ?_
  rintro e w1 ⟨rfl, rfl⟩
  go_wp2_with fail
  refine (get_nil name w).mono ?_
  rintro e w1 ⟨rfl, rfl⟩
  go_wp2_with fail
  refine (play_nil name 1 w).mono ?_
  rintro e w1 ⟨rfl, rfl⟩
  go_wp2_with fail
  refine (dot_nil w).mono ?_
  rintro e w1 ⟨rfl, rfl⟩
  go_wp2_with fail
  refine (start_nil name w).mono ?_
  rintro e w1 ⟨rfl, rfl⟩
  go_wp2_with fail
  refine (key_nil k w).mono ?_
  rintro e w1 ⟨rfl, rfl⟩
  go_wp2_with fail
  refine (awake_yes w).mono ?_
  rintro e w1 ⟨rfl, hf⟩
  go_wp2
  go_ret
  exact ⟨rfl, hf⟩
end Go.Proofs.Ytefajedbdpkefaa
