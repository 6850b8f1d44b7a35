import Derived.Test.YthhkannmeljfkaaR9
namespace Go.Proofs.Ythhkannmeljfkaa
open Go.RowKit Go.Proofs.Dm

/-- A press's cells. -/
def press (x : Int × Int × Bool) : List Value := [.int .i64 x.1, .int .i64 x.2.1, .bool x.2.2]
def presses (l : List (Int × Int × Bool)) : List Value := l.flatMap press
theorem presses_get (l : List (Int × Int × Bool)) (i : Nat) (h : i < l.length) : (presses l)[i * 3]? = some (.int .i64 (l[i]'h).1) ∧ (presses l)[i * 3 + 1]? = some (.int .i64 (l[i]'h).2.1) ∧ (presses l)[i * 3 + 2]? = some (.bool (l[i]'h).2.2) := by
  induction l generalizing i with
  | nil => simp at h
  | cons x l ih =>
    cases i with
    | zero => exact ⟨rfl, rfl, rfl⟩
    | succ i =>
      have h' : i < l.length := by simpa using h
      have hp : presses (x :: l) = [.int .i64 x.1, .int .i64 x.2.1, .bool x.2.2] ++ presses l := rfl
      obtain ⟨h1, h2, h3⟩ := ih i h'
      rw [hp]
      have e0 : ([Value.int .i64 x.1, Value.int .i64 x.2.1, Value.bool x.2.2] : List Value).length = 3 := rfl
      refine ⟨?_, ?_, ?_⟩
      · rw [List.getElem?_append_right (by rw [e0]; omega), e0, show (i + 1) * 3 - 3 = i * 3 by omega]; exact h1
      · rw [List.getElem?_append_right (by rw [e0]; omega), e0, show (i + 1) * 3 + 1 - 3 = i * 3 + 1 by omega]; exact h2
      · rw [List.getElem?_append_right (by rw [e0]; omega), e0, show (i + 1) * 3 + 2 - 3 = i * 3 + 2 by omega]; exact h3
theorem add_two (a : Addr) (m n : Nat) : (a.add m).add n = a.add (m + n) := by
  unfold Addr.add
  by_cases hm : m = 0
  · subst hm; simp
  · by_cases hn : n = 0
    · subst hn; simp [hm]
    · simp [hm, hn, Nat.add_assoc]
theorem sl_press {w : World} {A : Option Addr} {l : List (Int × Int × Bool)} (h : Sl w A (presses l)) {i : Nat} (hi : i < l.length) :
    ∃ ad : Addr, A = some ad ∧ w.cell? (ad.add (i * 3)) = some (.int .i64 (l[i]'hi).1) ∧ w.cell? ⟨(ad.add (i * 3)).block, (ad.add (i * 3)).off + 1, none⟩ = some (.int .i64 (l[i]'hi).2.1) ∧ w.cell? ⟨(ad.add (i * 3)).block, (ad.add (i * 3)).off + 2, none⟩ = some (.bool (l[i]'hi).2.2) := by
  obtain ⟨h1, h2, h3⟩ := presses_get l i hi
  rcases h with h | ⟨ad, rfl, hc⟩
  · rw [h] at h1; simp at h1
  · have e1 := hc _ _ h2
    have e2 := hc _ _ h3
    rw [← add_two] at e1 e2
    exact ⟨ad, rfl, hc _ _ h1, e1, e2⟩

theorem PAt.on {w1 w2 : World} {g : Nat} {P : PS} {l : List Int} {U : Nat → Prop} (h : PAt U w1 w1 g P l) (hf : Fr [] w1 w2) : PAt U w2 w2 g P l :=
  h.re hf (by simp) (fun k hk => ⟨Nat.lt_of_lt_of_le (h.1.dom k hk) hf.size, .inl hk⟩)
theorem key_gen (U : Nat → Prop) (wr : World) (g : Nat) (k way : Int) (rec : Bool) (hP : PAt U wr wr g P0 []) :
    ∃ (a b c d e t u : Int) (P1 : PS) (B1 : List Int), (Calls Try.prog 8 #[.pointer (some ⟨g, 0, none⟩), .int .i64 k, .int .i64 way, .bool rec] wr fun ee w' => ee = .returned (.tuple #[.agg #[.int .i64 a, .int .i64 b, .int .i64 c, .int .i64 d, .int .i64 e], .int .i64 t, .int .i64 u]) ∧ PAt U wr w' g P1 B1) ∧
      (t = 0 ∨ t = 1 ∨ t = 2) ∧ ((k = 27 ∧ t = 0) ∨ (k ≠ 27 ∧ pRun (start way rec) [k] = (five a b c d e, t, u))) := by
  by_cases hk : k = 27
  · subst hk
    exact ⟨0, 0, 0, 0, 0, 0, 0, P0, [], esc_at _ wr wr g P0 [] way rec hP, .inl rfl, .inl ⟨rfl, rfl⟩⟩
  · have hkey := key_at _ wr wr g P0 [] k way rec hP gInv_P0 (by simp) hk _ rfl
    have hrt := runs_told (runs_P0 way rec) k
    rcases told_three _ (pStep_st (prep P0 way rec) k) ([] ++ [k]) with ⟨a, b, c, d, e, u, ht, hl⟩ | ⟨u, ht, hl⟩ | ⟨u, ht, hl⟩
    · rw [ht, hl] at hkey
      rw [ht] at hrt
      exact ⟨a, b, c, d, e, 1, u, P0, [], hkey, by omega, .inr ⟨hk, hrt⟩⟩
    · rw [ht, hl] at hkey
      rw [ht] at hrt
      exact ⟨0, 0, 0, 0, 0, 2, u, P0, [], hkey, by omega, .inr ⟨hk, hrt⟩⟩
    · rw [ht, hl] at hkey
      rw [ht] at hrt
      exact ⟨0, 0, 0, 0, 0, 0, u, _, _, hkey, by omega, .inr ⟨hk, hrt⟩⟩

set_option maxRecDepth 100000 in
set_option maxHeartbeats 3200000 in
theorem ways_walk (a0 : Option Addr) (cap0 : Nat) (xs : List (Int × Int × Bool)) (w : World) (hs0 : Sl w a0 (presses xs)) :
    Calls Try.prog 4 #[.slice a0 xs.length cap0] w fun e w' => e = .returned (.bool true) ∧ Fr [] w w' := by
  go_enter Try.func4, Try.ntmps4
  go_wp2_with fail
  refine (new_at w).mono ?_
  rintro e w1 ⟨g, rfl, hg, hg1, hf1, hP0⟩
  have hsz : w.heap.size ≤ w1.heap.size := hf1.size
  have hP1 : PAt (UB w none) w1 w1 g P0 [] := hP0 _ _ _ (FrU.refl _ w1 (by intro k hk; rcases hk with hk | hk; omega; cases hk)) (by intro h; rcases h with h | h; omega; cases h) (Fr.refl [] w1)
  clear hP0
  go_wp2_with fail
  go_loopw [13] (fun i wr => ∃ (q : Nat) (P : PS) (B : List Int), i = .int .i64 q ∧ q ≤ xs.length ∧ q ≤ 60 ∧ PAt (UB w none) wr wr g P B ∧ Fr [] w wr) (fun i _ => 60 - (intOf i).toNat)
  case atStart => exact ⟨0, P0, [], rfl, by omega, by omega, hP1, hf1⟩
  case round =>
    obtain ⟨q, P, B, rfl, hq, hq60, hP, hF⟩ := hrel
    by_cases hlt : q < xs.length
    · obtain ⟨ad, rfl, hce0, hce1, hce2⟩ := sl_press (hs0.fr hF (.inr List.not_mem_nil)) hlt
      obtain ⟨⟨k, way, rec⟩, hx⟩ : ∃ x, x = xs[q]'hlt := ⟨_, rfl⟩
      rw [← hx] at hce0 hce1 hce2
      simp only at hce0 hce1 hce2
      clear hx hs0 hP1 hf1
      by_cases h60 : q < 60
      · obtain ⟨wp, hwp⟩ : ∃ wp, wp = wr.alloc (.cells #[.int .i64 k, .int .i64 way, .bool rec] 41) := ⟨_, rfl⟩
        have hFp : Fr [] wr wp := by rw [hwp]; exact (Fr.refl [] wr).alloc _
        have hBp : Blk wp wr.heap.size 41 #[.int .i64 k, .int .i64 way, .bool rec] := by rw [hwp]; exact Blk.new wr 41 _
        have hPp : PAt (fun j => UB w none j ∨ j = wr.heap.size) wp wp g P B := hP.re hFp (by simp) (fun j hj => by
          rcases hj with hj | hj
          · exact ⟨Nat.lt_of_lt_of_le (hP.1.dom j hj) (Nat.le_trans hP.1.size hFp.size), .inl hj⟩
          · exact ⟨by rw [hj]; exact hBp.lt, .inr (by omega)⟩)
        have hFwp := hF.trans hFp
        clear hP hF hFp
        go_wp2_with fail
        rw [← hwp]
        refine (resetp_at _ wp wp g P B hPp).mono ?_
        rintro ee w2 ⟨rfl, hP2⟩
        have hB2 : Blk w2 wr.heap.size 41 #[.int .i64 k, .int .i64 way, .bool rec] := fru_blk hP2.1 (.inr rfl) hBp
        have hF2 : Fr [] w w2 := fru_fr hFwp hP2.1 (fun k hk => .inl (.inl hk))
        have hP3 : PAt (fun j => UB w none j ∨ j = wr.heap.size) w2 w2 g P0 [] := hP2.re (Fr.refl [] _) (by simp) (fun k hk => ⟨Nat.lt_of_lt_of_le (hP2.1.dom k hk) hP2.1.size, .inl hk⟩)
        clear hPp hP2 hFwp hwp hBp hce0 hce1 hce2
        have e0 : w2.cell? ⟨wr.heap.size, 0, none⟩ = some (.int .i64 k) := hB2.cell 0
        have e1 : w2.cell? ⟨wr.heap.size, 1, none⟩ = some (.int .i64 way) := hB2.cell 1
        have e2 : w2.cell? ⟨wr.heap.size, 2, none⟩ = some (.bool rec) := hB2.cell 2
        go_wp2_with fail
        obtain ⟨a, b, c, d, e, t, u, P1, B1, hkey, ht3, hk27⟩ := key_gen (fun j => UB w none j ∨ j = wr.heap.size) w2 g k way rec hP3
        refine hkey.mono ?_
        rintro ee w3 ⟨rfl, hP4⟩
        have hB3 : Blk w3 wr.heap.size 41 #[.int .i64 k, .int .i64 way, .bool rec] := fru_blk hP4.1 (.inr rfl) hB2
        have hF3 : Fr [] w w3 := fru_fr hF2 hP4.1 (fun k hk => .inl (.inl hk))
        have hlt3 : wr.heap.size < w3.heap.size := hB3.lt
        clear e0 e1 e2 hkey hP3 hB2 hF2
        have e0 : w3.cell? ⟨wr.heap.size, 0, none⟩ = some (.int .i64 k) := hB3.cell 0
        have e1 : w3.cell? ⟨wr.heap.size, 1, none⟩ = some (.int .i64 way) := hB3.cell 1
        have e2 : w3.cell? ⟨wr.heap.size, 2, none⟩ = some (.bool rec) := hB3.cell 2
        have H27 := Lib.hid hk27
        have HT3 := Lib.hid ht3
        clear hk27 ht3
        go_wp2_with fail
        obtain ⟨W4, hW4⟩ : ∃ W4, W4 = (w3.alloc (.cells #[.int .i64 a, .int .i64 b, .int .i64 c, .int .i64 d, .int .i64 e] 26)).alloc (.cells #[.int .i64 k] 3) := ⟨_, rfl⟩
        have hF34 : Fr [] w3 W4 := by rw [hW4]; exact ((Fr.refl [] w3).alloc _).alloc _
        have hC4 : Blk W4 w3.heap.size 26 #[.int .i64 a, .int .i64 b, .int .i64 c, .int .i64 d, .int .i64 e] := by rw [hW4]; exact (Blk.new w3 26 _).alloc _
        have hS4 : Sl W4 (some ⟨w3.heap.size + 1, 0, none⟩) (ints [k]) := by
          rw [hW4]
          have := sl_new (w3.alloc (.cells #[.int .i64 a, .int .i64 b, .int .i64 c, .int .i64 d, .int .i64 e] 26)) (.int .i64 k) 3
          simpa [ints] using this
        have hL4 : w3.heap.size + 1 < W4.heap.size := by rw [hW4]; simp
        have hB4 := Blk.fr hB3 hF34 (by simp)
        rw [← hW4]
        refine (read_at W4 (some ⟨w3.heap.size + 1, 0, none⟩) 1 [k] (way == 1) rec (by simp) hS4 (by intro j hj; simp [bk] at hj; omega)).mono ?_
        rintro ee w5 ⟨hf5, hans⟩
        obtain ⟨⟨pos, o5, v5, n5, r5, x5, t5, u5⟩, rfl, g1, g2, g3⟩ := hans
        simp only at g1 g2 g3
        have hB5 := Blk.fr hB4 hf5 (by simp)
        have hC5 := Blk.fr hC4 hf5 (by simp)
        have hF5 : Fr [] w w5 := (hF3.trans hF34).trans hf5
        have hP5 : PAt (UB w none) w5 w5 g P1 B1 := hP4.re (hF34.trans hf5) (by simp) (fun j hj => ⟨Nat.lt_of_lt_of_le (hP4.1.dom j (.inl hj)) (Nat.le_trans hP4.1.size (Nat.le_trans hF34.size hf5.size)), .inl (.inl hj)⟩)
        clear hB3 hB4 hC4 hF34 hf5 hW4 hL4 hS4 e0 e1 e2 hF3 hP4
        have e0 : w5.cell? ⟨wr.heap.size, 0, none⟩ = some (.int .i64 k) := hB5.cell 0
        have m0 : w5.cell? ⟨w3.heap.size, 0, none⟩ = some (.int .i64 a) := hC5.cell 0
        have m1 : w5.cell? ⟨w3.heap.size, 1, none⟩ = some (.int .i64 b) := hC5.cell 1
        have m2 : w5.cell? ⟨w3.heap.size, 2, none⟩ = some (.int .i64 c) := hC5.cell 2
        have m3 : w5.cell? ⟨w3.heap.size, 3, none⟩ = some (.int .i64 d) := hC5.cell 3
        have m4 : w5.cell? ⟨w3.heap.size, 4, none⟩ = some (.int .i64 e) := hC5.cell 4
        have hlt5 := hB5.lt
        have hlc5 := hC5.lt
        rcases H27.out with ⟨rfl, rfl⟩ | ⟨hne, hrt⟩
        · clear g1 g2 g3 H27 HT3
          go_wp2_with fail
          go_quiet (fail)
          go_wp2
          go_roundw
          case rel =>
            exact ⟨q + 1, P1, B1, by go_num, by omega, by omega, hP5.on (((Fr.refl [] w5).alloc _).drewN _), hF5.trans (((Fr.refl [] w5).alloc _).drewN _)⟩
          case measure => simp [intOf]; omega
        · have hk27' : (k == 27) = false := beq_eq_false_iff_ne.2 hne
          have hrt' : pRun ⟨0, 0, 0, 0, 0, 0, 18, way == 1, rec⟩ [k] = (five a b c d e, t, u) := hrt
          rw [hrt'] at g1 g2 g3
          simp only at g1 g2 g3
          subst g1 g2
          clear hrt hrt' H27 HT3 hne
          by_cases ht : t5 = 1
          · subst ht
            have g4 := g3 rfl
            simp only [five, List.cons.injEq, Value.int.injEq, true_and, and_true] at g4
            obtain ⟨rfl, rfl, rfl, rfl, rfl⟩ := g4
            clear g3
            go_wp2_with fail
            have hR5 := Blk.new w5 32 #[.slice (some ⟨w3.heap.size + 1, 0, none⟩) 1 1, .int .i64 pos, .int .i64 a, .int .i64 b, .int .i64 c, .int .i64 d, .int .i64 e, .int .i64 1, .int .i64 u5]
            go_region_with (go_at_call 10; go_must (
              refine (ours_at a b c d e _).mono ?_
              rintro ee w6 ⟨rfl, hf6⟩
              have hR6 := Blk.fr hR5.drew hf6 (by simp)
              have p2 : w6.cell? ⟨w5.heap.size, 2, none⟩ = some (.int .i64 a) := hR6.cell 2
              have p3 : w6.cell? ⟨w5.heap.size, 3, none⟩ = some (.int .i64 b) := hR6.cell 3
              have p4 : w6.cell? ⟨w5.heap.size, 4, none⟩ = some (.int .i64 c) := hR6.cell 4
              have p5 : w6.cell? ⟨w5.heap.size, 5, none⟩ = some (.int .i64 d) := hR6.cell 5
              have p6 : w6.cell? ⟨w5.heap.size, 6, none⟩ = some (.int .i64 e) := hR6.cell 6))
            all_goals
              go_simp
              go_wp2
              go_roundw
              case rel =>
                have hfx := ((Fr.refl [] w5).alloc (.cells #[.slice (some ⟨w3.heap.size + 1, 0, none⟩) 1 1, .int .i64 pos, .int .i64 a, .int .i64 b, .int .i64 c, .int .i64 d, .int .i64 e, .int .i64 1, .int .i64 u5] 32)).drew.trans hf6
                exact ⟨q + 1, P1, B1, by go_num, by omega, by omega, hP5.on hfx, hF5.trans hfx⟩
              case measure => simp [intOf]; omega
          · have ht1 : (t5 == 1) = false := beq_eq_false_iff_ne.2 ht
            clear g3 ht
            go_wp2_with fail
            go_quiet (fail)
            go_wp2
            go_roundw
            case rel =>
              exact ⟨q + 1, P1, B1, by go_num, by omega, by omega, hP5.on (((Fr.refl [] w5).alloc _).drewN _), hF5.trans (((Fr.refl [] w5).alloc _).drewN _)⟩
            case measure => simp [intOf]; omega
      · have h60' : 60 ≤ q := by omega
        go_wp2_with fail
        refine (awake_yes _).mono ?_
        rintro ee w4 ⟨rfl, hf4⟩
        go_wp2
        go_ret
        exact ⟨rfl, hF.trans (((Fr.refl [] wr).alloc _).trans hf4)⟩
    · obtain rfl : q = xs.length := by omega
      go_wp2_with fail
      refine (awake_yes _).mono ?_
      rintro ee w4 ⟨rfl, hf4⟩
      go_wp2
      go_ret
      exact ⟨rfl, hF.trans hf4⟩
end Go.Proofs.Ythhkannmeljfkaa
