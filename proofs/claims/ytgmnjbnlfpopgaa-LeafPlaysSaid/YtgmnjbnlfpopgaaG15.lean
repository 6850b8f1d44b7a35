import Derived.Test.YtgmnjbnlfpopgaaG14
namespace Go.Proofs.Ytgmnjbnlfpopgaa
open Go.RowKit Go.Proofs.Dm

set_option maxRecDepth 100000 in
set_option maxHeartbeats 3200000 in
theorem like_at (U : Nat → Prop) (w0 w : World) (g r : Nat) (S : List Int) (A : Option Addr) (c : Nat) (n : Int) (h : QAt U w0 w g r S) (hs : Sl w A (ints S)) (hl : S.length ≤ 10000) :
    Calls Try.prog 30 #[.pointer (some ⟨g, 0, none⟩), .slice A S.length c, .int .i64 n] w fun e w' => e = .returned (.bool true) ∧ Fr [] w w' := by
  have ht := top_at U w0 w g r S h
  have hro := rother_any A c S n w hs hl
  have hot := other_at U w0 w g r S n h
  obtain ⟨v, hv⟩ : ∃ v, v = (butI S n).headD 0 := ⟨_, rfl⟩
  obtain ⟨b, hb⟩ : ∃ b, b = decide (0 < (butI S n).length) := ⟨_, rfl⟩
  rw [← hv, ← hb] at hro hot
  have HLEN : Hid (∀ w', Fr [] w w' → Calls Try.prog 27 #[.pointer (some ⟨g, 0, none⟩)] w' fun e w'' => e = .returned (.int .i64 S.length) ∧ w' = w'') := by
    show ∀ _, _
    intro w' hf
    exact qlen_at U w0 w' g r S (h.grow hf)
  obtain ⟨d, hd⟩ : ∃ d, d = decide (n ∈ S) := ⟨_, rfl⟩
  have HHAS : Hid (∀ w', Fr [] w w' → Calls Try.prog 36 #[.pointer (some ⟨g, 0, none⟩), .int .i64 n] w' fun e w'' => e = .returned (.bool d) ∧ Fr [] w' w'') := by
    show ∀ _, _
    intro w' hf
    rw [hd]
    exact has_at U w0 w' g r S n (h.grow hf)
  have HRHAS : Hid (∀ w', Fr [] w w' → Calls Try.prog 26 #[.slice A S.length c, .int .i64 n] w' fun e w'' => e = .returned (.bool d) ∧ w' = w'') := by
    show ∀ _, _
    intro w' hf
    rw [hd]
    exact rhas_any A c S n w' (hs.fr hf (.inr List.not_mem_nil)) hl
  have HALL : Hid (∀ w', Fr [] w w' → Calls Try.prog 24 #[.pointer (some ⟨g, 0, none⟩)] w' (AllAns w' S)) := by
    show ∀ _, _
    intro w' hf
    exact all_at U w0 w' g r S (h.grow hf)
  have HSAME : Hid (∀ w' B d, Fr [] w w' → Sl w' B (ints S) → Calls Try.prog 14 #[.slice B S.length d, .slice A S.length c] w' fun e w'' => e = .returned (.bool true) ∧ Fr [] w' w'') := by
    show ∀ _, _
    intro w' B d hf hB
    exact same_yes B A d c S w' hB (hs.fr hf (.inr List.not_mem_nil)) (by omega)
  have HT := Lib.hid ht
  have HRO := Lib.hid hro
  have HOT := Lib.hid hot
  clear ht hro hot hv hb hd h
  rcases Nat.eq_zero_or_pos S.length with h0 | h0
  · obtain rfl := List.eq_nil_of_length_eq_zero h0
    clear h0 hs hl
    go_enter Try.func30, Try.ntmps30
    go_wp2_with fail
    refine HT.out.mono ?_
    rintro e w1 ⟨rfl, rfl⟩
    go_wp2_with fail
    refine HRO.out.mono ?_
    rintro e w1 ⟨rfl, rfl⟩
    go_wp2_with fail
    refine HOT.out.mono ?_
    rintro e w1 ⟨rfl, hf1⟩
    go_wp2_with fail
    refine (HLEN.out w1 hf1).mono ?_
    rintro e w2 ⟨rfl, rfl⟩
    go_wp2_with fail
    refine (HHAS.out w1 hf1).mono ?_
    rintro e w2 ⟨rfl, hf2⟩
    have hF2 := hf1.trans hf2
    go_wp2_with fail
    refine (HRHAS.out w2 hF2).mono ?_
    rintro e w3 ⟨rfl, rfl⟩
    go_wp2_with fail
    refine (HALL.out w2 hF2).mono ?_
    rintro e w3 ⟨B, cB, rfl, hB, hf3, _⟩
    have hF3 := hF2.trans hf3
    have HSB := Lib.hid (HSAME.out w3 B cB hF3 hB)
    go_wp2_with fail
    refine HSB.out.mono ?_
    rintro e w4 ⟨rfl, hf4⟩
    go_wp2_with fail
    go_ret
    exact ⟨rfl, hF3.trans hf4⟩
  · have hd0 : decide (0 < S.length) = true := by simp [h0]
    rw [hd0] at HT
    obtain ⟨ad, rfl, hcell⟩ := sl_ints hs h0
    obtain ⟨x, hx⟩ : ∃ x, x = S.getD 0 0 := ⟨_, rfl⟩
    have hxh : S.headD 0 = x := by
      rw [hx]
      cases S with
      | nil => rfl
      | cons y S => rfl
    rw [← hx] at hcell
    rw [hxh] at HT
    have hc0 : ∀ w', Fr [] w w' → w'.cell? ad = some (.int .i64 x) := fun w' hf => by
      have hcell' : w.cell? ad = some (.int .i64 x) := by simpa [Addr.add] using hcell
      rw [hf.cell (World.block_lt_of_cell? w _ hcell') (by simp)]
      exact hcell'
    have HC0 := Lib.hid hc0
    have hp0 : (0 : Int) < (S.length : Int) := by omega
    clear hx hxh hd0 hs hcell hc0
    go_enter Try.func30, Try.ntmps30
    go_wp2_with fail
    refine HT.out.mono ?_
    rintro e w1 ⟨rfl, rfl⟩
    go_wp2_with fail
    refine HRO.out.mono ?_
    rintro e w1 ⟨rfl, rfl⟩
    go_wp2_with fail
    refine HOT.out.mono ?_
    rintro e w1 ⟨rfl, hf1⟩
    have hce := HC0.out w1 hf1
    go_wp2_with fail
    refine (HLEN.out w1 hf1).mono ?_
    rintro e w2 ⟨rfl, rfl⟩
    go_wp2_with fail
    refine (HHAS.out w1 hf1).mono ?_
    rintro e w2 ⟨rfl, hf2⟩
    have hF2 := hf1.trans hf2
    go_wp2_with fail
    refine (HRHAS.out w2 hF2).mono ?_
    rintro e w3 ⟨rfl, rfl⟩
    go_wp2_with fail
    refine (HALL.out w2 hF2).mono ?_
    rintro e w3 ⟨B, cB, rfl, hB, hf3, _⟩
    have hF3 := hF2.trans hf3
    have HSB := Lib.hid (HSAME.out w3 B cB hF3 hB)
    go_wp2_with fail
    refine HSB.out.mono ?_
    rintro e w4 ⟨rfl, hf4⟩
    go_wp2_with fail
    go_ret
    exact ⟨rfl, hF3.trans hf4⟩
end Go.Proofs.Ytgmnjbnlfpopgaa
