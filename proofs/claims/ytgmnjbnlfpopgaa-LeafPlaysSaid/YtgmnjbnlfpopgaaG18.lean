import Derived.Test.YtgmnjbnlfpopgaaG17
namespace Go.Proofs.Ytgmnjbnlfpopgaa
open Go.RowKit Go.Proofs.Dm

set_option maxRecDepth 100000 in
set_option maxHeartbeats 3200000 in
theorem step_drop (Z : Nat → Prop) (g r c : Nat) (S : List Int) (A : Option Addr) (k n : Int) (w : World) (hk : k = 2 ∨ k = 3) (hb : ∀ k, Z k → k < w.heap.size) (hq : QAt (fun k => Z k ∨ bk A = some k) w w g r S) (hs : Sl w A (ints S)) (hc : S.length ≤ c) (hl : S.length ≤ 10000) :
    Calls Try.prog 31 #[.pointer (some ⟨g, 0, none⟩), .slice A S.length c, .agg #[.int .i64 k, .int .i64 n]] w (StepAns Z g r (butI S n) A w) := by
  have hd : ∀ k, bk A = some k → k < w.heap.size := by
    obtain ⟨L, ⟨h1, _⟩, _⟩ := hq
    exact fun k hk => h1.dom k (.inr hk)
  obtain ⟨S', hS'⟩ : ∃ S', S' = butI S n := ⟨_, rfl⟩
  have HP : Hid (∀ w1, Fr [] w w1 → Calls Try.prog 47 #[.slice A S.length c, .int .i64 n] w1 fun e w2 => ∃ A' c', e = .returned (.slice A' S'.length c') ∧ Sl w2 A' (ints S') ∧ S'.length ≤ c' ∧ Fr [] w w2 ∧ NewOr w w2 A A' ∧ Fr [] w1 w2) := by
    show ∀ _, _
    intro w1 hf
    rw [hS']
    refine (rdrop_any A c S n w1 (hs.fr hf (.inr List.not_mem_nil)) hl).mono ?_
    rintro e w2 ⟨A', c', h1, h2, h4, h5⟩
    refine ⟨A', c', h1, h2.sl, ORow.cap h2, hf.trans h4, fun j hj => ?_, h4⟩
    have := hf.size
    have := h5 j hj
    have := h2.lt hj
    exact .inr (by omega)
  obtain ⟨d, hdd⟩ : ∃ d, d = decide (n ∈ S) := ⟨_, rfl⟩
  have HQ : Hid (∀ w2 A', Fr [] w w2 → w.heap.size < w2.heap.size → NewOr w w2 A A' → Calls Try.prog 35 #[.pointer (some ⟨g, 0, none⟩), .int .i64 n] w2 fun e w3 => e = .returned (.bool d) ∧ QAt (Keep3 Z w.heap.size A A') w2 w3 g r S' ∧ w3.cell? ⟨w.heap.size, 1, none⟩ = w2.cell? ⟨w.heap.size, 1, none⟩) := by
    show ∀ _, _
    intro w2 A' hf hx hn
    rw [hS', hdd]
    refine (drop_at _ w2 w2 g r S n (keep3_base hq (Fr.refl _ _) hf hn ⟨Nat.le_refl _, hx⟩)).mono ?_
    rintro e w3 ⟨h1, h2⟩
    refine ⟨h1, h2, ?_⟩
    obtain ⟨L, ⟨h3, _⟩, _⟩ := h2
    exact World.cell?_of_block (w := w2) (h3.block w.heap.size (.inr (.inr (.inr rfl))))
  have HH : Hid (∀ w2 w3 A', Fr [] w w2 → QAt (Keep3 Z w.heap.size A A') w2 w3 g r S' → Calls Try.prog 26 #[.slice A S.length c, .int .i64 n] w3 fun e w4 => e = .returned (.bool d) ∧ w3 = w4) := by
    show ∀ _, _
    intro w2 w3 A' hf hq3
    rw [hdd]
    exact rhas_any A c S n w3 (keep3_sl (hs.fr hf (.inr List.not_mem_nil)) hq3 (.inl rfl) (Fr.refl _ _)) hl
  have HE : Hid (∀ (w2 w3 w4 : World) (A' : Option Addr) (c' : Nat) (e : Ending), Fr [] w w2 → NewOr w w2 A A' → Sl w2 A' (ints S') → S'.length ≤ c' → QAt (Keep3 Z w.heap.size A A') w2 w3 g r S' → Fr [] w3 w4 → e = .returned (.tuple #[.slice A' S'.length c', .bool true]) → StepAns Z g r S' A w e w4) := by
    show ∀ _, _
    intro w2 w3 w4 A' c' e h2 h3 h4 h5 h6 h7 h8
    exact step_end hb hd (Fr.refl _ _) h2 h3 h4 h5 h6 h7 h8
  rw [← hS']
  clear hS' hdd hd hq hs hb hc hl
  have H0 : Hid (Fr [] w (w.alloc (.cells #[.int .i64 k, .int .i64 n] 49))) := (Fr.refl [] w).alloc _
  have hcell : (w.alloc (.cells #[.int .i64 k, .int .i64 n] 49)).cell? ⟨w.heap.size, 1, none⟩ = some (.int .i64 n) := (Blk.new w 49 #[.int .i64 k, .int .i64 n]).cell 1
  rcases hk with rfl | rfl
  all_goals
    go_enter Try.func31, Try.ntmps31
    go_wp2_with fail
    go_region_held3 (fun w' => w'.cell? ⟨w.heap.size, 1, none⟩ = some (.int .i64 n)) (go_keep)
      (first
        | (go_at_call 47; go_must (refine (HP.out _ (by first | exact H0.out | exact H0.out.drew)).mono ?_; rintro e w2 ⟨A', c', rfl, hs2, hc2, hf2, hn2, hg2⟩; have hcl2 : w2.cell? ⟨w.heap.size, 1, none⟩ = some (.int .i64 n) := (hg2.cell (p := ⟨w.heap.size, 1, none⟩) (by simp) (by simp)).trans hcell; have hz2 : w.heap.size < w2.heap.size := by have := hg2.size; simp at this; omega))
        | (go_at_call 35; go_must (refine (HQ.out _ A' hf2 hz2 hn2).mono ?_; rintro e w3 ⟨rfl, hq3, hk3⟩; have hcl3 : w3.cell? ⟨w.heap.size, 1, none⟩ = some (.int .i64 n) := hk3.trans hcl2; clear hk3))
        | (go_at_call 26; go_must (refine (HH.out _ _ A' hf2 hq3).mono ?_; rintro e w4 ⟨rfl, rfl⟩)))
    all_goals go_simp
    all_goals go_wp2
    all_goals go_ret2
    all_goals exact HE.out _ _ _ A' c' _ hf2 hn2 hs2 hc2 hq3 (Fr.refl _ _) rfl
theorem pop_keep {Z : Nat → Prop} {g r : Nat} {S : List Int} {A A' : Option Addr} {w w2 : World} (hq : QAt (fun k => Z k ∨ bk A = some k) w w g r S) (hA : bk A' = bk A) (hf : Fr [] w w2) (hx : w.heap.size < w2.heap.size) :
    Calls Try.prog 25 #[.pointer (some ⟨g, 0, none⟩)] w2 fun e w3 => e = .returned (.tuple #[.int .i64 (S.headD 0), .bool (decide (0 < S.length))]) ∧ QAt (Keep3 Z w.heap.size A A') w2 w3 g r S.tail ∧ w3.cell? ⟨w.heap.size, 1, none⟩ = w2.cell? ⟨w.heap.size, 1, none⟩ := by
  refine (qpop_at _ w2 w2 g r S (keep3_base hq (Fr.refl _ _) hf (A' := A') (fun j hj => .inl (by rw [← hA]; exact hj)) ⟨Nat.le_refl _, hx⟩)).mono ?_
  rintro e w3 ⟨h1, h2⟩
  refine ⟨h1, h2, ?_⟩
  obtain ⟨L, ⟨h3, _⟩, _⟩ := h2
  exact World.cell?_of_block (w := w2) (h3.block w.heap.size (.inr (.inr (.inr rfl))))
set_option maxRecDepth 100000 in
set_option maxHeartbeats 3200000 in
theorem step_pop_nil (Z : Nat → Prop) (g r c : Nat) (A : Option Addr) (n : Int) (w : World) (hb : ∀ k, Z k → k < w.heap.size) (hq : QAt (fun k => Z k ∨ bk A = some k) w w g r []) (hs : Sl w A (ints [])) :
    Calls Try.prog 31 #[.pointer (some ⟨g, 0, none⟩), .slice A ([] : List Int).length c, .agg #[.int .i64 4, .int .i64 n]] w (StepAns Z g r [] A w) := by
  have hd : ∀ k, bk A = some k → k < w.heap.size := by
    obtain ⟨L, ⟨h1, _⟩, _⟩ := hq
    exact fun k hk => h1.dom k (.inr hk)
  have HP : Hid (∀ w2, Fr [] w w2 → w.heap.size < w2.heap.size → _) := fun w2 hf hx => pop_keep (A' := A) (w2 := w2) hq rfl hf hx
  have HE : Hid (∀ (w2 w3 : World) (e : Ending), Fr [] w w2 → QAt (Keep3 Z w.heap.size A A) w2 w3 g r [] → e = .returned (.tuple #[.slice A ([] : List Int).length c, .bool true]) → StepAns Z g r [] A w e w3) := by
    show ∀ _, _
    intro w2 w3 e h2 h6 h8
    exact step_end hb hd (Fr.refl _ _) h2 (fun _ h => .inl h) (.inl rfl) (Nat.zero_le _) h6 (Fr.refl _ _) h8
  have H0 : Hid (Fr [] w (w.alloc (.cells #[.int .i64 4, .int .i64 n] 49))) := (Fr.refl [] w).alloc _
  clear hq hs hd hb
  go_enter Try.func31, Try.ntmps31
  go_wp2_with fail
  refine (HP.out _ H0.out (by simp)).mono ?_
  rintro e w3 ⟨rfl, hq3, _⟩
  have HQ3 := Lib.hid hq3
  clear hq3
  go_wp2_with fail
  go_ret2
  exact HE.out _ _ _ H0.out HQ3.out rfl
set_option maxRecDepth 100000 in
set_option maxHeartbeats 3200000 in
theorem step_pop_cons (Z : Nat → Prop) (g r c : Nat) (x : Int) (T : List Int) (A : Option Addr) (n : Int) (w : World) (hb : ∀ k, Z k → k < w.heap.size) (hq : QAt (fun k => Z k ∨ bk A = some k) w w g r (x :: T)) (hs : Sl w A (ints (x :: T))) (hc : (x :: T).length ≤ c) (hl : (x :: T).length ≤ 10000) :
    Calls Try.prog 31 #[.pointer (some ⟨g, 0, none⟩), .slice A (x :: T).length c, .agg #[.int .i64 4, .int .i64 n]] w (StepAns Z g r T A w) := by
  have hd : ∀ k, bk A = some k → k < w.heap.size := by
    obtain ⟨L, ⟨h1, _⟩, _⟩ := hq
    exact fun k hk => h1.dom k (.inr hk)
  obtain ⟨ad, rfl, hcell⟩ := sl_ints hs (show 0 < (x :: T).length by simp)
  have HP : Hid (∀ (A' : Option Addr) (w2 : World), bk A' = some ad.block → Fr [] w w2 → w.heap.size < w2.heap.size → _) := fun A' w2 hA hf hx => pop_keep (A' := A') (w2 := w2) hq hA hf hx
  have HC : Hid (∀ (A' : Option Addr) (w2 w3 : World), Fr [] w w2 → QAt (Keep3 Z w.heap.size (some ad) A') w2 w3 g r T → w3.cell? ad = some (.int .i64 x)) := by
    show ∀ _, _
    intro A' w2 w3 hf h
    obtain ⟨ad', he, hcl⟩ := sl_ints (keep3_sl (hs.fr hf (.inr List.not_mem_nil)) h (.inl rfl) (Fr.refl _ _)) (show 0 < (x :: T).length by simp)
    injection he with he
    subst he
    simpa [Addr.add] using hcl
  have HE : Hid (∀ (A' : Option Addr) (c' : Nat) (w2 w3 : World) (e : Ending), bk A' = some ad.block → (∀ w', Sl w' (some ad) (ints (x :: T)) → Sl w' A' (ints T)) → T.length ≤ c' → Fr [] w w2 → QAt (Keep3 Z w.heap.size (some ad) A') w2 w3 g r T → e = .returned (.tuple #[.slice A' T.length c', .bool true]) → StepAns Z g r T (some ad) w e w3) := by
    show ∀ _, _
    intro A' c' w2 w3 e hA hT hc' h2 h6 h8
    exact step_end hb hd (Fr.refl _ _) h2 (fun j hj => .inl (by rw [hA] at hj; exact hj)) (hT _ (hs.fr h2 (.inr List.not_mem_nil))) hc' h6 (Fr.refl _ _) h8
  have H0 : Hid (Fr [] w (w.alloc (.cells #[.int .i64 4, .int .i64 n] 49))) := (Fr.refl [] w).alloc _
  rw [show (x :: T).length = T.length + 1 from rfl] at hc hl ⊢
  clear hq hs hd hb hcell
  by_cases h1 : c = 1
  · subst h1
    obtain rfl : T = [] := List.eq_nil_of_length_eq_zero (by omega)
    clear hc hl
    go_enter Try.func31, Try.ntmps31
    go_wp2_with fail
    refine (HP.out (some ad) _ rfl H0.out (by simp)).mono ?_
    rintro e w3 ⟨rfl, hq3, _⟩
    have hcl := HC.out _ _ _ H0.out hq3
    have HQ3 := Lib.hid hq3
    clear hq3
    go_wp2_with fail
    go_quiet (fail)
    go_wp2_with fail
    go_ret2
    exact HE.out _ _ _ _ _ rfl (fun _ _ => .inl rfl) (Nat.zero_le _) H0.out (QAt.grow HQ3.out ((Fr.refl [] _).drewN _)) rfl
  · have hT := T.length
    have hlt : 1 < c := by omega
    clear h1
    go_enter Try.func31, Try.ntmps31
    go_wp2_with fail
    refine (HP.out (some ⟨ad.block, ad.off + 1, none⟩) _ rfl H0.out (by simp)).mono ?_
    rintro e w3 ⟨rfl, hq3, _⟩
    have hcl := HC.out _ _ _ H0.out hq3
    have HQ3 := Lib.hid hq3
    clear hq3
    go_wp2_with fail
    go_quiet (fail)
    go_wp2_with fail
    go_ret2
    exact HE.out _ _ _ _ _ rfl (fun _ => tail_sl) (by omega) H0.out (QAt.grow HQ3.out ((Fr.refl [] _).drewN _)) rfl
set_option maxRecDepth 100000 in
set_option maxHeartbeats 3200000 in
theorem step_no (Z : Nat → Prop) (g r c : Nat) (S : List Int) (A : Option Addr) (k n : Int) (w : World) (hk : k < 0 ∨ 4 < k) (hb : ∀ k, Z k → k < w.heap.size) (hq : QAt (fun k => Z k ∨ bk A = some k) w w g r S) (hs : Sl w A (ints S)) (hc : S.length ≤ c) :
    Calls Try.prog 31 #[.pointer (some ⟨g, 0, none⟩), .slice A S.length c, .agg #[.int .i64 k, .int .i64 n]] w (StepAns Z g r S A w) := by
  have hd : ∀ k, bk A = some k → k < w.heap.size := by
    obtain ⟨L, ⟨h1, _⟩, _⟩ := hq
    exact fun k hk => h1.dom k (.inr hk)
  have HE : Hid (∀ (w4 : World) (e : Ending), Fr [] w w4 → w.heap.size < w4.heap.size → e = .returned (.tuple #[.slice A S.length c, .bool true]) → StepAns Z g r S A w e w4) := by
    show ∀ _, _
    intro w4 e h2 hx h8
    obtain ⟨w5, hw5⟩ : ∃ w5, w5 = w4 := ⟨_, rfl⟩
    have hb2 : QAt (Keep3 Z w.heap.size A A) w4 w4 g r S := keep3_base hq (Fr.refl _ _) h2 (fun _ h => .inl h) ⟨Nat.le_refl _, hx⟩
    exact step_end hb hd (Fr.refl _ _) h2 (fun _ h => .inl h) (hs.fr h2 (.inr List.not_mem_nil)) hc hb2 (Fr.refl _ _) h8
  have H0 : Hid (Fr [] w (w.alloc (.cells #[.int .i64 k, .int .i64 n] 49))) := (Fr.refl [] w).alloc _
  clear hq hs hd hb hc
  rcases hk with hk | hk
  all_goals
    go_enter Try.func31, Try.ntmps31
    go_wp2_with fail
    go_ret2
    exact HE.out _ _ H0.out (by simp) rfl
theorem step_any (Z : Nat → Prop) (g r c : Nat) (S : List Int) (A : Option Addr) (k n : Int) (w : World) (hb : ∀ k, Z k → k < w.heap.size) (hq : QAt (fun k => Z k ∨ bk A = some k) w w g r S) (hs : Sl w A (ints S)) (hc : S.length ≤ c) (hl : S.length ≤ 10000) :
    Calls Try.prog 31 #[.pointer (some ⟨g, 0, none⟩), .slice A S.length c, .agg #[.int .i64 k, .int .i64 n]] w (StepAns Z g r (stepP S k n) A w) := by
  unfold stepP
  by_cases h0 : k = 0 ∨ k = 1
  · rw [if_pos h0]; exact step_put Z g r c S A k n w h0 hb hq hs hc hl
  · rw [if_neg h0]
    by_cases h2 : k = 2 ∨ k = 3
    · rw [if_pos h2]; exact step_drop Z g r c S A k n w h2 hb hq hs hc hl
    · rw [if_neg h2]
      by_cases h4 : k = 4
      · rw [if_pos h4, h4]
        cases S with
        | nil => exact step_pop_nil Z g r c A n w hb hq hs
        | cons x T => exact step_pop_cons Z g r c x T A n w hb hq hs hc hl
      · rw [if_neg h4]; exact step_no Z g r c S A k n w (by omega) hb hq hs hc
end Go.Proofs.Ytgmnjbnlfpopgaa
