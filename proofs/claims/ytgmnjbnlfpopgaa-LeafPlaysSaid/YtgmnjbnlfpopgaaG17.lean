import Derived.Test.YtgmnjbnlfpopgaaG16
import Derived.Deep.RegionWith
import Derived.Deep.RegionHeld3
namespace Go.Proofs.Ytgmnjbnlfpopgaa
open Go.RowKit Go.Proofs.Dm

/-- What is not to be touched while a call goes on: what lies below, the row that was, and the row that will be, and the call's own box. -/
def Keep3 (Z : Nat → Prop) (x : Nat) (A A' : Option Addr) (k : Nat) : Prop := Z k ∨ bk A = some k ∨ bk A' = some k ∨ k = x
/-- The row behind a call lies where the old one lay, or is new. -/
def NewOr (w1 w2 : World) (A A' : Option Addr) : Prop := ∀ j, bk A' = some j → bk A = some j ∨ (w1.heap.size ≤ j ∧ j < w2.heap.size)
section
variable {Z : Nat → Prop} {g r x : Nat} {S S' : List Int} {A A' : Option Addr} {w w1 w2 w3 w4 : World}
theorem keep3_base (hq : QAt (fun k => Z k ∨ bk A = some k) w w g r S) (hf : Fr [] w w1) (hf2 : Fr [] w1 w2) (hn : NewOr w1 w2 A A') (hx : w.heap.size ≤ x ∧ x < w2.heap.size) : QAt (Keep3 Z x A A') w2 w2 g r S := by
  have hd : ∀ k, (Z k ∨ bk A = some k) → k < w.heap.size := by
    obtain ⟨L, ⟨h1, _⟩, _⟩ := hq
    exact h1.dom
  refine hq.base (hf.trans hf2) (by simp) fun k hk => ?_
  have s1 := hf.size
  have s2 := hf2.size
  rcases hk with h | h | h | h
  · exact ⟨.inl (.inl h), by have := hd k (.inl h); omega⟩
  · exact ⟨.inl (.inr h), by have := hd k (.inr h); omega⟩
  · rcases hn k h with h | h
    · exact ⟨.inl (.inr h), by have := hd k (.inr h); omega⟩
    · exact ⟨.inr (by omega), h.2⟩
  · exact ⟨.inr (by omega), by omega⟩
theorem keep3_sl {B : Option Addr} (h : Sl w2 B (ints S)) (hq : QAt (Keep3 Z x A A') w2 w3 g r S') (hB : B = A ∨ B = A') (hf : Fr [] w3 w4) : Sl w4 B (ints S) := by
  have hU : FrU (Keep3 Z x A A') w2 w3 := by
    obtain ⟨L, ⟨h1, _⟩, _⟩ := hq
    exact h1
  obtain ⟨T, hT, hTU⟩ := FrU.toFr hU
  refine (h.fr hT ?_).fr hf (.inr List.not_mem_nil)
  cases hb : bk B with
  | none => exact .inl rfl
  | some j =>
    refine .inr (hTU j ?_)
    rcases hB with rfl | rfl
    · exact .inr (.inl hb)
    · exact .inr (.inr (.inl hb))
theorem step_end {c' : Nat} {e : Ending} (hb : ∀ k, Z k → k < w.heap.size) (hd : ∀ k, bk A = some k → k < w.heap.size) (hf : Fr [] w w1) (hf2 : Fr [] w1 w2) (hn : NewOr w1 w2 A A') (hs : Sl w2 A' (ints S')) (hc : S'.length ≤ c')
    (hq : QAt (Keep3 Z x A A') w2 w3 g r S') (hf4 : Fr [] w3 w4) (he : e = .returned (.tuple #[.slice A' S'.length c', .bool true])) : StepAns Z g r S' A w e w4 := by
  have s1 := hf.size
  have s2 := hf2.size
  have hU : FrU (Keep3 Z x A A') w2 w3 := by
    obtain ⟨L, ⟨h1, _⟩, _⟩ := hq
    exact h1
  have s3 := hU.size
  have s4 := hf4.size
  refine ⟨A', c', he, keep3_sl hs hq (.inr rfl) hf4, hc, hq.base hf4 (by simp) fun k hk => ?_, ?_, fun j hj => ?_⟩
  · rcases hk with h | h
    · exact ⟨.inl (.inl h), by have := hb k h; omega⟩
    · refine ⟨.inl (.inr (.inr (.inl h))), ?_⟩
      rcases hn k h with h | h
      · have := hd k h; omega
      · omega
  · exact (fru_of (hf.trans hf2) hU (fun k hk => .inl hk) hb).trans hf4
  · rcases hn j hj with h | h
    · exact .inl h
    · exact .inr (by omega)
end
theorem same_place (w : World) (A : Option Addr) : NewOr w w A A := fun _ h => .inl h

set_option maxRecDepth 100000 in
set_option maxHeartbeats 3200000 in
theorem step_put (Z : Nat → Prop) (g r c : Nat) (S : List Int) (A : Option Addr) (k n : Int) (w : World) (hk : k = 0 ∨ k = 1) (hb : ∀ k, Z k → k < w.heap.size) (hq : QAt (fun k => Z k ∨ bk A = some k) w w g r S) (hs : Sl w A (ints S)) (hc : S.length ≤ c) (hl : S.length ≤ 10000) :
    Calls Try.prog 31 #[.pointer (some ⟨g, 0, none⟩), .slice A S.length c, .agg #[.int .i64 k, .int .i64 n]] w (StepAns Z g r (putP S n) A w) := by
  have hd : ∀ k, bk A = some k → k < w.heap.size := by
    obtain ⟨L, ⟨h1, _⟩, _⟩ := hq
    exact fun k hk => h1.dom k (.inr hk)
  obtain ⟨S', hS'⟩ : ∃ S', S' = putP S n := ⟨_, rfl⟩
  have HP : Hid (∀ w1, Fr [] w w1 → Calls Try.prog 29 #[.slice A S.length c, .int .i64 n] w1 fun e w2 => ∃ A' c', e = .returned (.slice A' S'.length c') ∧ Sl w2 A' (ints S') ∧ S'.length ≤ c' ∧ Fr [] w w2 ∧ NewOr w w2 A A' ∧ Fr [] w1 w2) := by
    show ∀ _, _
    intro w1 hf
    rw [hS']
    refine (rput_any A c S n w1 (hs.fr hf (.inr List.not_mem_nil)) hc hl).mono ?_
    rintro e w2 ⟨A', c', h1, h2, h3, h4, h5⟩
    refine ⟨A', c', h1, h2, h3, hf.trans h4, fun j hj => ?_, h4⟩
    have := hf.size
    rcases h5 j hj with h | h
    · exact .inl h
    · exact .inr (by omega)
  obtain ⟨d, hdd⟩ : ∃ d, d = decide (n ∈ S) := ⟨_, rfl⟩
  have HQ : Hid (∀ w2 A', Fr [] w w2 → w.heap.size < w2.heap.size → NewOr w w2 A A' → Calls Try.prog 34 #[.pointer (some ⟨g, 0, none⟩), .int .i64 n] w2 fun e w3 => e = .returned (.bool (!d)) ∧ QAt (Keep3 Z w.heap.size A A') w2 w3 g r S' ∧ w3.cell? ⟨w.heap.size, 1, none⟩ = w2.cell? ⟨w.heap.size, 1, none⟩) := by
    show ∀ _, _
    intro w2 A' hf hx hn
    rw [hS', hdd]
    refine (put_at _ w2 w2 g r S n (keep3_base hq (Fr.refl _ _) hf hn ⟨Nat.le_refl _, hx⟩) (by omega)).mono ?_
    rintro e w3 ⟨h1, h2⟩
    refine ⟨h1, h2, ?_⟩
    obtain ⟨L, ⟨h3, _⟩, _⟩ := h2
    exact World.cell?_of_block (w := w2) (h3.block w.heap.size (.inr (.inr (.inr rfl))))
  have HH : Hid (∀ w2 w3 A', Fr [] w w2 → QAt (Keep3 Z w.heap.size A A') w2 w3 g r S' → Calls Try.prog 26 #[.slice A S.length c, .int .i64 n] w3 fun e w4 => e = .returned (.bool d) ∧ w3 = w4) := by
    show ∀ _, _
    intro w2 w3 A' hf hq3
    rw [hdd]
    exact rhas_any A c S n w3 (keep3_sl (hs.fr hf (.inr List.not_mem_nil)) hq3 (.inl rfl) (Fr.refl _ _)) hl
  have HE : Hid (∀ (w2 w3 w4 : World) (A' : Option Addr) (c' : Nat) (e : Ending), Fr [] w w2 → NewOr w w2 A A' → Sl w2 A' (ints S') → S'.length ≤ c' → QAt (Keep3 Z w.heap.size A A') w2 w3 g r S' → Fr [] w3 w4 → e = .returned (.tuple #[.slice A' S'.length c', .bool true]) → StepAns Z g r S' A w e w4) := by
    show ∀ _, _
    intro w2 w3 w4 A' c' e h2 h3 h4 h5 h6 h7 h8
    exact step_end hb hd (Fr.refl _ _) h2 h3 h4 h5 h6 h7 h8
  rw [← hS']
  clear hS' hdd hd hq hs hb hc hl
  have H0 : Hid (Fr [] w (w.alloc (.cells #[.int .i64 k, .int .i64 n] 49))) := (Fr.refl [] w).alloc _
  have hcell : (w.alloc (.cells #[.int .i64 k, .int .i64 n] 49)).cell? ⟨w.heap.size, 1, none⟩ = some (.int .i64 n) := (Blk.new w 49 #[.int .i64 k, .int .i64 n]).cell 1
  rcases hk with rfl | rfl
  all_goals
    go_enter Try.func31, Try.ntmps31
    go_wp2_with fail
    go_region_held3 (fun w' => w'.cell? ⟨w.heap.size, 1, none⟩ = some (.int .i64 n)) (go_keep)
      (first
        | (go_at_call 29; go_must (refine (HP.out _ (by first | exact H0.out | exact H0.out.drew)).mono ?_; rintro e w2 ⟨A', c', rfl, hs2, hc2, hf2, hn2, hg2⟩; have hcl2 : w2.cell? ⟨w.heap.size, 1, none⟩ = some (.int .i64 n) := (hg2.cell (p := ⟨w.heap.size, 1, none⟩) (by simp) (by simp)).trans hcell; have hz2 : w.heap.size < w2.heap.size := by have := hg2.size; simp at this; omega))
        | (go_at_call 34; go_must (refine (HQ.out _ A' hf2 hz2 hn2).mono ?_; rintro e w3 ⟨rfl, hq3, hk3⟩; have hcl3 : w3.cell? ⟨w.heap.size, 1, none⟩ = some (.int .i64 n) := hk3.trans hcl2; clear hk3))
        | (go_at_call 26; go_must (refine (HH.out _ _ A' hf2 hq3).mono ?_; rintro e w4 ⟨rfl, rfl⟩)))
    all_goals go_simp
    all_goals go_wp2
    all_goals go_ret2
    all_goals exact HE.out _ _ _ A' c' _ hf2 hn2 hs2 hc2 hq3 (Fr.refl _ _) rfl
end Go.Proofs.Ytgmnjbnlfpopgaa
