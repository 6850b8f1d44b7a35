import Derived.Test.YtgmnjbnlfpopgaaG7
import Derived.Test.YtgmnjbnlfpopgaaShelf
import Derived.Test.YtgmnjbnlfpopgaaK3
namespace Go.Proofs.Ytgmnjbnlfpopgaa
open Go.RowKit Go.Proofs.Dm

def leI (x y : Int) : Bool := decide (x ≤ y)
theorem msort_eq {L S : List Int} (hp : L.Perm S) (hs : S.Pairwise (· < ·)) : L.mergeSort (fun x y => decide (x ≤ y)) = S := by
  refine List.Perm.eq_of_pairwise (le := fun a b : Int => a ≤ b) (fun a b _ _ h1 h2 => Int.le_antisymm h1 h2) ?_ (hs.imp fun h => Int.le_of_lt h) ((List.mergeSort_perm L _).trans hp)
  have := List.pairwise_mergeSort (le := fun x y : Int => decide (x ≤ y)) (fun a b c h1 h2 => by simp at h1 h2 ⊢; omega) (fun a b => by simp; omega) L
  exact this.imp fun h => by simpa using h
open Go.Sort in
theorem fr_sort (w : World) (n b off : Nat) (d : Array Int) (os : Array Obj) : Fr [some b] w (grow (putRow (Value.int .i64) (Sort.ahead w n) b off d) os) := by
  refine ⟨rfl, rfl, rfl, ?_, fun k hk hn => ?_⟩
  · rw [size_grow]
    have : (putRow (Value.int .i64) (Sort.ahead w n) b off d).heap.size = w.heap.size := by simp [putRow, mapBlock, Sort.ahead]
    omega
  · have hs : (putRow (Value.int .i64) (Sort.ahead w n) b off d).heap.size = w.heap.size := by simp [putRow, mapBlock, Sort.ahead]
    rw [heap_grow_old _ _ (by rw [hs]; exact hk)]
    have hkb : b ≠ k := by simpa [eq_comm] using hn
    simp [putRow, mapBlock, Sort.ahead, Array.getElem?_modify, hkb]
open Go.Sort in
theorem sort_at (A : Option Addr) (c : Nat) (zs : List Int) (w : World) (h : IRow w 3 A c zs) (hl : zs.length ≤ 1000000) :
    Calls Try.prog 44 #[.slice A zs.length c] w fun e w' => e = .returned (.tuple #[]) ∧ Sl w' A (ints (zs.mergeSort fun x y => decide (x ≤ y))) ∧ Fr [bk A] w w' := by
  by_cases h0 : zs = []
  · subst h0
    refine (Try.slices_Sort_int_none A c w).mono fun e w' ⟨he, hw⟩ => ?_
    subst hw
    exact ⟨he, .inl (by simp [ints]), Fr.refl _ _⟩
  · obtain ⟨b, rfl⟩ := orow_some h (by intro e; exact h0 (by simpa [ints] using e))
    have hb : b < w.heap.size := h.lt rfl
    have hH : Holds (Value.int .i64) w b 0 zs.toArray := fun j hj => by
      have hj' : j < zs.length := by simpa using hj
      rw [Nat.zero_add]
      refine ⟨?_, World.ownsRow.frozenAt h _⟩
      rw [World.ownsRow.cellAt h _ (by omega), ints_get _ _ hj']
      simp [hj']
    refine (Try.slices_Sort_int b 0 c zs w hH hb (by omega)).mono fun e w' ⟨he, n, os, hw⟩ => ?_
    subst hw
    refine ⟨he, .inr ⟨_, rfl, fun j u hu => ?_⟩, fr_sort w n b 0 _ os⟩
    obtain ⟨T, hT⟩ : ∃ T, T = zs.mergeSort fun x y => decide (x ≤ y) := ⟨_, rfl⟩
    rw [← hT] at hu ⊢
    have hTl : T.length = zs.length := by rw [hT]; exact (List.mergeSort_perm _ _).length_eq
    have hj : j < T.length := by
      rcases Nat.lt_or_ge j T.length with h | h
      · exact h
      · rw [List.getElem?_eq_none (by rw [ints_len']; exact h)] at hu; cases hu
    rw [ints_get _ j hj] at hu
    injection hu with hu
    subst hu
    have ha : (⟨b, 0, none⟩ : Addr).add j = ⟨b, 0 + j, none⟩ := by
      unfold Addr.add
      by_cases h : j = 0 <;> simp [h]
    rw [ha]
    rw [cell?_grow _ _ _ (by simp [putRow, mapBlock, Sort.ahead]; exact hb)]
    have hH' : Holds (Value.int .i64) (Sort.ahead w n) b 0 zs.toArray := fun j hj => hH j hj
    rw [cell?_putRow (Value.int .i64) (Sort.ahead w n) b 0 zs.toArray T.toArray hH' (by simp [hTl]) j (by simpa using hj)]
    simp [hj]

def AllAns (w : World) (S : List Int) (e : Ending) (w' : World) : Prop := ∃ A c, e = .returned (.slice A S.length c) ∧ Sl w' A (ints S) ∧ Fr [] w w' ∧ ∀ j, bk A = some j → w.heap.size ≤ j ∧ j < w'.heap.size
theorem all_at (U : Nat → Prop) (w0 w : World) (g r : Nat) (S : List Int) (h : QAt U w0 w g r S) :
    Calls Try.prog 24 #[.pointer (some ⟨g, 0, none⟩)] w (AllAns w S) := by
  obtain ⟨L, ⟨h1, h2, h3, h4, h5, h6, A, cap, m, bs, c, k1, k2, k3, k4, k5⟩, hH, hp, hs⟩ := h
  have c0 : w.cell? ⟨g, 0, none⟩ = some (.slice A L.length cap) := k1.cell 0
  have hgl := k1.lt
  have hcl := clone_any A cap L w k2.sl (by omega)
  have hms := msort_eq hp hs
  have hpl := hp.length_eq
  have HC := Lib.hid hcl
  have HMS := Lib.hid hms
  have HPL := Lib.hid hpl
  clear hcl hms hpl h1 k1 k2 k3 k4 k5 hH hp hs h5
  go_enter Try.func24, Try.ntmps24
  go_wp2_with fail
  refine HC.out.mono ?_
  rintro e w1 ⟨A1, c1, rfl, hr1, hf1, hA1⟩
  have hso := sort_at A1 c1 L w1 hr1 h6
  have hlt : ∀ j, bk A1 = some j → j < w1.heap.size := fun j hj => hr1.lt hj
  rw [HMS.out] at hso
  have HSO := Lib.hid hso
  have HLT := Lib.hid hlt
  clear hso HC c0 hlt hr1
  go_wp2_with fail
  refine HSO.out.mono ?_
  rintro e w2 ⟨rfl, hs2, hf2⟩
  have hF : Fr [] w w2 := hf1.seq hf2 (by
    intro x hx
    simp at hx; subst hx
    rcases hA1 with h | ⟨j, h1, h2⟩
    · exact .inr (.inl h)
    · exact .inr (.inr ⟨j, h1, h2⟩))
  have hB : ∀ j, bk A1 = some j → w.heap.size ≤ j ∧ j < w2.heap.size := fun j hj => by
    have := HLT.out j hj
    have := hf2.size
    rcases hA1 with h | ⟨i, h1, h2⟩
    · rw [h] at hj; cases hj
    · rw [h2] at hj; injection hj with hj; omega
  have HF := Lib.hid hF
  have HB := Lib.hid hB
  have HS2 := Lib.hid hs2
  clear hF hB hs2 hf2 hf1 hA1 HSO
  go_wp2_with fail
  go_ret
  exact ⟨A1, c1, by rw [← HPL.out]; rfl, HS2.out, HF.out, HB.out⟩
theorem QAt.base {U V : Nat → Prop} {T : List (Option Nat)} {w0 w1 w2 : World} {g r : Nat} {S : List Int} (h : QAt U w0 w1 g r S) (hf : Fr T w1 w2) (hT : ∀ k, some k ∈ T → U k) (hV : ∀ k, V k → (U k ∨ w1.heap.size ≤ k) ∧ k < w2.heap.size) : QAt V w2 w2 g r S := by
  obtain ⟨L, ⟨h1, h2, h3, h4, h5, h6, A, cap, m, bs, c, k1, k2, ⟨k31, k32, k33⟩, k4, k5⟩, hh⟩ := h
  have hg := k1.lt
  have hr := k4.toI.lt
  have hA : ∀ j, bk A = some j → j < w1.heap.size := fun j hj => k2.lt hj
  refine ⟨L, ⟨FrU.refl V w2 fun k hk => (hV k hk).2, fun hv => ?_, fun hv => ?_, h4, h5, h6, A, cap, m, bs, c, k1.fr hf (fun h => h2 (hT _ h)), k2.fr hf ?_, ⟨k31, k32, fun j hj hv => ?_⟩, k4.fr hf (fun h => h3 (hT _ h)), k5⟩, hh⟩
  · rcases (hV g hv).1 with h | h
    · exact h2 h
    · omega
  · rcases (hV r hv).1 with h | h
    · exact h3 h
    · omega
  · cases hb : bk A with
    | none => exact .inl rfl
    | some j => exact .inr (fun h => k33 j hb (hT j h))
  · have := hA j hj
    rcases (hV j hv).1 with h | h
    · exact k33 j hj h
    · omega
theorem QAt.fru {U : Nat → Prop} {w0 w : World} {g r : Nat} {S : List Int} (h : QAt U w0 w g r S) : FrU U w0 w := by
  obtain ⟨L, ⟨h1, _⟩, _⟩ := h
  exact h1
end Go.Proofs.Ytgmnjbnlfpopgaa
