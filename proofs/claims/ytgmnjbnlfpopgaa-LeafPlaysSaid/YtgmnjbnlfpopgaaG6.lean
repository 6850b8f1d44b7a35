import Derived.Test.YtgmnjbnlfpopgaaG5
namespace Go.Proofs.Ytgmnjbnlfpopgaa
open Go.RowKit Go.Proofs.Dm

set_option maxRecDepth 100000 in
theorem has_at (U : Nat → Prop) (w0 w : World) (g r : Nat) (S : List Int) (n : Int) (h : QAt U w0 w g r S) :
    Calls Try.prog 36 #[.pointer (some ⟨g, 0, none⟩), .int .i64 n] w fun e w' => e = .returned (.bool (decide (n ∈ S))) ∧ Fr [] w w' := by
  obtain ⟨L, ⟨h1, h2, h3, h4, h5, h6, A, cap, m, bs, c, k1, k2, k3, k4, k5⟩, hH, hp, hs⟩ := h
  have c1 : w.cell? ⟨g, 1, none⟩ = some (.map (some r)) := k1.cell 1
  have hgl := k1.lt
  obtain ⟨p, hlk, _⟩ := look_at k4 k5 n true
  have hmem : decide (n ∈ L) = decide (n ∈ S) := by simp [hp.mem_iff]
  simp only [if_true] at hlk
  rw [hmem] at hlk
  obtain ⟨b, hb⟩ : ∃ b, b = decide (n ∈ S) := ⟨_, rfl⟩
  rw [← hb] at hlk ⊢
  clear hmem hb h1 k1 k2 k3 k4 k5 hH hp hs
  go_enter Try.func36, Try.ntmps36
  go_wp2
  go_ret
  exact ⟨rfl, by first | exact ((Fr.refl [] w).alloc _).setB (by simp) 0 _ | exact (Fr.refl [] w).alloc _⟩
theorem qlen_at (U : Nat → Prop) (w0 w : World) (g r : Nat) (S : List Int) (h : QAt U w0 w g r S) :
    Calls Try.prog 27 #[.pointer (some ⟨g, 0, none⟩)] w fun e w' => e = .returned (.int .i64 S.length) ∧ w = w' := by
  obtain ⟨L, ⟨h1, h2, h3, h4, h5, h6, A, cap, m, bs, c, k1, k2, k3, k4, k5⟩, hH, hp, hs⟩ := h
  have c0 : w.cell? ⟨g, 0, none⟩ = some (.slice A L.length cap) := k1.cell 0
  have hgl := k1.lt
  rw [← hp.length_eq]
  clear h1 k1 k2 k3 k4 k5 hH hp hs
  go_enter Try.func27, Try.ntmps27
  go_wp2
  go_ret
  exact ⟨rfl, rfl⟩
theorem qtop {L S : List Int} (hH : Hp ltI (fl 0 L) L.length) (hp : L.Perm S) (hs : S.Pairwise (· < ·)) (hn : 0 < L.length) : L.getD 0 0 = S.headD 0 := by
  cases S with
  | nil => have := hp.length_eq; rw [List.length_nil] at this; omega
  | cons y S =>
    have hall : ∀ x ∈ L, L.getD 0 0 ≤ x := by
      intro x hx
      obtain ⟨i, hi, he⟩ := List.mem_iff_getElem.1 hx
      have := hp_top ltI_ord hH i hi
      have e1 : fl 0 L i = x := by simp [fl, List.getD_eq_getElem?_getD, hi, he]
      rw [e1] at this
      have e2 : fl 0 L 0 = L.getD 0 0 := rfl
      rw [e2] at this
      simpa only [ltI, decide_eq_false_iff_not, Int.not_lt] using this
    have h1 := hall y (hp.mem_iff.2 (List.mem_cons_self ..))
    have h2 : L.getD 0 0 ∈ y :: S := hp.mem_iff.1 (getD_in hn)
    rcases List.mem_cons.1 h2 with h2 | h2
    · exact h2
    · have := (List.pairwise_cons.1 hs).1 _ h2
      simp only [List.headD_cons]
      omega
theorem top_at (U : Nat → Prop) (w0 w : World) (g r : Nat) (S : List Int) (h : QAt U w0 w g r S) :
    Calls Try.prog 32 #[.pointer (some ⟨g, 0, none⟩)] w fun e w' => e = .returned (.tuple #[.int .i64 (S.headD 0), .bool (decide (0 < S.length))]) ∧ w = w' := by
  have hlen := qlen_at U w0 w g r S h
  obtain ⟨L, ⟨h1, h2, h3, h4, h5, h6, A, cap, m, bs, c, k1, k2, k3, k4, k5⟩, hH, hp, hs⟩ := h
  have c0 : w.cell? ⟨g, 0, none⟩ = some (.slice A L.length cap) := k1.cell 0
  have hgl := k1.lt
  have hpl := hp.length_eq
  rcases Nat.eq_zero_or_pos S.length with h0 | h0
  · obtain rfl := List.eq_nil_of_length_eq_zero h0
    have H := Lib.hid hlen
    clear hlen h1 k1 k2 k3 k4 k5 hH hp hs hpl
    go_enter Try.func32, Try.ntmps32
    go_wp2_with fail
    refine H.out.mono ?_
    rintro e w1 ⟨rfl, rfl⟩
    go_wp2_with fail
    go_ret2
    first | done | exact ⟨rfl, rfl⟩ | trivial
  · have hl0 : 0 < L.length := by omega
    obtain ⟨b, rfl⟩ := orow_some k2 (ints_ne (i := 0) hl0)
    have r1 : w.cell? ⟨b, 0, none⟩ = some (.int .i64 (L.getD 0 0)) := by rw [World.ownsRow.cellAt k2 _ (by omega), ints_get _ _ hl0]; simp [List.getD_eq_getElem?_getD, hl0]
    rw [qtop hH hp hs hl0] at r1
    have hd : decide (0 < S.length) = true := by simp; omega
    rw [hd]
    have hne : ¬ (S.length : Int) = 0 := by omega
    obtain ⟨x, hx⟩ : ∃ x, x = S.headD 0 := ⟨_, rfl⟩
    rw [← hx] at r1 ⊢
    have H := Lib.hid hlen
    clear hlen h1 k1 k2 k3 k4 k5 hH hp hs hx hd
    go_enter Try.func32, Try.ntmps32
    go_wp2_with fail
    refine H.out.mono ?_
    rintro e w1 ⟨rfl, rfl⟩
    go_wp2_with fail
    go_ret2
    first | done | exact ⟨rfl, rfl⟩ | trivial
end Go.Proofs.Ytgmnjbnlfpopgaa
