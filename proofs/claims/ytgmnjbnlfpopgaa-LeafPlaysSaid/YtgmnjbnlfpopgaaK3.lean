import Derived.Test.YtgmnjbnlfpopgaaK2
namespace Go.Proofs.Ytgmnjbnlfpopgaa
open Go.RowKit Go.Proofs.Dm

set_option maxHeartbeats 400000 in
theorem clone_any (A : Option Addr) (c : Nat) (xs : List Int) (w : World) (hs : Sl w A (ints xs)) (hl : xs.length ≤ 1099511627776) :
    Calls Try.prog 37 #[.slice A xs.length c] w fun e w' => ∃ A' c', e = .returned (.slice A' xs.length c') ∧ IRow w' 3 A' c' xs ∧ Fr [] w w' ∧ (bk A' = none ∨ ∃ j, w.heap.size ≤ j ∧ bk A' = some j) := by
  cases A with
  | none =>
    have hx : xs = [] := by
      rcases hs with h | ⟨ad, h, _⟩
      · simpa [ints] using h
      · cases h
    subst hx
    have he := Lib.run_eql_slice_nil (P := Try.prog) w 22 3 none 0 c 0 0 Try.underlying22
    show Calls Try.prog 37 #[.slice none 0 c] w _
    go_enter Try.func37, Try.ntmps37
    go_wp2
    go_ret
    exact ⟨none, 0, rfl, IRow.nil_ _ _, Fr.refl _ _, .inl rfl⟩
  | some ad =>
    have he := Lib.run_eql_slice_nil (P := Try.prog) w 22 3 (some ad) xs.length c 0 0 Try.underlying22
    go_enter Try.func37, Try.ntmps37
    go_wp2_with (at_builtin; go_must (
      refine wpList_app _ rfl _ _ 22 3 rfl (.int .i64 0) 1 8 Try.underlying22 info3 rfl (by decide) _ 0 0 [] rfl (ORow.made w 3 1) (some ad) xs.length c (ints xs) rfl (ints_len xs) (hs.fr (Fr.alloc (Fr.refl [] w) _) (by simp)) (ints_one _) (by simp only [maxLen]; omega) (by omega) ?_
      intro A1 ca1 w1 hr1 hg1 hb1))
    go_ret
    rw [Nat.zero_add, List.nil_append] at hr1
    refine ⟨A1, ca1, rfl, hr1, ((Fr.refl [] w).alloc _).seq hg1 (by simp [bk]), .inr ?_⟩
    rcases hb1 with h | h
    · exact ⟨_, Nat.le_refl _, h⟩
    · exact ⟨_, by simp, h⟩

theorem sl_ints {w : World} {A : Option Addr} {l : List Int} (h : Sl w A (ints l)) {j : Nat} (hj : j < l.length) : ∃ ad, A = some ad ∧ w.cell? (ad.add j) = some (.int .i64 (l.getD j 0)) := by
  obtain ⟨ad, hA, _, hc⟩ := h.at_ (k := j) (u := .int .i64 (l.getD j 0)) (by simp [ints, List.getD_eq_getElem?_getD, hj])
  exact ⟨ad, hA, hc⟩

/-- Of two rows that are alike: true. -/
theorem same_yes (A B : Option Addr) (c d : Nat) (xs : List Int) (w : World) (hA : Sl w A (ints xs)) (hB : Sl w B (ints xs)) (hl : xs.length ≤ 1099511627776) :
    Calls Try.prog 14 #[.slice A xs.length c, .slice B xs.length d] w fun e w' => e = .returned (.bool true) ∧ Fr [] w w' := by
  go_enter Try.func14, Try.ntmps14
  go_wp2
  go_loopw [13, 5] (fun i v wr => ∃ k : Nat, i = .int .i64 k ∧ k ≤ xs.length ∧ Fr [] w wr) (fun i _ _ => xs.length - (intOf i).toNat)
  case atStart => exact ⟨0, rfl, Nat.zero_le _, Fr.refl _ _⟩
  case round =>
    obtain ⟨k, rfl, hk, hf⟩ := hrel
    by_cases hlt : k < xs.length
    · have hA' := hA.fr hf (by simp)
      have hB' := hB.fr hf (by simp)
      obtain ⟨ad, rfl, _, h3⟩ := hA'.at_ (ints_get xs k hlt)
      obtain ⟨bd, rfl, _, h4⟩ := hB'.at_ (ints_get xs k hlt)
      clear hA hB hA' hB'
      obtain ⟨x, hx⟩ : ∃ x, x = xs[k] := ⟨_, rfl⟩
      rw [← hx] at h3 h4
      clear hx
      go_wp2
      go_quiet (fail)
      go_wp2
      go_roundw
      case rel => exact ⟨k + 1, by go_num, by omega, hf.drewN _⟩
      case measure => simp [intOf]; omega
    · go_wp2
      go_ret
      exact ⟨rfl, hf⟩

/-- Stretches in order: those that are whole, and the last one. -/
def runsAt (key : Int → Int) (l : List Int) : Nat → List (List Int) × List Int
  | 0 => ([], [])
  | i + 1 => if i = 0 then ([], [l.getD 0 0]) else if key (l.getD (i - 1) 0) ≤ key (l.getD i 0) then ((runsAt key l i).1, (runsAt key l i).2 ++ [l.getD i 0]) else ((runsAt key l i).1 ++ [(runsAt key l i).2], [l.getD i 0])
def runsP (key : Int → Int) (l : List Int) : List (List Int) := if l = [] then [] else (runsAt key l l.length).1 ++ [(runsAt key l l.length).2]
theorem take_snoc (l : List Int) (i : Nat) (h : i < l.length) : l.take (i + 1) = l.take i ++ [l.getD i 0] := by
  rw [List.take_succ_eq_append_getElem h]
  simp [List.getD_eq_getElem?_getD, h]
theorem runsAt_inv (key : Int → Int) (l : List Int) : ∀ i, i ≤ l.length → (runsAt key l i).1.flatten ++ (runsAt key l i).2 = l.take i ∧ (∀ r ∈ (runsAt key l i).1, Sd key r) ∧ Sd key (runsAt key l i).2 ∧ (0 < i → (runsAt key l i).2 ≠ []) ∧ (∀ y ∈ (runsAt key l i).2, key y ≤ key (l.getD (i - 1) 0))
  | 0, _ => by simp [runsAt, Sd]
  | i + 1, h => by
    obtain ⟨h1, h2, h3, h4, h5⟩ := runsAt_inv key l i (by omega)
    rw [take_snoc l i (by omega)]
    unfold runsAt
    by_cases h0 : i = 0
    · subst h0
      simp [Sd]
    · rw [if_neg h0]
      split
      · rename_i hk
        refine ⟨by rw [← List.append_assoc, h1], h2, ?_, fun _ => by simp, fun y hy => ?_⟩
        · refine List.pairwise_append.2 ⟨h3, by simp, fun a ha b hb => ?_⟩
          rw [List.mem_singleton.1 hb]
          exact Int.le_trans (h5 a ha) hk
        · rcases List.mem_append.1 hy with hy | hy
          · have := h5 y hy
            simp only [Nat.add_sub_cancel]; omega
          · simp at hy; subst hy; simp
      · rename_i hk
        refine ⟨by rw [List.flatten_append]; simp only [List.flatten_cons, List.flatten_nil, List.append_nil]; rw [h1], fun r hr => ?_, by simp [Sd], fun _ => by simp, fun y hy => by simp at hy; subst hy; simp⟩
        rcases List.mem_append.1 hr with hr | hr
        · exact h2 r hr
        · simp at hr; subst hr; exact h3
theorem runsP_flat (key : Int → Int) (l : List Int) : (runsP key l).flatten = l ∧ ∀ r ∈ runsP key l, Sd key r := by
  unfold runsP
  split
  · rename_i h; subst h; simp
  · obtain ⟨h1, h2, h3, _, _⟩ := runsAt_inv key l l.length (Nat.le_refl _)
    refine ⟨by rw [List.flatten_append]; simpa using h1, fun r hr => ?_⟩
    rcases List.mem_append.1 hr with hr | hr
    · exact h2 r hr
    · simp at hr; subst hr; exact h3
/-- Where the text's own loop stands ahead of the i-th thing: its rows, and where the next one begins. -/
def RInv (key : Int → Int) (l : List Int) (i frm : Nat) (D : List (List Int)) : Prop :=
  frm ≤ i ∧ ((frm < i ∧ D = (runsAt key l i).1 ∧ (l.take i).drop frm = (runsAt key l i).2 ∧ i < l.length ∧ key (l.getD (i - 1) 0) ≤ key (l.getD i 0)) ∨
   (frm = i ∧ D = (runsAt key l i).1 ++ (if i = 0 then [] else [(runsAt key l i).2]) ∧ (0 < i → i < l.length → key (l.getD i 0) < key (l.getD (i - 1) 0))))
theorem rinv_zero (key : Int → Int) (l : List Int) : RInv key l 0 0 [] := ⟨Nat.le_refl _, .inr ⟨rfl, rfl, fun h => by omega⟩⟩
/-- Behind the i-th thing. -/
theorem rinv_mid {key : Int → Int} {l : List Int} {i frm : Nat} {D : List (List Int)} (h : RInv key l i frm D) (hi : i < l.length) : D = (runsAt key l (i + 1)).1 ∧ (l.take (i + 1)).drop frm = (runsAt key l (i + 1)).2 := by
  obtain ⟨hle, h⟩ := h
  have ht := take_snoc l i hi
  have hl : (l.take i).length = i := by simp; omega
  rcases h with ⟨_, h2, h3, h4⟩ | ⟨h1, h2, h3⟩
  · have e : runsAt key l (i + 1) = ((runsAt key l i).1, (runsAt key l i).2 ++ [l.getD i 0]) := by
      show (if i = 0 then _ else _) = _
      rw [if_neg (by omega), if_pos h4.2]
    rw [e, ht, List.drop_append_of_le_length (by omega), h3]
    exact ⟨h2, rfl⟩
  · subst h1
    by_cases h0 : frm = 0
    · subst h0
      simp [runsAt] at h2 ⊢
      rw [ht]
      exact ⟨h2, by simp⟩
    · have hk := h3 (by omega) hi
      have e : runsAt key l (frm + 1) = ((runsAt key l frm).1 ++ [(runsAt key l frm).2], [l.getD frm 0]) := by
        show (if frm = 0 then _ else _) = _
        rw [if_neg h0, if_neg (by omega)]
      rw [if_neg h0] at h2
      rw [e, ht, List.drop_append_of_le_length (by omega), List.drop_eq_nil_of_le (by omega)]
      exact ⟨h2, rfl⟩
theorem rinv_on {key : Int → Int} {l : List Int} {i frm : Nat} {D : List (List Int)} (h : RInv key l i frm D) (hi : i < l.length) (hk : i + 1 < l.length ∧ key (l.getD i 0) ≤ key (l.getD (i + 1) 0)) : RInv key l (i + 1) frm D := by
  obtain ⟨h1, h2⟩ := rinv_mid h hi
  exact ⟨by have := h.1; omega, .inl ⟨by have := h.1; omega, h1, h2, hk⟩⟩
theorem rinv_cut {key : Int → Int} {l : List Int} {i frm : Nat} {D : List (List Int)} (h : RInv key l i frm D) (hi : i < l.length) (hk : ¬ (i + 1 < l.length ∧ key (l.getD i 0) ≤ key (l.getD (i + 1) 0))) : RInv key l (i + 1) (i + 1) (D ++ [(l.take (i + 1)).drop frm]) := by
  obtain ⟨h1, h2⟩ := rinv_mid h hi
  refine ⟨Nat.le_refl _, .inr ⟨rfl, by rw [if_neg (by omega), ← h1, h2], fun _ hl => ?_⟩⟩
  simp only [Nat.add_sub_cancel]
  omega
theorem rinv_end {key : Int → Int} {l : List Int} {frm : Nat} {D : List (List Int)} (h : RInv key l l.length frm D) : D = runsP key l := by
  obtain ⟨_, h⟩ := h
  rcases h with ⟨_, _, _, h1, _⟩ | ⟨_, h2, _⟩
  · omega
  · unfold runsP
    by_cases h0 : l = []
    · subst h0; simpa [runsAt] using h2
    · rw [if_neg h0]
      have : l.length ≠ 0 := fun h => h0 (List.eq_nil_of_length_eq_zero h)
      rw [if_neg this] at h2
      exact h2
end Go.Proofs.Ytgmnjbnlfpopgaa
