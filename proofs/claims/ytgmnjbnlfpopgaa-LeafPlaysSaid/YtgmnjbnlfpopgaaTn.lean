/-!
Which rows are permutations, and one the other way round.
-/
namespace Go.Proofs.Dm

def tstep (n : Nat) (out : List Int) (place x : Int) : Option (List Int) := if x < 0 ∨ (n : Int) ≤ x ∨ 0 ≤ out.getD x.toNat 0 then none else some (out.set x.toNat place)
/-- Behind the first q things. -/
def turnAt (l : List Int) : Nat → Option (List Int)
  | 0 => some (List.replicate l.length (-1))
  | q + 1 => (turnAt l q).bind fun out => tstep l.length out q (l.getD q 0)
def turnP (l : List Int) : Option (List Int) := turnAt l l.length

theorem turnAt_inv (l : List Int) : ∀ q, q ≤ l.length → ∀ out, turnAt l q = some out → out.length = l.length ∧ (∀ x ∈ l.take q, 0 ≤ x ∧ x < l.length) ∧ (l.take q).Nodup ∧
    ∀ i : Nat, i < l.length → ((i : Int) ∉ l.take q ∧ out.getD i 0 = -1) ∨ ∃ k : Nat, k < q ∧ l.getD k 0 = i ∧ out.getD i 0 = k
  | 0, _, out, h => by
    injection h with h
    subst h
    refine ⟨by simp, by simp, by simp, fun i hi => .inl ⟨by simp, by simp [List.getD_eq_getElem?_getD, hi]⟩⟩
  | q + 1, hq, out, h => by
    unfold turnAt at h
    cases ho : turnAt l q with
    | none => rw [ho] at h; cases h
    | some o =>
      rw [ho] at h
      simp only [Option.bind_some] at h
      obtain ⟨h1, h2, h3, h4⟩ := turnAt_inv l q (by omega) o ho
      unfold tstep at h
      split at h
      · cases h
      · rename_i hn
        injection h with h
        subst h
        have ht : l.take (q + 1) = l.take q ++ [l.getD q 0] := by
          rw [List.take_succ_eq_append_getElem (by omega)]
          simp [List.getD_eq_getElem?_getD, show q < l.length by omega]
        obtain ⟨x, hx⟩ : ∃ x, x = l.getD q 0 := ⟨_, rfl⟩
        rw [← hx] at hn ht ⊢
        have hx0 : 0 ≤ x := by omega
        have hxn : x < l.length := by omega
        have hfr : ¬ 0 ≤ o.getD x.toNat 0 := by omega
        have hxi : x.toNat < l.length := by omega
        have hnew : x ∉ l.take q := by
          rcases h4 x.toNat hxi with ⟨h5, _⟩ | ⟨k, _, _, h6⟩
          · rwa [Int.toNat_of_nonneg hx0] at h5
          · omega
        refine ⟨by simp [h1], fun y hy => ?_, ?_, fun i hi => ?_⟩
        · rw [ht] at hy
          rcases List.mem_append.1 hy with hy | hy
          · exact h2 y hy
          · rw [List.mem_singleton.1 hy]; exact ⟨hx0, hxn⟩
        · rw [ht]
          refine List.nodup_append.2 ⟨h3, by simp, fun a ha b hb => ?_⟩
          rw [List.mem_singleton.1 hb]
          intro e
          subst e
          exact hnew ha
        · by_cases hix : x.toNat = i
          · refine .inr ⟨q, by omega, by rw [← hx]; omega, ?_⟩
            subst hix
            simp [List.getD_eq_getElem?_getD, h1, hxi]
          · have e : (o.set x.toNat (q : Int)).getD i 0 = o.getD i 0 := by simp [List.getD_eq_getElem?_getD, List.getElem?_set_ne hix]
            rw [e]
            rcases h4 i hi with ⟨h5, h6⟩ | ⟨k, h5, h6, h7⟩
            · refine .inl ⟨fun hm => ?_, h6⟩
              rw [ht] at hm
              rcases List.mem_append.1 hm with hm | hm
              · exact h5 hm
              · have := List.mem_singleton.1 hm; omega
            · exact .inr ⟨k, by omega, h6, h7⟩
theorem turnAt_none (l : List Int) : ∀ q, q ≤ l.length → turnAt l q = none → (∃ x ∈ l, x < 0 ∨ (l.length : Int) ≤ x) ∨ ¬ l.Nodup
  | 0, _, h => by cases h
  | q + 1, hq, h => by
    unfold turnAt at h
    cases ho : turnAt l q with
    | none => exact turnAt_none l q (by omega) ho
    | some o =>
      rw [ho] at h
      simp only [Option.bind_some] at h
      obtain ⟨h1, h2, h3, h4⟩ := turnAt_inv l q (by omega) o ho
      have hm : l.getD q 0 ∈ l := by rw [List.getD_eq_getElem?_getD, List.getElem?_eq_getElem (by omega)]; exact List.getElem_mem _
      unfold tstep at h
      split at h
      · rename_i hc
        rcases hc with hc | hc | hc
        · exact .inl ⟨_, hm, .inl hc⟩
        · exact .inl ⟨_, hm, .inr hc⟩
        · by_cases hr : l.getD q 0 < 0 ∨ (l.length : Int) ≤ l.getD q 0
          · exact .inl ⟨_, hm, hr⟩
          · right
            intro hnd
            rcases h4 (l.getD q 0).toNat (by omega) with ⟨_, h5⟩ | ⟨k, h5, h6, _⟩
            · omega
            · have e1 : l[k] = l[q] := by
                have a1 : l.getD k 0 = l[k] := by simp [List.getD_eq_getElem?_getD, show k < l.length by omega]
                have a2 : l.getD q 0 = l[q] := by simp [List.getD_eq_getElem?_getD, show q < l.length by omega]
                rw [← a1, ← a2, h6]; omega
              have := (List.getElem_inj (h₀ := by omega) (h₁ := by omega) hnd).1 e1
              omega
      · cases h
/-- How many lie below n. -/
def below (l : List Int) (n : Nat) : Nat := l.countP fun x : Int => decide (0 ≤ x) && decide (x < (n : Int))
theorem below_next (l : List Int) (n : Nat) : below l (n + 1) = below l n + l.count (n : Int) := by
  unfold below
  induction l with
  | nil => rfl
  | cons x l ih =>
    rw [List.countP_cons, List.countP_cons, List.count_cons, ih]
    have e : (decide (0 ≤ x) && decide (x < ((n + 1 : Nat) : Int))) = ((decide (0 ≤ x) && decide (x < (n : Int))) || (x == (n : Int))) := by
      rw [Bool.eq_iff_iff]
      simp only [Bool.and_eq_true, decide_eq_true_eq, Bool.or_eq_true, beq_iff_eq]
      omega
    rw [e]
    by_cases h1 : x = (n : Int)
    · have h2 : (decide (0 ≤ x) && decide (x < (n : Int))) = false := by
        rw [Bool.eq_false_iff]
        simp only [ne_eq, Bool.and_eq_true, decide_eq_true_eq]
        omega
      simp only [h1, BEq.rfl, if_true]
      simp; omega
    · have h3 : (x == (n : Int)) = false := beq_eq_false_iff_ne.2 h1
      rw [h3, Bool.or_false]
      simp; omega
theorem below_le (l : List Int) (n : Nat) : below l n ≤ l.length := List.countP_le_length
theorem below_one {l : List Int} : ∀ n, (∀ i : Nat, i < n → l.count (i : Int) = 1) → below l n = n
  | 0, _ => by unfold below; rw [List.countP_eq_zero]; intro x _; simp
  | n + 1, h => by rw [below_next, below_one n fun i hi => h i (by omega), h n (by omega)]
theorem below_most {l : List Int} (h : ∀ x : Int, l.count x ≤ 1) : ∀ n, below l n ≤ n ∧ (below l n = n → ∀ i : Nat, i < n → l.count (i : Int) = 1)
  | 0 => ⟨by unfold below; rw [List.countP_eq_zero.2 (by intro x _; simp)]; omega, fun _ i hi => by omega⟩
  | n + 1 => by
    obtain ⟨h1, h2⟩ := below_most h n
    rw [below_next]
    have h3 := h n
    refine ⟨by omega, fun h4 i hi => ?_⟩
    by_cases hin : i = n
    · subst hin; omega
    · exact h2 (by omega) i (by omega)
/-- Each number once. -/
def Once (l : List Int) : Prop := ∀ i : Nat, i < l.length → l.count (i : Int) = 1
theorem once_iff (l : List Int) : Once l ↔ (∀ x ∈ l, 0 ≤ x ∧ x < l.length) ∧ l.Nodup := by
  constructor
  · intro h
    have hb := below_one l.length h
    have hall : ∀ x ∈ l, (decide (0 ≤ x) && decide (x < (l.length : Int))) = true := by
      rw [← List.countP_eq_length]; exact hb
    have hr : ∀ x ∈ l, 0 ≤ x ∧ x < l.length := fun x hx => by simpa using hall x hx
    refine ⟨hr, List.nodup_iff_count.2 fun x => ?_⟩
    by_cases hx : x ∈ l
    · have := hr x hx
      have h1 := h x.toNat (by omega)
      rw [Int.toNat_of_nonneg this.1] at h1
      omega
    · rw [List.count_eq_zero_of_not_mem hx]; omega
  · rintro ⟨hr, hn⟩
    have hb : below l l.length = l.length := List.countP_eq_length.2 fun x hx => by simpa using hr x hx
    exact (below_most (fun x => List.nodup_iff_count.1 hn x) l.length).2 hb
theorem turnP_iff (l : List Int) : (∃ out, turnP l = some out) ↔ Once l := by
  unfold turnP
  constructor
  · rintro ⟨out, h⟩
    obtain ⟨_, h2, h3, _⟩ := turnAt_inv l l.length (Nat.le_refl _) out h
    rw [List.take_length] at h2 h3
    exact (once_iff l).2 ⟨h2, h3⟩
  · intro h
    cases ho : turnAt l l.length with
    | some out => exact ⟨out, rfl⟩
    | none =>
      obtain ⟨h1, h2⟩ := (once_iff l).1 h
      rcases turnAt_none l l.length (Nat.le_refl _) ho with ⟨x, hx, hc⟩ | hc
      · have := h1 x hx; omega
      · exact absurd h2 hc
theorem turnP_back {l out : List Int} (h : turnP l = some out) : out.length = l.length ∧ ∀ i : Nat, i < l.length → 0 ≤ out.getD i 0 ∧ out.getD i 0 < l.length ∧ l.getD (out.getD i 0).toNat 0 = i := by
  obtain ⟨h1, h2, h3, h4⟩ := turnAt_inv l l.length (Nat.le_refl _) out h
  refine ⟨h1, fun i hi => ?_⟩
  have ho := (turnP_iff l).1 ⟨out, h⟩ i hi
  rcases h4 i hi with ⟨h5, _⟩ | ⟨k, h5, h6, h7⟩
  · rw [List.take_length] at h5
    rw [List.count_eq_zero_of_not_mem h5] at ho; omega
  · rw [h7]
    exact ⟨by omega, by omega, by simpa using h6⟩
end Go.Proofs.Dm
