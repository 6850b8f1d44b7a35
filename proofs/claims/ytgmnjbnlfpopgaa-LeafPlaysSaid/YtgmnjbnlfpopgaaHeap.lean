/-!
Trees in rows: what a heap's up and down do.
-/
namespace Go.Proofs.Dm

section
variable {α : Type}
/-- f with two places changed. -/
def sw (f : Nat → α) (i j : Nat) : Nat → α := fun k => if k = i then f j else if k = j then f i else f k
theorem sw_left (f : Nat → α) (i j : Nat) : sw f i j i = f j := by simp [sw]
theorem sw_right (f : Nat → α) (i j : Nat) : sw f i j j = f i := by unfold sw; by_cases h : j = i <;> simp [h]
theorem sw_else (f : Nat → α) {i j k : Nat} (h1 : k ≠ i) (h2 : k ≠ j) : sw f i j k = f k := by simp [sw, h1, h2]

/-- An order: lt; 'a is not behind b' is lt b a = false. -/
structure Ordd (lt : α → α → Bool) : Prop where
  asymm : ∀ a b, lt a b = true → lt b a = false
  trans : ∀ a b c, lt b a = false → lt c b = false → lt c a = false
variable {lt : α → α → Bool}
theorem Ordd.refl (o : Ordd lt) (a : α) : lt a a = false := by
  cases h : lt a a with
  | false => rfl
  | true => exact absurd (o.asymm a a h) (by simp [h])

def par (k : Nat) : Nat := (k - 1) / 2
/-- The first n are a heap. -/
def Hp (lt : α → α → Bool) (f : Nat → α) (n : Nat) : Prop := ∀ k, 0 < k → k < n → lt (f k) (f (par k)) = false
/-- A heap but for the thing at j, which may be ahead of what is above it. -/
def HpUp (lt : α → α → Bool) (f : Nat → α) (n j : Nat) : Prop :=
  (∀ k, 0 < k → k < n → k ≠ j → lt (f k) (f (par k)) = false) ∧ (∀ k, 0 < k → k < n → par k = j → 0 < j → lt (f k) (f (par j)) = false)
/-- A heap but for the thing at i. -/
def HpMid (lt : α → α → Bool) (f : Nat → α) (n i : Nat) : Prop :=
  (∀ k, 0 < k → k < n → k ≠ i → par k ≠ i → lt (f k) (f (par k)) = false) ∧ (∀ k, 0 < k → k < n → par k = i → 0 < i → lt (f k) (f (par i)) = false)

theorem par_lt {k : Nat} (h : 0 < k) : par k < k := by unfold par; omega
theorem hpUp_zero {f : Nat → α} {n : Nat} (h : HpUp lt f n 0) : Hp lt f n := fun k h0 hk => h.1 k h0 hk (by omega)
theorem hpUp_done {f : Nat → α} {n j : Nat} (h : HpUp lt f n j) (hj : lt (f j) (f (par j)) = false) : Hp lt f n := fun k h0 hk => by
  by_cases e : k = j
  · subst e; exact hj
  · exact h.1 k h0 hk e
theorem hpUp_step (o : Ordd lt) {f : Nat → α} {n j : Nat} (h : HpUp lt f n j) (hj0 : 0 < j) (hjn : j < n) (hl : lt (f j) (f (par j)) = true) : HpUp lt (sw f (par j) j) n (par j) := by
  have hpj := par_lt hj0
  have hle := o.asymm _ _ hl
  refine ⟨fun k h0 hk hne => ?_, fun k h0 hk hpk hi0 => ?_⟩
  · by_cases hkj : k = j
    · subst hkj
      rw [sw_right, sw_left]
      exact hle
    · rw [sw_else f hne hkj]
      by_cases h1 : par k = j
      · rw [h1, sw_right]
        exact h.2 k h0 hk h1 hj0
      · by_cases h2 : par k = par j
        · rw [h2, sw_left]
          have h3 := h.1 k h0 hk hkj
          rw [h2] at h3
          exact o.trans _ _ _ hle h3
        · rw [sw_else f h2 h1]
          exact h.1 k h0 hk hkj
  · have hpp := par_lt hi0
    rw [sw_else f (k := par (par j)) (by omega) (by omega)]
    have h4 := h.1 (par j) hi0 (by omega) (by omega)
    by_cases hkj : k = j
    · subst hkj
      rw [sw_right]
      exact h4
    · have hkp : k ≠ par j := by have := par_lt h0; omega
      rw [sw_else f hkp hkj]
      have h3 := h.1 k h0 hk hkj
      rw [hpk] at h3
      exact o.trans _ _ _ h4 h3

/-- No kid of i is ahead of it. -/
theorem hpMid_done {f : Nat → α} {n i : Nat} (h : HpMid lt f n i) (hk : ∀ k, 0 < k → k < n → par k = i → lt (f k) (f i) = false) : HpUp lt f n i :=
  ⟨fun k h0 hkn hne => by
    by_cases hp : par k = i
    · rw [hp]; exact hk k h0 hkn hp
    · exact h.1 k h0 hkn hne hp, h.2⟩
/-- The lesser kid goes up. -/
theorem hpMid_step (o : Ordd lt) {f : Nat → α} {n i j : Nat} (h : HpMid lt f n i) (hj0 : 0 < j) (hjn : j < n) (hpj : par j = i) (hl : lt (f j) (f i) = true) (hmin : ∀ k, 0 < k → k < n → par k = i → lt (f k) (f j) = false) :
    HpMid lt (sw f i j) n j ∧ (lt (sw f i j j) (sw f i j (par j)) = false) := by
  have hij : i < j := by have := par_lt hj0; omega
  have hle := o.asymm _ _ hl
  refine ⟨⟨fun k h0 hk hne hp => ?_, fun k h0 hk hp _ => ?_⟩, ?_⟩
  · by_cases hki : k = i
    · subst hki
      have hpp := par_lt h0
      rw [sw_left, sw_else f (k := par k) (by omega) (by omega)]
      exact h.2 j hj0 hjn hpj h0
    · rw [sw_else f hki hne]
      by_cases hpi : par k = i
      · rw [hpi, sw_left]
        exact hmin k h0 hk hpi
      · rw [sw_else f hpi hp]
        exact h.1 k h0 hk hki hpi
  · have hkj : k ≠ j := by have := par_lt h0; omega
    have hki : k ≠ i := by have := par_lt h0; omega
    rw [hpj, sw_left, sw_else f hki hkj]
    have := h.1 k h0 hk hki (by omega)
    rw [hp] at this
    exact this
  · rw [hpj, sw_right, sw_left]
    exact hle
/-- Behind the end, with the one above not behind: a heap. -/
theorem hpMid_end {f : Nat → α} {n i : Nat} (h : HpMid lt f n i) (hi : 0 < i → lt (f i) (f (par i)) = false) (hk : ∀ k, 0 < k → k < n → par k = i → lt (f k) (f i) = false) : Hp lt f n := by
  have h1 := hpMid_done h hk
  intro k h0 hkn
  by_cases e : k = i
  · subst e; exact hi h0
  · exact h1.1 k h0 hkn e
theorem hp_top (o : Ordd lt) {f : Nat → α} {n : Nat} (h : Hp lt f n) : ∀ k, k < n → lt (f k) (f 0) = false := by
  intro k
  induction k using Nat.strongRecOn with
  | _ k ih =>
    intro hk
    by_cases h0 : k = 0
    · subst h0; exact o.refl _
    · have hp := par_lt (by omega : 0 < k)
      exact o.trans _ _ _ (ih (par k) hp (by omega)) (h k (by omega) hk)
theorem hp_below (o : Ordd lt) {f : Nat → α} {n : Nat} (h : Hp lt f n) : ∀ k, 0 < k → k < n → ∃ r, (r = 1 ∨ r = 2) ∧ r ≤ k ∧ lt (f k) (f r) = false := by
  intro k
  induction k using Nat.strongRecOn with
  | _ k ih =>
    intro h0 hk
    by_cases h1 : k ≤ 2
    · exact ⟨k, by omega, Nat.le_refl _, o.refl _⟩
    · have hp := par_lt h0
      have hp0 : 0 < par k := by unfold par; omega
      obtain ⟨r, hr, hrk, hl⟩ := ih (par k) hp hp0 (by omega)
      exact ⟨r, hr, by omega, o.trans _ _ _ hl (h k h0 hk)⟩
theorem hp_less {f : Nat → α} {n m : Nat} (h : Hp lt f n) (hm : m ≤ n) : Hp lt f m := fun k h0 hk => h k h0 (by omega)
theorem hp_congr {f g : Nat → α} {n : Nat} (h : Hp lt f n) (e : ∀ k, k < n → g k = f k) : Hp lt g n := fun k h0 hk => by
  have := par_lt h0
  rw [e k hk, e (par k) (by omega)]
  exact h k h0 hk
theorem hpUp_congr {f g : Nat → α} {n j : Nat} (h : HpUp lt f n j) (hj : j < n) (e : ∀ k, k < n → g k = f k) : HpUp lt g n j := by
  have hpj : par j < n := by unfold par; omega
  refine ⟨fun k h0 hk hne => ?_, fun k h0 hk hp hj0 => ?_⟩
  · have := par_lt h0
    rw [e k hk, e (par k) (by omega)]; exact h.1 k h0 hk hne
  · rw [e k hk, e (par j) hpj]; exact h.2 k h0 hk hp hj0
theorem hpMid_congr {f g : Nat → α} {n j : Nat} (h : HpMid lt f n j) (hj : j < n) (e : ∀ k, k < n → g k = f k) : HpMid lt g n j := by
  have hpj : par j < n := by unfold par; omega
  refine ⟨fun k h0 hk hne hp => ?_, fun k h0 hk hp hj0 => ?_⟩
  · have := par_lt h0
    rw [e k hk, e (par k) (by omega)]; exact h.1 k h0 hk hne hp
  · rw [e k hk, e (par j) hpj]; exact h.2 k h0 hk hp hj0
/-- One more behind. -/
theorem hp_push {f : Nat → α} {n : Nat} (h : Hp lt f n) : HpUp lt f (n + 1) n :=
  ⟨fun k h0 hk hne => h k h0 (by omega), fun k h0 hk hp _ => by have := par_lt h0; omega⟩
/-- Another one at i. -/
theorem hp_other (o : Ordd lt) {f g : Nat → α} {n i : Nat} (h : Hp lt f n) (e : ∀ k, k < n → k ≠ i → g k = f k) (hi : i < n) : HpMid lt g n i := by
  refine ⟨fun k h0 hk hne hp => ?_, fun k h0 hk hp hi0 => ?_⟩
  · have := par_lt h0
    rw [e k hk hne, e (par k) (by omega) hp]; exact h k h0 hk
  · have h1 := par_lt h0
    have h2 := par_lt hi0
    rw [e k hk (by omega), e (par i) (by omega) (by omega)]
    have h3 := h k h0 hk
    rw [hp] at h3
    exact o.trans _ _ _ (h i hi0 hi) h3

/-- A row with two places changed. -/
def swl (d : α) (l : List α) (i j : Nat) : List α := (l.set i (l.getD j d)).set j (l.getD i d)
theorem swl_len (d : α) (l : List α) (i j : Nat) : (swl d l i j).length = l.length := by simp [swl]
theorem swl_get (d : α) (l : List α) (i j : Nat) (hi : i < l.length) (hj : j < l.length) (k : Nat) : (swl d l i j).getD k d = sw (fun k => l.getD k d) i j k := by
  unfold swl sw
  simp only [List.getD_eq_getElem?_getD, List.getElem?_set, List.length_set]
  by_cases hkj : j = k
  · subst hkj
    by_cases hki : j = i
    · subst hki; simp [hj]
    · simp [hj, hki]
  · by_cases hki : i = k
    · subst hki; simp [hkj, hi]
    · simp [hkj, hki, Ne.symm hkj, Ne.symm hki]
theorem swl_perm (d : α) (l : List α) (i j : Nat) (hi : i < l.length) (hj : j < l.length) : (swl d l i j).Perm l := by
  classical
  rw [List.perm_iff_count]
  intro b
  unfold swl
  have gi : l.getD i d = l[i] := by simp [List.getD_eq_getElem?_getD, hi]
  have gj : l.getD j d = l[j] := by simp [List.getD_eq_getElem?_getD, hj]
  rw [gi, gj]
  rw [List.count_set (by simpa using hj), List.count_set hi]
  have ci : l[i] = b → 1 ≤ l.count b := fun h => by rw [← h]; exact List.count_pos_iff.2 (List.getElem_mem hi)
  have cj : l[j] = b → 1 ≤ l.count b := fun h => by rw [← h]; exact List.count_pos_iff.2 (List.getElem_mem hj)
  rw [List.getElem_set]
  by_cases e : i = j
  · subst e
    simp only [if_true, beq_iff_eq]
    by_cases h1 : l[i] = b
    · simp [h1]; have := ci h1; omega
    · simp [h1]
  · rw [if_neg e]
    simp only [beq_iff_eq]
    by_cases h1 : l[i] = b
    · by_cases h2 : l[j] = b
      · simp [h1, h2]; have := ci h1; omega
      · simp [h1, h2]; have := ci h1; omega
    · by_cases h2 : l[j] = b
      · simp [h1, h2]
      · simp [h1, h2]
end
end Go.Proofs.Dm
