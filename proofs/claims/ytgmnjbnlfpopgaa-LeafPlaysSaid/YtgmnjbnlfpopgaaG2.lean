import Derived.Test.YtgmnjbnlfpopgaaG1
namespace Go.Proofs.Ytgmnjbnlfpopgaa
open Go.RowKit Go.Proofs.Dm

theorem fidx_set : ∀ (m : List (Int × Value)) (a : Nat) (k0 : Int) (u v : Value), m[a]? = some (k0, u) → ∀ k, fidx (m.set a (k0, v)) k = fidx m k
  | [], _, _, _, _, _, _ => rfl
  | p :: r, 0, k0, u, v, h, k => by
    simp at h; subst h; simp [fidx_cons]
  | p :: r, a + 1, k0, u, v, h, k => by
    simp only [List.set_cons_succ, fidx_cons]
    rw [fidx_set r a k0 u v (by simpa using h) k]
theorem fidx_some : ∀ (m : List (Int × Value)) (k : Int) (j : Nat), fidx m k = some j → ∃ v, m[j]? = some (k, v) := by
  intro m k j h
  have hj := fidx_lt m k j h
  have := fidx_key m k j hj h
  refine ⟨m[j].2, ?_⟩
  rw [List.getElem?_eq_getElem hj, ← this]
theorem fidx_one {m : List (Int × Value)} {k k' : Int} {j : Nat} (h : fidx m k = some j) (h' : fidx m k' = some j) : k = k' := by
  obtain ⟨v, e⟩ := fidx_some m k j h
  obtain ⟨v', e'⟩ := fidx_some m k' j h'
  rw [e] at e'
  injection e' with e'
  injection e'
theorem fst_set (m : List (Int × Value)) (a : Nat) (k0 : Int) (u v : Value) (h : m[a]? = some (k0, u)) : (m.set a (k0, v)).map (·.1) = m.map (·.1) := by
  apply List.ext_getElem?
  intro i
  simp only [List.getElem?_map, List.getElem?_set]
  by_cases e : a = i
  · subst e
    obtain ⟨this, h'⟩ := List.getElem?_eq_some_iff.1 h
    simp [this, h']
  · simp [e]
theorem fidx_none : ∀ {m : List (Int × Value)} {k : Int}, fidx m k = none → k ∉ m.map (·.1)
  | [], _, _ => by simp
  | p :: r, k, h => by
    rw [fidx_cons] at h
    by_cases e : k = p.1
    · rw [if_pos e] at h; cases h
    · rw [if_neg e] at h
      have := fidx_none (m := r) (k := k) (by simpa using h)
      simp only [List.map_cons, List.mem_cons, not_or]
      exact ⟨e, this⟩
theorem getD_in {L : List Int} {i : Nat} (h : i < L.length) : L.getD i 0 ∈ L := by rw [List.getD_eq_getElem?_getD, List.getElem?_eq_getElem h]; exact List.getElem_mem h
theorem nodup_get {L : List Int} (h : L.Nodup) {i j : Nat} (hi : i < L.length) (hj : j < L.length) (e : L.getD i 0 = L.getD j 0) : i = j := by
  have := (List.getElem_inj (h₀ := hi) (h₁ := hj) h).1 (by simpa [List.getD_eq_getElem?_getD, hi, hj] using e)
  exact this
theorem wh_swap {m : List (Int × Value)} {L : List Int} (h : Wh m L) (hn : L.Nodup) {i j a b : Nat} (hi : i < L.length) (hj : j < L.length) (ha : fidx m (L.getD i 0) = some a) (hb : fidx m (L.getD j 0) = some b) :
    Wh ((m.set b (L.getD j 0, plv i)).set a (L.getD i 0, plv j)) (swl 0 L i j) := by
  obtain ⟨va, ea⟩ := fidx_some m _ a ha
  obtain ⟨vb, eb⟩ := fidx_some m _ b hb
  have hal := fidx_lt m _ a ha
  have hbl := fidx_lt m _ b hb
  have hab : a = b → i = j := fun e => nodup_get hn hi hj (fidx_one ha (e ▸ hb))
  have e1 : ∀ k, fidx (m.set b (L.getD j 0, plv i)) k = fidx m k := fidx_set m b _ vb _ eb
  have hx : (m.set b (L.getD j 0, plv i))[a]? = some (L.getD i 0, if a = b then plv i else va) := by
    by_cases e : a = b
    · have := hab e; subst e; subst this; simp [hal]
    · rw [List.getElem?_set_ne (Ne.symm e), ea]; simp [e]
  have e2 : ∀ k, fidx ((m.set b (L.getD j 0, plv i)).set a (L.getD i 0, plv j)) k = fidx m k := fun k => by rw [fidx_set _ a _ _ _ hx k, e1]
  have hmem : ∀ k, k ∈ swl 0 L i j ↔ k ∈ L := fun k => (swl_perm 0 L i j hi hj).mem_iff
  refine ⟨fun k hk => ?_, fun k hk => by rw [e2]; exact h.2.1 k fun hh => hk ((hmem k).2 hh), by rw [fst_set _ a _ _ _ hx, fst_set m b _ vb _ eb]; exact h.2.2⟩
  rw [swl_len] at hk
  rw [swl_get 0 L i j hi hj]
  unfold sw
  simp only [e2]
  by_cases h1 : k = i
  · subst h1
    rw [if_pos rfl]
    refine ⟨b, hb, ?_⟩
    by_cases e : a = b
    · have := hab e; subst e; subst this; simp [hal]
    · rw [List.getElem?_set_ne e]; simp [hbl]
  · rw [if_neg h1]
    by_cases h2 : k = j
    · subst h2
      rw [if_pos rfl]
      exact ⟨a, ha, by simp [hal]⟩
    · rw [if_neg h2]
      obtain ⟨d, hd, ed⟩ := h.1 k hk
      have hda : a ≠ d := fun e => h1 (nodup_get hn hk hi (fidx_one hd (e ▸ ha)))
      have hdb : b ≠ d := fun e => h2 (nodup_get hn hk hj (fidx_one hd (e ▸ hb)))
      exact ⟨d, hd, by rw [List.getElem?_set_ne hda, List.getElem?_set_ne hdb, ed]⟩
theorem fidx_append (m : List (Int × Value)) (k : Int) (v : Value) (x : Int) : fidx (m ++ [(k, v)]) x = match fidx m x with | some j => some j | none => if x = k then some m.length else none := by
  induction m with
  | nil => simp [fidx]
  | cons p r ih =>
    simp only [List.cons_append, fidx_cons, ih]
    by_cases h : x = p.1
    · simp [h]
    · simp only [if_neg h]
      cases fidx r x with
      | some j => simp
      | none => by_cases e : x = k <;> simp [e]
theorem wh_push {m : List (Int × Value)} {L : List Int} (h : Wh m L) {n : Int} (hn : n ∉ L) : Wh (m ++ [(n, plv L.length)]) (L ++ [n]) := by
  refine ⟨fun i hi => ?_, fun k hk => ?_, ?_⟩
  · by_cases hl : i < L.length
    · obtain ⟨j, hj, e⟩ := h.1 i hl
      have hg : (L ++ [n]).getD i 0 = L.getD i 0 := by simp [List.getD_eq_getElem?_getD, List.getElem?_append_left hl]
      rw [hg]
      refine ⟨j, by rw [fidx_append, hj], ?_⟩
      rw [List.getElem?_append_left (fidx_lt m _ j hj), e]
    · have hi' : i = L.length := by simp at hi; omega
      subst hi'
      have hg : (L ++ [n]).getD L.length 0 = n := by simp [List.getD_eq_getElem?_getD]
      rw [hg]
      exact ⟨m.length, by rw [fidx_append, h.2.1 n hn]; simp, by simp⟩
  · have h1 : k ∉ L := fun hh => hk (List.mem_append_left _ hh)
    have h2 : k ≠ n := fun e => hk (by simp [e])
    rw [fidx_append, h.2.1 k h1]
    simp [h2]
  · rw [List.map_append]
    refine List.nodup_append.2 ⟨h.2.2, by simp, fun x hx y hy e => ?_⟩
    simp at hy
    subst hy
    exact fidx_none (h.2.1 y hn) (e ▸ hx)
theorem fidx_erase : ∀ (m : List (Int × Value)) (n : Int) (a : Nat), fidx m n = some a → (∀ k j, fidx m k = some j → k ≠ n → fidx (m.eraseIdx a) k = some (if j < a then j else j - 1)) ∧ ∀ k, fidx m k = none → fidx (m.eraseIdx a) k = none := by
  intro m n
  induction m with
  | nil => intro a h; simp [fidx] at h
  | cons p r ih =>
    intro a h
    rw [fidx_cons] at h
    by_cases e : n = p.1
    · rw [if_pos e] at h
      injection h with h
      subst h
      refine ⟨fun k j hj hk => ?_, fun k hk => ?_⟩
      · rw [fidx_cons, if_neg (by rw [← e]; exact hk)] at hj
        obtain ⟨i, hi, rfl⟩ := Option.map_eq_some_iff.1 hj
        simpa using hi
      · rw [fidx_cons] at hk
        by_cases e2 : k = p.1
        · rw [if_pos e2] at hk; cases hk
        · rw [if_neg e2] at hk; simpa using hk
    · rw [if_neg e] at h
      obtain ⟨b, hb, rfl⟩ := Option.map_eq_some_iff.1 h
      obtain ⟨g1, g2⟩ := ih b hb
      refine ⟨fun k j hj hk => ?_, fun k hk => ?_⟩
      · rw [fidx_cons] at hj
        rw [List.eraseIdx_cons_succ, fidx_cons]
        by_cases e2 : k = p.1
        · rw [if_pos e2] at hj ⊢
          injection hj with hj
          subst hj
          simp
        · rw [if_neg e2] at hj ⊢
          obtain ⟨i, hi, rfl⟩ := Option.map_eq_some_iff.1 hj
          rw [g1 k i hi hk]
          have hib : i ≠ b := fun e3 => hk (fidx_one hi (e3 ▸ hb))
          simp only [Option.map_some]
          congr 1
          by_cases h3 : i < b
          · rw [if_pos h3, if_pos (by omega)]
          · rw [if_neg h3, if_neg (by omega)]; omega
      · rw [fidx_cons] at hk
        rw [List.eraseIdx_cons_succ, fidx_cons]
        by_cases e2 : k = p.1
        · rw [if_pos e2] at hk; cases hk
        · rw [if_neg e2] at hk ⊢
          rw [g2 k (by simpa using hk)]
          rfl
theorem wh_pop {m : List (Int × Value)} {L : List Int} {n : Int} (h : Wh m (L ++ [n])) (hn : (L ++ [n]).Nodup) : ∃ a, fidx m n = some a ∧ Wh (m.eraseIdx a) L := by
  have hg : (L ++ [n]).getD L.length 0 = n := by simp [List.getD_eq_getElem?_getD]
  obtain ⟨a, ha, _⟩ := h.1 L.length (by simp)
  rw [hg] at ha
  have hnL : n ∉ L := by
    have := List.nodup_append.1 hn
    intro hh
    exact this.2.2 n hh n (by simp) rfl
  obtain ⟨e1, e2⟩ := fidx_erase m n a ha
  have her : ∀ (l : List (Int × Value)) (j : Nat), (l.eraseIdx j).map (·.1) = (l.map (·.1)).eraseIdx j := by
    intro l
    induction l with
    | nil => intro j; simp
    | cons x l ih => intro j; cases j <;> simp [ih]
  refine ⟨a, ha, fun i hi => ?_, fun k hk => ?_, by rw [her]; exact h.2.2.sublist (List.eraseIdx_sublist _ _)⟩
  · obtain ⟨j, hj, ej⟩ := h.1 i (by simp; omega)
    have hgi : (L ++ [n]).getD i 0 = L.getD i 0 := by simp [List.getD_eq_getElem?_getD, List.getElem?_append_left hi]
    rw [hgi] at hj ej
    have hne : L.getD i 0 ≠ n := fun e => hnL (e ▸ getD_in hi)
    have hja : j ≠ a := fun e => hne (fidx_one hj (e ▸ ha))
    refine ⟨_, e1 _ j hj hne, ?_⟩
    by_cases h3 : j < a
    · rw [if_pos h3, List.getElem?_eraseIdx_of_lt h3, ej]
    · rw [if_neg h3, List.getElem?_eraseIdx_of_ge (by omega), show j - 1 + 1 = j by omega, ej]
  · by_cases hkn : k = n
    · subst hkn
      -- the only entry of n has gone
      cases hf : fidx (m.eraseIdx a) k with
      | none => rfl
      | some j =>
        exfalso
        obtain ⟨v, ev⟩ := fidx_some _ _ j hf
        obtain ⟨va, ea⟩ := fidx_some m _ a ha
        have hp := List.pairwise_iff_getElem.1 h.2.2
        have hal := fidx_lt m _ a ha
        have ka : (m.map (·.1))[a]? = some k := by simp [ea]
        by_cases h3 : j < a
        · rw [List.getElem?_eraseIdx_of_lt h3] at ev
          have kj : (m.map (·.1))[j]? = some k := by simp [ev]
          obtain ⟨l1, g1⟩ := List.getElem?_eq_some_iff.1 ka
          obtain ⟨l2, g2⟩ := List.getElem?_eq_some_iff.1 kj
          exact hp j a l2 l1 h3 (g2.trans g1.symm)
        · rw [List.getElem?_eraseIdx_of_ge (by omega)] at ev
          have kj : (m.map (·.1))[j + 1]? = some k := by simp [ev]
          obtain ⟨l1, g1⟩ := List.getElem?_eq_some_iff.1 ka
          obtain ⟨l2, g2⟩ := List.getElem?_eq_some_iff.1 kj
          exact hp a (j + 1) l1 l2 (by omega) (g1.trans g2.symm)
    · exact e2 k (h.2.1 k (by simp [hk, hkn]))
end Go.Proofs.Ytgmnjbnlfpopgaa
