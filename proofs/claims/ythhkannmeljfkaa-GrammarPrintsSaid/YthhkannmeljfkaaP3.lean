import Derived.Test.YthhkannmeljfkaaP2
namespace Go.Proofs.Ythhkannmeljfkaa
open Go.RowKit Go.Proofs.Dm

def step1 (s : PS × List Int) (k : Int) : PS × List Int := if k = 27 then (P0, []) else left (pStep (prep s.1 0 false) k) (s.2 ++ [k])
def tell1 (s : PS × List Int) (k : Int) : List Value × Int × Int := if k = 27 then (five 0 0 0 0 0, 0, 0) else told (pStep (prep s.1 0 false) k)
def kst (l : List Int) : Nat → PS × List Int
  | 0 => (P0, [])
  | q + 1 => step1 (kst l q) (l.getD q 0)
structure J (s : PS × List Int) : Prop where
  g : GInv s.1
  r : Runs s.1 s.2 0 false
  m : phi s.1 ≤ s.2.length
  o : s.1.op < 256
  v : s.1.st = 40 → s.1.verb < 256
theorem J_zero : J (P0, []) := ⟨gInv_P0, runs_P0 _ _, by decide, by decide, by decide⟩
theorem phi_prep (P : PS) (way : Int) (rec : Bool) : phi (prep P way rec) = phi P := by
  unfold phi prep
  by_cases h : P.st = 0
  · simp [h]
  · simp [h]
theorem prep_st {P : PS} (h : GInv P) (way : Int) (rec : Bool) : (prep P way rec).st ∈ stages := by
  show (if P.st = 0 then 18 else P.st) ∈ stages
  rcases h.2 with h | h
  · rw [if_pos h]; decide
  · split
    · decide
    · exact h
theorem J_meas {s : PS × List Int} (h : J s) (k : Int) : Meas s.2.length (pStep (prep s.1 0 false) k) := by
  have hp := gInv_prep h.g 0 false
  have h1 := pStep_meas (prep s.1 0 false) k hp.d0 hp.c0 h.o (fun h40 => h.v (by
    have : (if s.1.st = 0 then 18 else s.1.st) = 40 := h40
    split at this
    · omega
    · exact this)) (prep_st h.g 0 false)
  rw [phi_prep] at h1
  have hm := h.m
  exact ⟨fun h0 => ⟨by have := (h1.1 h0).1; omega, (h1.1 h0).2⟩, fun h0 => by have := h1.2 h0; omega⟩
theorem J_step {s : PS × List Int} (h : J s) (k : Int) : J (step1 s k) := by
  unfold step1
  split
  · exact J_zero
  · have hg := gInv_left h.g 0 false k (s.2 ++ [k])
    have hr := runs_left h.r k
    have hm := J_meas h k
    have hs := pStep_st (prep s.1 0 false) k
    generalize pStep (prep s.1 0 false) k = r at *
    unfold left at hg hr ⊢
    split
    · exact J_zero
    · rename_i hn
      rw [if_neg hn] at hg hr
      have h0 : r.2.2 = 0 := by
        rcases hs with ⟨h, _⟩ | ⟨h, _⟩ | ⟨h, _⟩
        · exact h
        · exact absurd (.inr (.inl h)) hn
        · exact absurd (.inr (.inr h)) hn
      exact ⟨hg, hr, by have := (hm.1 h0).1; simpa using this, (hm.1 h0).2.1, (hm.1 h0).2.2⟩
theorem J_kst (l : List Int) : ∀ q, J (kst l q)
  | 0 => J_zero
  | q + 1 => J_step (J_kst l q) _
theorem J_told {s : PS × List Int} (h : J s) {k a b c d e u : Int} (ht : tell1 s k = (five a b c d e, 1, u)) : klen a b c d e ≤ s.2.length + 1 ∧ k ≠ 27 ∧ u = 0 := by
  unfold tell1 at ht
  split at ht
  · simp at ht
  · rename_i hk
    have hm := J_meas h k
    generalize pStep (prep s.1 0 false) k = r at *
    unfold told at ht
    split at ht
    · simp at ht
    · split at ht
      · rename_i h1
        have h2 := hm.2 h1
        simp only [cmd5, five, Prod.mk.injEq, List.cons.injEq, Value.int.injEq, true_and, and_true] at ht
        obtain ⟨⟨h3, h4, h5, h6, h7⟩, h8⟩ := ht
        unfold pklen at h2
        rw [h3, h4, h5, h6, h7] at h2
        exact ⟨h2, hk, h8.symm⟩
      · split at ht
        · simp at ht
        · simp at ht
theorem step1_two (s : PS × List Int) (k : Int) : (step1 s k).2 = [] ∨ ((step1 s k).2 = s.2 ++ [k] ∧ k ≠ 27 ∧ tell1 s k = (five 0 0 0 0 0, 0, 0)) := by
  unfold step1 tell1
  split
  · exact .inl rfl
  · rename_i hk
    rcases told_three _ (pStep_st (prep s.1 0 false) k) (s.2 ++ [k]) with ⟨a, b, c, d, e, u, ht, hl⟩ | ⟨u, ht, hl⟩ | ⟨u, ht, hl⟩
    · left; rw [hl]
    · left; rw [hl]
    · right
      refine ⟨by rw [hl], hk, ?_⟩
      have hu : u = 0 := by
        unfold told at ht
        split at ht
        · simp at ht
        · split at ht
          · simp at ht
          · split at ht
            · simp at ht
            · simp only [Prod.mk.injEq] at ht; omega
      rw [ht, hu]
theorem kst_len (l : List Int) : ∀ q, (kst l q).2.length ≤ q
  | 0 => by simp [kst]
  | q + 1 => by
    have h := kst_len l q
    rcases step1_two (kst l q) (l.getD q 0) with h1 | ⟨h1, _⟩
    · show (step1 _ _).2.length ≤ _; rw [h1]; simp
    · show (step1 _ _).2.length ≤ _; rw [h1]; simp; exact h
/-- No key of the first q began anew. -/
theorem kst_full (l : List Int) : ∀ q, q ≤ l.length → (kst l q).2.length = q → (kst l q).2 = l.take q ∧ ∀ i, i < q → l.getD i 0 ≠ 27 ∧ tell1 (kst l i) (l.getD i 0) = (five 0 0 0 0 0, 0, 0) ∧ (kst l i).2 = l.take i
  | 0, _, _ => ⟨rfl, fun i hi => by omega⟩
  | q + 1, hq, h => by
    rcases step1_two (kst l q) (l.getD q 0) with h1 | ⟨h1, h2, h3⟩
    · have : (kst l (q + 1)).2 = [] := h1
      rw [this] at h; simp at h
    · have h4 : (kst l (q + 1)).2 = (kst l q).2 ++ [l.getD q 0] := h1
      rw [h4] at h
      have ⟨h5, h6⟩ := kst_full l q (by omega) (by simpa using h)
      refine ⟨?_, fun i hi => ?_⟩
      · rw [h4, h5, List.take_succ_eq_append_getElem (by omega)]
        simp [List.getD_eq_getElem?_getD, show q < l.length by omega]
      · by_cases hiq : i = q
        · subst hiq; exact ⟨h2, h3, h5⟩
        · exact h6 i (by omega)
theorem take_getD (l : List Int) (i : Nat) (h : i < l.length) : l.take i ++ [l.getD i 0] = l.take (i + 1) := by
  rw [List.take_succ_eq_append_getElem h]
  simp [List.getD_eq_getElem?_getD, h]
theorem told_kst {l : List Int} {i : Nat} (h : i < l.length) (hb : (kst l i).2 = l.take i) (hk : l.getD i 0 ≠ 27) : pRun (start 0 false) (l.take (i + 1)) = tell1 (kst l i) (l.getD i 0) := by
  have hr := runs_told (J_kst l i).r (l.getD i 0)
  rw [hb, take_getD l i h] at hr
  rw [hr]
  unfold tell1
  rw [if_neg hk]

/-- The last key makes it. -/
def Made (a b c d e : Int) (l : List Int) : Prop := tell1 (kst l (l.length - 1)) (l.getD (l.length - 1) 0) = (five a b c d e, 1, 0)
noncomputable instance (a b c d e : Int) (l : List Int) : Decidable (Made a b c d e l) := Classical.propDecidable _
theorem made_all {a b c d e : Int} (l : List Int) (hl : l = ckeys a b c d e) (h : Made a b c d e l) :
    (∀ i, i + 1 < l.length → l.getD i 0 ≠ 27 ∧ tell1 (kst l i) (l.getD i 0) = (five 0 0 0 0 0, 0, 0) ∧ pRun (start 0 false) (l.take (i + 1)) = (five 0 0 0 0 0, 0, 0)) ∧ l.getD (l.length - 1) 0 ≠ 27 ∧ pRun (start 0 false) l = (five a b c d e, 1, 0) := by
  have hn : l.length = klen a b c d e := by rw [hl, ckeys_len]
  have hpos : 0 < l.length := by rw [hn]; unfold klen; have := vl_le b; omega
  obtain ⟨h1, h2, _⟩ := J_told (J_kst l (l.length - 1)) h
  have h3 := kst_len l (l.length - 1)
  have h4 := kst_full l (l.length - 1) (by omega) (by omega)
  refine ⟨fun i hi => ?_, h2, ?_⟩
  · obtain ⟨a1, a2, a3⟩ := h4.2 i (by omega)
    exact ⟨a1, a2, by rw [told_kst (by omega) a3 a1, a2]⟩
  · have h5 := told_kst (by omega) h4.1 h2
    rw [h, show l.length - 1 + 1 = l.length by omega, List.take_length] at h5
    exact h5
theorem made_of {a b c d e : Int} (l : List Int) (hpos : 0 < l.length) (h27 : ∀ i, i < l.length → l.getD i 0 ≠ 27) (hm : ∀ i, i + 1 < l.length → (pRun (start 0 false) (l.take (i + 1))).2.1 = 0)
    (u : Int) (hd : pRun (start 0 false) l = (five a b c d e, 1, u)) : Made a b c d e l := by
  have key : ∀ q, q < l.length → (kst l q).2 = l.take q := by
    intro q
    induction q with
    | zero => intro _; rfl
    | succ q ih =>
      intro hq
      have hb := ih (by omega)
      have ht := told_kst (by omega) hb (h27 q (by omega))
      have h0 := hm q (by omega)
      rw [ht] at h0
      show (step1 _ _).2 = _
      unfold step1 tell1 at *
      rw [if_neg (h27 q (by omega))] at h0 ⊢
      rcases told_three _ (pStep_st (prep (kst l q).1 0 false) (l.getD q 0)) ((kst l q).2 ++ [l.getD q 0]) with ⟨a, b, c, d, e, u, ht, hl⟩ | ⟨u, ht, hl⟩ | ⟨u, ht, hl⟩
      · rw [ht] at h0; simp at h0
      · rw [ht] at h0; simp at h0
      · rw [hl, hb, take_getD l q (by omega)]
  have hb := key (l.length - 1) (by omega)
  have ht := told_kst (by omega) hb (h27 _ (by omega))
  rw [show l.length - 1 + 1 = l.length by omega, List.take_length, hd] at ht
  have := (J_told (J_kst l (l.length - 1)) ht.symm).2.2
  unfold Made
  rw [← ht, this]
/-- What is printed. -/
noncomputable def pPrint (a b c d e : Int) : List Int := if 0 ≤ c ∧ c ≤ 9999 ∧ Made a b c d e (ckeys a b c d e) then ckeys a b c d e else []
end Go.Proofs.Ythhkannmeljfkaa
