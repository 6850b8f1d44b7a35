import Derived.Test.YtgmnjbnlfpopgaaM5
/-!
Rows that are gone through together: what the heap holds of them.
-/
namespace Go.Proofs.Ytgmnjbnlfpopgaa
open Go.RowKit Go.Proofs.Dm

structure Rw where
  A : Option Addr
  c : Nat
  xs : List Int
def Rw.cell (r : Rw) : Value := .slice r.A r.xs.length r.c
def Rw.run (r : Rw) (q : Nat) : Rn := ⟨r.A, r.c, r.xs, q⟩
def runsOf (rws : List Rw) : Nat → List Rn
  | 0 => []
  | q + 1 => runsOf rws q ++ (match rws[q]? with | some r => if r.xs = [] then [] else [r.run q] | none => [])
/-- What the heap's runs are of the rows. -/
structure St0 (L : List Rn) (rs : List (List Int)) : Prop where
  mem : ∀ e ∈ L, 0 ≤ e.which ∧ rs[e.which.toNat]? = some e.xs
  one : L.Pairwise fun a b => a.which ≠ b.which
  all : ∀ (i : Nat) xs, rs[i]? = some xs → xs ≠ [] → ∃ e ∈ L, e.which = i
theorem st0_perm {L M : List Rn} {rs : List (List Int)} (h : St0 L rs) (p : M.Perm L) : St0 M rs :=
  ⟨fun e he => h.mem e (p.mem_iff.1 he), (p.pairwise_iff (fun h => Ne.symm h)).2 h.one, fun i xs h1 h2 => by obtain ⟨e, he, hw⟩ := h.all i xs h1 h2; exact ⟨e, p.mem_iff.2 he, hw⟩⟩
theorem runsOf_mem (rws : List Rw) : ∀ q, (∀ e ∈ runsOf rws q, ∃ i r, i < q ∧ rws[i]? = some r ∧ r.xs ≠ [] ∧ e = r.run i) ∧ (runsOf rws q).Pairwise (fun a b => a.which ≠ b.which) ∧ (∀ i r, i < q → rws[i]? = some r → r.xs ≠ [] → r.run i ∈ runsOf rws q)
  | 0 => ⟨fun e he => by simp [runsOf] at he, List.Pairwise.nil, fun i r hi => by omega⟩
  | q + 1 => by
    obtain ⟨h1, h2, h3⟩ := runsOf_mem rws q
    have hd : (match rws[q]? with | some r => if r.xs = [] then [] else [r.run q] | none => []) = [] ∨ ∃ r, rws[q]? = some r ∧ r.xs ≠ [] ∧ (match rws[q]? with | some r => if r.xs = [] then [] else [r.run q] | none => []) = [r.run q] := by
      cases hq : rws[q]? with
      | none => exact .inl rfl
      | some r =>
        by_cases hr : r.xs = []
        · exact .inl (by simp [hr])
        · exact .inr ⟨r, rfl, hr, by simp [hr]⟩
    unfold runsOf
    rcases hd with hd | ⟨r, hr1, hr2, hd⟩
    · rw [hd, List.append_nil]
      refine ⟨fun e he => ?_, h2, fun i r hi hr hx => ?_⟩
      · obtain ⟨i, r, hi, h⟩ := h1 e he
        exact ⟨i, r, by omega, h⟩
      · by_cases hiq : i = q
        · subst hiq
          rw [hr] at hd
          simp [hx] at hd
        · exact h3 i r (by omega) hr hx
    · rw [hd]
      refine ⟨fun e he => ?_, ?_, fun i r' hi hr hx => ?_⟩
      · rcases List.mem_append.1 he with he | he
        · obtain ⟨i, r, hi, h⟩ := h1 e he
          exact ⟨i, r, by omega, h⟩
        · simp at he; exact ⟨q, r, by omega, hr1, hr2, he⟩
      · refine List.pairwise_append.2 ⟨h2, by simp, fun a ha b hb => ?_⟩
        simp at hb; subst hb
        obtain ⟨i, r', hi, _, _, rfl⟩ := h1 a ha
        simp [Rw.run]; omega
      · by_cases hiq : i = q
        · subst hiq
          rw [hr1] at hr; injection hr with hr; subst hr
          simp
        · exact List.mem_append_left _ (h3 i r' (by omega) hr hx)
theorem runsOf_st (rws : List Rw) : St0 (runsOf rws rws.length) (rws.map (·.xs)) := by
  obtain ⟨h1, h2, h3⟩ := runsOf_mem rws rws.length
  refine ⟨fun e he => ?_, h2, fun i xs hi hx => ?_⟩
  · obtain ⟨i, r, _, hr, _, rfl⟩ := h1 e he
    exact ⟨by simp [Rw.run], by simp [Rw.run, hr]⟩
  · rw [List.getElem?_map] at hi
    obtain ⟨r, hr, rfl⟩ := Option.map_eq_some_iff.1 hi
    have hlt : i < rws.length := (List.getElem?_eq_some_iff.1 hr).1
    exact ⟨_, h3 i r hlt hr hx, rfl⟩
theorem runsOf_len (rws : List Rw) : ∀ q, (runsOf rws q).length ≤ q
  | 0 => by simp [runsOf]
  | q + 1 => by
    have := runsOf_len rws q
    unfold runsOf
    rw [List.length_append]
    split
    · split <;> simp <;> omega
    · simp; omega

/-- The top one goes on. -/
theorem st0_step {e : Rn} {L : List Rn} {rs : List (List Int)} (h : St0 (e :: L) rs) (A' : Option Addr) (c' : Nat) (xs' : List Int) : St0 (⟨A', c', xs', e.which⟩ :: L) (rs.set e.which.toNat xs') := by
  obtain ⟨h1, h2, h3⟩ := h
  obtain ⟨he0, he1⟩ := h1 e (List.mem_cons_self ..)
  have hlt : e.which.toNat < rs.length := (List.getElem?_eq_some_iff.1 he1).1
  have hp := List.pairwise_cons.1 h2
  refine ⟨fun a ha => ?_, List.pairwise_cons.2 ⟨fun b hb => hp.1 b hb, hp.2⟩, fun i xs hi hx => ?_⟩
  · rcases List.mem_cons.1 ha with rfl | ha
    · exact ⟨he0, by simp [hlt]⟩
    · obtain ⟨a0, a1⟩ := h1 a (List.mem_cons_of_mem _ ha)
      have := hp.1 a ha
      refine ⟨a0, ?_⟩
      rw [List.getElem?_set_ne (by omega)]
      exact a1
  · by_cases hie : e.which.toNat = i
    · exact ⟨_, List.mem_cons_self .., by simp; omega⟩
    · rw [List.getElem?_set_ne hie] at hi
      obtain ⟨a, ha, haw⟩ := h3 i xs hi hx
      rcases List.mem_cons.1 ha with rfl | ha
      · omega
      · exact ⟨a, List.mem_cons_of_mem _ ha, haw⟩
/-- The top one, which is empty, goes. -/
theorem st0_drop {e : Rn} {L : List Rn} {rs : List (List Int)} (h : St0 (e :: L) rs) (he : e.xs = []) : St0 L rs := by
  obtain ⟨h1, h2, h3⟩ := h
  refine ⟨fun a ha => h1 a (List.mem_cons_of_mem _ ha), (List.pairwise_cons.1 h2).2, fun i xs hi hx => ?_⟩
  obtain ⟨a, ha, haw⟩ := h3 i xs hi hx
  rcases List.mem_cons.1 ha with rfl | ha
  · obtain ⟨a0, a1⟩ := h1 a (List.mem_cons_self ..)
    rw [haw] at a1
    simp only [Int.toNat_natCast] at a1
    rw [hi] at a1
    injection a1 with a1
    rw [he] at a1
    exact absurd a1 hx
  · exact ⟨a, ha, haw⟩
theorem st0_none {rs : List (List Int)} (h : St0 [] rs) : rs.flatten = [] := by
  rw [List.flatten_eq_nil_iff]
  intro l hl
  obtain ⟨i, hi⟩ := List.getElem?_of_mem hl
  by_cases hx : l = []
  · exact hx
  · obtain ⟨e, he, _⟩ := h.all i l hi hx; simp at he
theorem sd_set {key : Int → Int} {rs : List (List Int)} (h : ∀ r ∈ rs, Sd key r) {i : Nat} {x : Int} {xs : List Int} (hi : rs[i]? = some (x :: xs)) : ∀ r ∈ rs.set i xs, Sd key r := by
  intro r hr
  rcases List.mem_or_eq_of_mem_set hr with hr | rfl
  · exact h r hr
  · exact (List.pairwise_cons.1 (h _ (List.mem_of_getElem? hi))).2
/-- What goes out next. -/
theorem st_out {key : Int → Int} {e : Rn} {L : List Rn} {rs : List (List Int)} {out all : List Int} {x : Int} {xs : List Int} (h : St0 (e :: L) rs) (hs : ∀ r ∈ rs, Sd key r) (hx : e.xs = x :: xs) (hh : Hp (rlt key) (fl rn0 (e :: L)) (e :: L).length) (ho : out ++ srt key rs.flatten = all) :
    (out ++ [x]) ++ srt key (rs.set e.which.toNat xs).flatten = all := by
  obtain ⟨he0, he1⟩ := h.mem e (List.mem_cons_self ..)
  rw [hx] at he1
  have hst := srt_step (key := key) hs he1 fun j y ys hj => by
    obtain ⟨a, ha, haw⟩ := h.all j (y :: ys) hj (by simp)
    obtain ⟨a0, a1⟩ := h.mem a ha
    rw [haw] at a1
    simp only [Int.toNat_natCast] at a1
    rw [hj] at a1
    injection a1 with a1
    obtain ⟨k, hk, hka⟩ := List.getElem_of_mem ha
    have ht := hp_top (rlt_ord key) hh k hk
    have e1 : fl rn0 (e :: L) k = a := by
      show (e :: L).getD k rn0 = a
      rw [List.getD_eq_getElem?_getD, List.getElem?_eq_getElem hk, hka]; rfl
    have e2 : fl rn0 (e :: L) 0 = e := rfl
    rw [e1, e2] at ht
    simp only [rlt, ← a1, hx, List.headD_cons, Bool.or_eq_false_iff, decide_eq_false_iff_not, Bool.and_eq_false_iff, beq_eq_false_iff_ne] at ht
    omega
  rw [hst] at ho
  simpa using ho
end Go.Proofs.Ytgmnjbnlfpopgaa
