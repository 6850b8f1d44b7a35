import Derived.Test.YtgmnjbnlfpopgaaMap
/-!
A map of integers, with the stamps of its entries: what 'm[a], m[b] = x, y' asks.
-/
namespace Go.Proofs.Dm
open Go.RowKit

/-- Block r is a map of just these keys and values, in this order; its entries' stamps are bs, each one below c. -/
def MapB (w : World) (r : Nat) (m : List (Int × Value)) (bs : List Nat) (c : Nat) : Prop :=
  ∃ es : Array MapEntry, w.heap[r]? = some (.map es c) ∧ es.toList.map kv = kvs m ∧ es.toList.map (·.born) = bs ∧ bs.Nodup ∧ ∀ b ∈ bs, b < c

section
variable {P : Program} {w : World} {r : Nat} {m : List (Int × Value)} {bs : List Nat} {c : Nat} {t kt e : TypeId}
theorem MapB.toI (h : MapB w r m bs c) : MapI w r m := by
  obtain ⟨es, h1, h2, _⟩ := h
  exact ⟨es, c, h1, h2⟩
theorem MapB.fr {S : List (Option Nat)} {w' : World} (h : MapB w r m bs c) (hf : Fr S w w') (hn : some r ∉ S) : MapB w' r m bs c := by
  have hlt := h.toI.lt
  obtain ⟨es, h1, h2⟩ := h
  exact ⟨es, (hf.block r hlt hn).trans h1, h2⟩
theorem MapB.made (w : World) : MapB (w.alloc (.map #[] 0)) w.heap.size [] [] 0 := ⟨#[], heap_alloc_new w _, rfl, rfl, List.nodup_nil, by simp⟩
theorem fidx_key : ∀ (m : List (Int × Value)) (k : Int) (j : Nat) (hj : j < m.length), fidx m k = some j → m[j].1 = k := by
  intro m
  induction m with
  | nil => intro k j hj; simp at hj
  | cons p r ih =>
    intro k j hj h
    unfold fidx at h
    split at h
    · rename_i hp; cases h; exact hp.symm
    · obtain ⟨i, hi, rfl⟩ := Option.map_eq_some_iff.1 h
      simpa using ih k i (by simpa using hj) hi
theorem MapB.ent (h : MapB w r m bs c) {j : Nat} (hj : j < m.length) : ∃ (es : Array MapEntry) (he : j < es.size), w.heap[r]? = some (.map es c) ∧ es.toList.map kv = kvs m ∧ es.toList.map (·.born) = bs ∧ es[j].key = .int .i64 m[j].1 ∧ es[j].val = m[j].2 ∧ es[j].born = bs.getD j 0 := by
  obtain ⟨es, h1, h2, h3, _⟩ := h
  have hl : es.size = m.length := by
    have := congrArg List.length h2
    simpa [kvs] using this
  have hej : j < es.size := by omega
  have e1 : (es.toList.map kv)[j]? = (kvs m)[j]? := by rw [h2]
  have e2 : (es.toList.map (·.born))[j]? = bs[j]? := by rw [h3]
  simp [kvs, kv, hej, hj] at e1
  simp [hej] at e2
  exact ⟨es, hej, h1, h2, h3, e1.1, e1.2, by simp [List.getD_eq_getElem?_getD, ← e2]⟩
theorem modify_same {α : Type} (xs : Array α) (j : Nat) (f : α → α) (hj : j < xs.size) (h : f xs[j] = xs[j]) : xs.modify j f = xs := by
  apply Array.ext
  · simp
  · intro i h1 h2
    rw [Array.getElem_modify]
    by_cases hi : j = i
    · subst hi; simp [h]
    · simp [hi]
theorem run_mapEntry_B (h : MapB w r m bs c) (ht : P.underlying t = some (.map kt e)) (hk : P.underlying kt = some (.int .i64)) (k : Int) (j : Nat) (hf : fidx m k = some j) :
    ∃ v, (Instr.mapEntry t (.map (some r)) (.int .i64 k)).run P w = .ok (.tuple #[v, goInt (bs.getD j 0)]) w := by
  have hj := fidx_lt m k j hf
  obtain ⟨es, he, h1, h2, _, h4, h5, h6⟩ := h.ent hj
  have hm : m[j]? = some m[j] := List.getElem?_eq_getElem hj
  rw [fidx_key m k j hj hf] at h4
  refine ⟨m[j].2, ?_⟩
  simp only [Instr.mapEntry, Sem.run_bind, run_underlying ht, Result.andThen_ok]
  simp only [Sem.run_bind, getObj, Sem.run, h1, Sem.run_pure, Result.andThen_ok, checkKey_int hk, findKey_int hk k es.toList h2, hf, Option.bind_some, hm, Option.map_some]
  have hst : ∀ w, (Instr.keyThatStays (((es[j]?).map (·.key)).getD (.int .i64 k)) (.int .i64 k)).run P w = .ok (.int .i64 k) w := by
    intro w
    rw [Array.getElem?_eq_getElem he]
    simp [h4, Instr.keyThatStays, Instr.sameBits]
  simp only [hst, Result.andThen_ok]
  have hs : es.modify j (fun x => { x with key := .int .i64 k }) = es := modify_same es j _ he (by rw [← h4])
  have hw : ({ w with heap := w.heap.setIfInBounds r (.map es c) } : World) = w := by
    have : w.heap.setIfInBounds r (.map es c) = w.heap := by
      apply Array.ext_getElem?
      intro i
      by_cases hi : r = i
      · subst hi
        have hlt := (Array.getElem?_eq_some_iff.1 h1).1
        rw [Array.getElem?_eq_getElem hlt] at h1
        injection h1 with h1
        simp [hlt, h1]
      · rw [Array.getElem?_setIfInBounds_ne hi]
    rw [this]
  simp [setObj, Sem.run, h1, hs, hw, Array.getElem?_eq_getElem he, h6]
theorem findIdx_born {l : List MapEntry} (hn : (l.map (·.born)).Nodup) {j : Nat} (hj : j < l.length) : l.findIdx? (fun e => ((e.born : Nat) : Int) == ((l[j].born : Nat) : Int)) = some j := by
  rw [List.findIdx?_eq_some_iff_getElem]
  refine ⟨hj, by simp, fun i hi => ?_⟩
  have := List.pairwise_iff_getElem.1 hn i j (by simp; omega) (by simpa using hj) hi
  simp at this ⊢
  omega
theorem run_entryStore_B (h : MapB w r m bs c) (j : Nat) (hj : j < m.length) (val : Value) :
    ∃ w', (Instr.entryStore t (.map (some r)) (goInt (bs.getD j 0)) val).run P w = .ok () w' ∧ MapB w' r (m.set j (m[j].1, val)) bs c ∧ Fr [some r] w w' := by
  have hlt := h.toI.lt
  obtain ⟨es, he, h1, h2, h3, h4, h5, h6⟩ := h.ent hj
  obtain ⟨es', e1, _, _, hnd, hbd⟩ := h
  have hidx : es.findIdx? (fun e => ((e.born : Nat) : Int) == ((bs.getD j 0 : Nat) : Int)) = some j := by
    have := findIdx_born (l := es.toList) (by rw [h3]; exact hnd) (j := j) (by simpa using he)
    rw [← h6]
    have hc : ∀ (xs : Array MapEntry) (p : MapEntry → Bool), xs.findIdx? p = xs.toList.findIdx? p := by intro xs p; cases xs; simp
    rw [hc]
    simpa using this
  have hidx' : es.findIdx? (fun e => ((e.born : Nat) : Int) == ((bs[j]?.getD 0 : Nat) : Int)) = some j := by rw [← List.getD_eq_getElem?_getD]; exact hidx
  refine ⟨setMap w r (es.modify j fun x => { x with val := val }) c, ?_, ⟨_, heap_setMap hlt _ _, ?_, ?_, hnd, hbd⟩, (Fr.refl _ _).setMap (by simp) _ _⟩
  · simp [Instr.entryStore, getObj, Sem.run, h1, asInt, asIntOf, goInt, hidx', setObj, setMap]
  · have h7 : (es.modify j fun x => { x with val := val }).toList.map kv = (es.toList.map kv).set j (.int .i64 m[j].1, val) := by
      apply List.ext_getElem?
      intro i
      simp only [List.getElem?_map, Array.getElem?_toList, Array.getElem?_modify, List.getElem?_set, List.length_map, Array.length_toList]
      by_cases hij : j = i
      · subst hij; simp [he, kv, h4]
      · simp [hij]
    rw [h7, h2]
    simp [kvs, List.map_set]
  · rw [← h3]
    apply List.ext_getElem?
    intro i
    simp only [List.getElem?_map, Array.getElem?_toList, Array.getElem?_modify]
    by_cases hij : j = i
    · subst hij; simp [he]
    · simp [hij]
theorem run_mapUpdate_B (h : MapB w r m bs c) (ht : P.underlying t = some (.map kt e)) (hk : P.underlying kt = some (.int .i64)) (k : Int) (v : Value) (hf : fidx m k = none) :
    ∃ w', (Instr.mapUpdate t (.map (some r)) (.int .i64 k) v).run P w = .ok () w' ∧ MapB w' r (m ++ [(k, v)]) (bs ++ [c]) (c + 1) ∧ Fr [some r] w w' := by
  have hlt := h.toI.lt
  obtain ⟨es, h1, h2, h3, h4, h5⟩ := h
  refine ⟨setMap w r (es.push { key := .int .i64 k, val := v, born := c }) (c + 1), ?_, ⟨_, heap_setMap hlt _ _, ?_, ?_, ?_, ?_⟩, (Fr.refl _ _).setMap (by simp) _ _⟩
  · simp only [Instr.mapUpdate, Sem.run_bind, run_underlying ht, Result.andThen_ok]
    simp only [Sem.run_bind, getObj, Sem.run, h1, Result.andThen_ok, checkKey_int hk, findKey_int hk k es.toList h2, hf]
    simp [setObj, Sem.run, h1, setMap]
  · simp [h2, kvs, kv]
  · simp [h3]
  · refine List.nodup_append.2 ⟨h4, by simp, fun a ha b hb e => ?_⟩
    have := h5 a ha
    simp at hb
    omega
  · intro b hb
    rcases List.mem_append.1 hb with hb | hb
    · have := h5 b hb; omega
    · simp at hb; omega
theorem run_delete_B (h : MapB w r m bs c) (ht : P.underlying t = some (.map kt e)) (hk : P.underlying kt = some (.int .i64)) (k : Int) (j : Nat) (hf : fidx m k = some j) (ty : TypeId) :
    ∃ w', (Builtin.delete_ #[t, kt] ty #[.map (some r), .int .i64 k]).run P w = .ok (.tuple #[]) w' ∧ MapB w' r (m.eraseIdx j) (bs.eraseIdx j) c ∧ Fr [some r] w w' := by
  have hlt := h.toI.lt
  have hj := fidx_lt m k j hf
  obtain ⟨es, h1, h2, h3, h4, h5⟩ := h
  have hm : m[j]? = some m[j] := List.getElem?_eq_getElem hj
  have h6 : (es.eraseIdxIfInBounds j).toList = es.toList.eraseIdx j := by
    unfold Array.eraseIdxIfInBounds
    split
    · simp
    · rename_i hn; rw [List.eraseIdx_of_length_le (by simpa using hn)]
  have h7 : ∀ {β : Type} (f : MapEntry → β) (l : List MapEntry) (j : Nat), (l.eraseIdx j).map f = (l.map f).eraseIdx j := by
    intro β f l
    induction l with
    | nil => intro j; simp
    | cons a l ih => intro j; cases j <;> simp [ih]
  refine ⟨setMap w r (es.eraseIdxIfInBounds j) c, ?_, ⟨_, heap_setMap hlt _ _, ?_, ?_, ?_, ?_⟩, (Fr.refl _ _).setMap (by simp) _ _⟩
  · simp [Builtin.delete_, run_underlying ht, getObj, Sem.run, h1, checkKey_int hk, findKey_int hk k es.toList h2, hf, hj, setObj, setMap]
  · have h8 : ∀ (l : List (Int × Value)) (j : Nat), kvs (l.eraseIdx j) = (kvs l).eraseIdx j := by
      intro l
      induction l with
      | nil => intro j; simp [kvs]
      | cons a l ih =>
        intro j
        cases j with
        | zero => simp [kvs]
        | succ j => simpa [kvs] using ih j
    rw [h6, h7, h2, ← h8]
  · rw [h6, h7, h3]
  · exact h4.sublist (List.eraseIdx_sublist _ _)
  · intro b hb
    exact h5 b ((List.eraseIdx_sublist _ _).mem hb)
end
end Go.Proofs.Dm
