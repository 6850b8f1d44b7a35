import Derived.Test.YtgmnjbnlfpopgaaLib
import Derived.Maps.OwnSet
/-!
Maps with int keys: a block that is a map, as a list of keys and values.
-/
namespace Go.Proofs.Dm
open Go.RowKit

def fidx : List (Int × Value) → Int → Option Nat
  | [], _ => none
  | p :: r, k => if k = p.1 then some 0 else (fidx r k).map (· + 1)
theorem fidx_cons (p : Int × Value) (r : List (Int × Value)) (k : Int) : fidx (p :: r) k = if k = p.1 then some 0 else (fidx r k).map (· + 1) := rfl
def mget (m : List (Int × Value)) (k : Int) : Option Value := (fidx m k).bind fun j => (m[j]?).map (·.2)
def mput (m : List (Int × Value)) (k : Int) (v : Value) : List (Int × Value) := match fidx m k with | none => m ++ [(k, v)] | some j => m.set j (k, v)
def mdel (m : List (Int × Value)) (k : Int) : List (Int × Value) := match fidx m k with | none => m | some j => m.eraseIdx j

theorem fidx_lt : ∀ (m : List (Int × Value)) (k : Int) (j : Nat), fidx m k = some j → j < m.length
  | [], _, _, h => by simp [fidx] at h
  | p :: r, k, j, h => by
    unfold fidx at h
    split at h
    · cases h; simp
    · obtain ⟨i, hi, rfl⟩ := Option.map_eq_some_iff.1 h
      have := fidx_lt r k i hi
      simp; omega

def kv (e : MapEntry) : Value × Value := (e.key, e.val)
def kvs (m : List (Int × Value)) : List (Value × Value) := m.map fun p => (Value.int .i64 p.1, p.2)

/-- Block r is a map of just these keys and values, in this order. -/
def MapI (w : World) (r : Nat) (m : List (Int × Value)) : Prop := ∃ es clock, w.heap[r]? = some (.map es clock) ∧ es.toList.map kv = kvs m

theorem findNow_int (k : Int) : ∀ (es : List MapEntry) (m : List (Int × Value)) (i : Nat), es.map kv = kvs m →
    Instr.findNow (.int .i64) (.int .i64 k) es i = some ((fidx m k).bind fun j => (m[j]?).map fun p => (i + j, p.2))
  | [], m, i, h => by
    cases m with
    | nil => rfl
    | cons p r => simp [kvs] at h
  | e :: es, m, i, h => by
    cases m with
    | nil => simp [kvs] at h
    | cons p r =>
      simp only [kvs, List.map_cons, List.cons.injEq, kv, Prod.mk.injEq] at h
      obtain ⟨⟨hk, hv⟩, ht⟩ := h
      unfold Instr.findNow
      rw [hk]
      by_cases hkp : k = p.1
      · subst hkp
        simp [Instr.sameNow, fidx, hv]
      · have hb : (k == p.1) = false := by simpa using hkp
        simp only [Instr.sameNow, if_true, hb]
        rw [findNow_int k es r (i + 1) ht]
        rw [fidx_cons, if_neg hkp]
        cases hf : fidx r k with
        | none => rfl
        | some j =>
          have e1 : ∀ x : Int × Value, (i + 1 + j, x.2) = (i + (j + 1), x.2) := fun x => by rw [Nat.add_assoc, Nat.add_comm 1]
          simp [e1]

def setMap (w : World) (r : Nat) (es : Array MapEntry) (clock : Nat) : World := { w with heap := w.heap.setIfInBounds r (.map es clock) }

theorem Fr.setMap {S : List (Option Nat)} {a w : World} (h : Fr S a w) {r : Nat} (hr : r < a.heap.size → some r ∈ S) (es : Array MapEntry) (clock : Nat) : Fr S a (setMap w r es clock) :=
  h.then (S' := [some r]) ⟨rfl, rfl, rfl, by simp [Dm.setMap], fun k _ hn => by
    have hk : r ≠ k := by simpa [eq_comm] using hn
    show (w.heap.setIfInBounds r _)[k]? = _
    rw [Array.getElem?_setIfInBounds_ne hk]⟩ (fun i hi e => by simp at e; subst e; exact hr hi)

section
variable {P : Program} {w : World} {r : Nat} {m : List (Int × Value)} {t kt e : TypeId}
theorem MapI.lt (h : MapI w r m) : r < w.heap.size := by
  obtain ⟨es, c, h, _⟩ := h
  exact (Array.getElem?_eq_some_iff.1 h).1
theorem MapI.fr {S : List (Option Nat)} {w' : World} (h : MapI w r m) (hf : Fr S w w') (hn : some r ∉ S) : MapI w' r m := by
  have hlt := h.lt
  obtain ⟨es, c, h, h'⟩ := h
  exact ⟨es, c, (hf.block r hlt hn).trans h, h'⟩
theorem MapI.made (w : World) : MapI (w.alloc (.map #[] 0)) w.heap.size [] := ⟨#[], 0, heap_alloc_new w _, rfl⟩
theorem heap_setMap {w : World} {r : Nat} (h : r < w.heap.size) (es : Array MapEntry) (c : Nat) : (setMap w r es c).heap[r]? = some (.map es c) := by
  show (w.heap.setIfInBounds r _)[r]? = _
  simp [h]

theorem checkKey_int (hk : P.underlying kt = some (.int .i64)) (b : Bool) (k : Int) (w : World) : (Instr.checkKey b 10000 kt (.int .i64 k)).run P w = .ok () w := by
  have h : ∀ n, (Instr.checkKey b (n + 1) kt (.int .i64 k)).run P w = .ok () w := fun n => by simp [Instr.checkKey, run_underlying hk]
  exact h 9999

theorem findKey_int (hk : P.underlying kt = some (.int .i64)) (k : Int) (es : List MapEntry) (hes : es.map kv = kvs m) (w : World) :
    (Instr.findKey kt (.int .i64 k) es).run P w = .ok ((fidx m k).bind fun j => (m[j]?).map fun p => (j, p.2)) w := by
  simp only [Instr.findKey, Sem.run_bind, run_underlying hk, Result.andThen_ok]
  rw [findNow_int k es m 0 hes]
  simp

theorem run_lookup_int (h : MapI w r m) (ht : P.underlying t = some (.map kt e)) (hk : P.underlying kt = some (.int .i64)) (z : Value) (hz : (zeroValue e).run P w = .ok z w) (k : Int) (ok : Bool) :
    (Instr.lookup t (.map (some r)) (.int .i64 k) ok).run P w = .ok (if ok then .tuple #[(mget m k).getD z, .bool (fidx m k).isSome] else (mget m k).getD z) w := by
  obtain ⟨es, c, hr, hes⟩ := h
  simp only [Instr.lookup, Sem.run_bind, run_underlying ht, Result.andThen_ok]
  simp only [Sem.run_bind, getObj, Sem.run, hr, Sem.run_pure, Result.andThen_ok, checkKey_int hk, findKey_int hk k es.toList hes]
  cases hf : fidx m k with
  | none => simp [mget, hf, hz]
  | some j =>
    have hj := fidx_lt m k j hf
    simp [mget, hf, hj]

theorem run_mapUpdate_int (h : MapI w r m) (ht : P.underlying t = some (.map kt e)) (hk : P.underlying kt = some (.int .i64)) (k : Int) (v : Value) :
    ∃ w', (Instr.mapUpdate t (.map (some r)) (.int .i64 k) v).run P w = .ok () w' ∧ MapI w' r (mput m k v) ∧ Fr [some r] w w' := by
  have hlt := h.lt
  obtain ⟨es, c, hr, hes⟩ := h
  have hl : es.size = m.length := by
    have := congrArg List.length hes
    simpa [kvs] using this
  cases hf : fidx m k with
  | none =>
    refine ⟨setMap w r (es.push { key := .int .i64 k, val := v, born := c }) (c + 1), ?_, ⟨_, _, heap_setMap hlt _ _, ?_⟩, (Fr.refl _ _).setMap (by simp) _ _⟩
    · simp only [Instr.mapUpdate, Sem.run_bind, run_underlying ht, Result.andThen_ok]
      simp only [Sem.run_bind, getObj, Sem.run, hr, Result.andThen_ok, checkKey_int hk, findKey_int hk k es.toList hes, hf]
      simp [setObj, Sem.run, hr, setMap]
    · simp [mput, hf, hes, kvs, kv]
  | some j =>
    have hj := fidx_lt m k j hf
    have hm : m[j]? = some m[j] := List.getElem?_eq_getElem hj
    have hej : j < es.size := by omega
    have hkey : (es[j]).key = .int .i64 k := by
      have h1 : (es.toList.map kv)[j]? = (kvs m)[j]? := by rw [hes]
      have h2 : m[j].1 = k := by
        have : ∀ (m : List (Int × Value)) (j : Nat) (hj : j < m.length), fidx m k = some j → m[j].1 = k := by
          intro m
          induction m with
          | nil => intro j hj; simp at hj
          | cons p r ih =>
            intro j hj h
            unfold fidx at h
            split at h
            · rename_i hp; cases h; exact hp.symm
            · obtain ⟨i, hi, rfl⟩ := Option.map_eq_some_iff.1 h
              simpa using ih i (by simpa using hj) hi
        exact this m j hj hf
      simp [kvs, kv, hej, hj] at h1
      rw [h1.1, h2]
    refine ⟨setMap w r (es.modify j fun x => { x with key := .int .i64 k, val := v }) c, ?_, ⟨_, _, heap_setMap hlt _ _, ?_⟩, (Fr.refl _ _).setMap (by simp) _ _⟩
    · simp only [Instr.mapUpdate, Sem.run_bind, run_underlying ht, Result.andThen_ok]
      simp only [Sem.run_bind, getObj, Sem.run, hr, Result.andThen_ok, checkKey_int hk, findKey_int hk k es.toList hes, hf, Option.bind_some, hm, Option.map_some]
      have hst : ∀ w, (Instr.keyThatStays (((es[j]?).map (·.key)).getD (.int .i64 k)) (.int .i64 k)).run P w = .ok (.int .i64 k) w := by
        intro w
        rw [Array.getElem?_eq_getElem hej]
        simp [hkey, Instr.keyThatStays, Instr.sameBits]
      simp only [hst, Result.andThen_ok]
      simp [setObj, Sem.run, hr, setMap]
    · have h3 : (es.modify j fun x => { x with key := .int .i64 k, val := v }).toList.map kv = (es.toList.map kv).set j (.int .i64 k, v) := by
        apply List.ext_getElem?
        intro i
        simp only [List.getElem?_map, Array.getElem?_toList, Array.getElem?_modify, List.getElem?_set, List.length_map, Array.length_toList]
        by_cases hij : j = i
        · subst hij; simp [hej, kv]
        · simp [hij]
      rw [h3, hes]
      simp [mput, hf, kvs, List.map_set]

theorem run_delete_int (h : MapI w r m) (ht : P.underlying t = some (.map kt e)) (hk : P.underlying kt = some (.int .i64)) (k : Int) (ty : TypeId) :
    ∃ w', (Builtin.delete_ #[t, kt] ty #[.map (some r), .int .i64 k]).run P w = .ok (.tuple #[]) w' ∧ MapI w' r (mdel m k) ∧ Fr [some r] w w' := by
  have hlt := h.lt
  obtain ⟨es, c, hr, hes⟩ := h
  cases hf : fidx m k with
  | none =>
    refine ⟨setMap w r es c, ?_, ⟨_, _, heap_setMap hlt _ _, ?_⟩, (Fr.refl _ _).setMap (by simp) _ _⟩
    · simp [Builtin.delete_, run_underlying ht, getObj, Sem.run, hr, checkKey_int hk, findKey_int hk k es.toList hes, hf, setObj, setMap]
    · simp [mdel, hf, hes]
  | some j =>
    have hj := fidx_lt m k j hf
    have hm : m[j]? = some m[j] := List.getElem?_eq_getElem hj
    refine ⟨setMap w r (es.eraseIdxIfInBounds j) c, ?_, ⟨_, _, heap_setMap hlt _ _, ?_⟩, (Fr.refl _ _).setMap (by simp) _ _⟩
    · simp [Builtin.delete_, run_underlying ht, getObj, Sem.run, hr, checkKey_int hk, findKey_int hk k es.toList hes, hf, hj, setObj, setMap]
    · have h3 : (es.eraseIdxIfInBounds j).toList = es.toList.eraseIdx j := by
        unfold Array.eraseIdxIfInBounds
        split
        · simp
        · rename_i hn; rw [List.eraseIdx_of_length_le (by simpa using hn)]
      have h4 : ∀ (l : List MapEntry) (j : Nat), (l.eraseIdx j).map kv = (l.map kv).eraseIdx j := by
        intro l
        induction l with
        | nil => intro j; simp
        | cons a l ih => intro j; cases j <;> simp [ih]
      have h5 : ∀ (l : List (Int × Value)) (j : Nat), kvs (l.eraseIdx j) = (kvs l).eraseIdx j := by
        intro l
        induction l with
        | nil => intro j; simp [kvs]
        | cons a l ih =>
          intro j
          cases j with
          | zero => simp [kvs]
          | succ j => simpa [kvs] using ih j
      rw [h3, h4, hes, ← h5]
      simp [mdel, hf]
end

section
variable {P : Program} (w : World) {ops : Array Oper} {rest : List Oper} {o : Oper} {a : Act} {Q : Exit → Act → World → Prop}
theorem wpList_mput (hg : o.guard = none) (mo x v : Operand) (t : TypeId) (hop : o.op = Op.mapUpdate t mo x v) (kt e : TypeId) (ht : P.underlying t = some (.map kt e)) (hk : P.underlying kt = some (.int .i64))
    (r : Nat) (m : List (Int × Value)) (k : Int) (val : Value) (hm : a.eval mo = .map (some r)) (hx : a.eval x = .int .i64 k) (hv : a.eval v = val) (hmap : MapI w r m)
    (hK : ∀ w', MapI w' r (mput m k val) → Fr [some r] w w' → wpList P ops Q rest (a.put o.dst undef) w') : wpList P ops Q (o :: rest) a w := by
  refine wpList_plain hg fun K' hK' => ?_
  obtain ⟨w', hrun, r1, r2⟩ := run_mapUpdate_int (P := P) hmap ht hk k val
  unfold Oper.wp
  simp [execOp, hop, hm, hx, hv, hrun, Result.andThen]
  exact hK' _ _ (hK w' r1 r2)

theorem wpList_mdel (hg : o.guard = none) (mo x : Operand) (t kt : TypeId) (hop : o.op = Op.call { callee := Callee.builtin Builtin.delete, args := #[mo, x], argTypes := #[t, kt] }) (e : TypeId) (ht : P.underlying t = some (.map kt e)) (hk : P.underlying kt = some (.int .i64))
    (r : Nat) (m : List (Int × Value)) (k : Int) (hm : a.eval mo = .map (some r)) (hx : a.eval x = .int .i64 k) (hmap : MapI w r m)
    (hK : ∀ w', MapI w' r (mdel m k) → Fr [some r] w w' → wpList P ops Q rest (a.put o.dst (.tuple #[])) w') : wpList P ops Q (o :: rest) a w := by
  refine wpList_plain hg fun K' hK' => ?_
  obtain ⟨w', hrun, r1, r2⟩ := run_delete_int (P := P) hmap ht hk k o.type
  unfold Oper.wp
  simp [execOp, hop, resolve, invoke, builtin, hm, hx, hrun, Result.andThen]
  exact hK' _ _ (hK w' r1 r2)
end
end Go.Proofs.Dm
