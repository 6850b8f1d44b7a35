import Derived.Test.YtgmnjbnlfpopgaaLib
import Derived.Laws.CopyOwn
/-!
copy into a block that is known whole; make; a row of numbers, time and again.
-/
namespace Go.Proofs.Dm
open Go.RowKit

theorem Fr.setRow {S : List (Option Nat)} {a w : World} (h : Fr S a w) {g : Nat} (hg : g < a.heap.size → some g ∈ S) (cs : Array Value) : Fr S a (w.setRow g cs) :=
  h.then (S' := [some g]) ⟨rfl, rfl, rfl, by simp [World.setRow], fun k _ hn => setRow_other w g k cs (by simpa [eq_comm] using hn)⟩ (fun i hi e => by simp at e; subst e; exact hg hi)

theorem wpList_copyB {P : Program} {w : World} {ops : Array Oper} {rest : List Oper} {o : Oper} {a : Act} {Q : Exit → Act → World → Prop} (hgd : o.guard = none) (d s : Operand) (dT sT : TypeId)
    (ho : o.op = .call { callee := .builtin .copy, args := #[d, s], argTypes := #[dT, sT] }) (elem : TypeId) (hu : P.underlying dT = some (.slice elem)) (hsz : (P.info? elem).map (·.size) = some 1)
    (g off dLen dCap : Nat) (sp : Option Addr) (sLen sCap : Nat) (hd : a.eval d = .slice (some ⟨g, off, none⟩) dLen dCap) (hs : a.eval s = .slice sp sLen sCap)
    (t : TypeId) (cur : List Value) (hB : Blk w g t cur.toArray) (cs : List Value) (m : Nat) (hm : cs.length = m) (hn : m = Nat.min sLen dLen) (hsrc : Sl w sp cs) (hfit : off + m ≤ cur.length) (h1 : ∀ v ∈ cs, v.oneCell' = true)
    (h : ∀ w', Blk w' g t (splice cur off cs).toArray → Fr [some g] w w' → wpList P ops Q rest (a.put o.dst (.int .i64 m)) w') :
    wpList P ops Q (o :: rest) a w := by
  subst hm
  by_cases h0 : cs.length = 0
  · obtain rfl : cs = [] := List.eq_nil_of_length_eq_zero h0
    refine wpList_copy_nothing hgd d s dT sT ho elem hu hsz _ _ dLen dCap sLen sCap hd hs (by simpa using hn.symm) ?_
    exact h w (by simpa [splice] using hB) (Fr.refl _ _)
  · rcases hsrc with hsrc | ⟨ad, rfl, hsrc⟩
    · subst hsrc; simp at h0
    · refine wpList_copy_own hgd d s dT sT ho elem hu hsz g off dLen dCap ad sLen sCap hd hs cur.toArray t hB cs hn hsrc (by simpa using hfit) h1 ?_
      exact h _ (show _ = _ by simpa [splice] using setRow_heap w g _ _ t _ hB) ((Fr.refl _ _).setRow (by simp) _)

theorem step_copyB {P : Program} {ops : Array Oper} {o : Oper} {a : Act} {w : World} {K : Act → World → Prop} {Q : Exit → Act → World → Prop} {E : Prop} (hgd : o.guard = none) (d s : Operand) (dT sT : TypeId)
    (ho : o.op = .call { callee := .builtin .copy, args := #[d, s], argTypes := #[dT, sT] }) (elem : TypeId) (hu : P.underlying dT = some (.slice elem)) (hsz : (P.info? elem).map (·.size) = some 1)
    (g off dLen dCap : Nat) (sp : Option Addr) (sLen sCap : Nat) (hd : a.eval d = .slice (some ⟨g, off, none⟩) dLen dCap) (hs : a.eval s = .slice sp sLen sCap)
    (t : TypeId) (cur : List Value) (hB : Blk w g t cur.toArray) (cs : List Value) (m : Nat) (hm : cs.length = m) (hn : m = Nat.min sLen dLen) (hsrc : Sl w sp cs) (hfit : off + m ≤ cur.length) (h1 : ∀ v ∈ cs, v.oneCell' = true)
    (h : ∀ w', Blk w' g t (splice cur off cs).toArray → Fr [some g] w w' → K (a.put o.dst (.int .i64 m)) w') :
    if Region.wanted o (yielded ops a.tmps) = true then Oper.wp P o a w K Q else E := by
  have hw : Region.wanted o (yielded ops a.tmps) = true := by simp [Region.wanted, hgd]
  rw [if_pos hw]
  subst hm
  by_cases h0 : cs.length = 0
  · obtain rfl : cs = [] := List.eq_nil_of_length_eq_zero h0
    have hrun := run_copy_none (P := P) w dT sT o.type elem (some ⟨g, off, none⟩) sp dLen dCap sLen sCap hu hsz (by simpa using hn.symm)
    unfold Oper.wp
    simp [execOp, ho, resolve, invoke, builtin, hd, hs, hrun, Result.andThen]
    exact h w (by simpa [splice] using hB) (Fr.refl _ _)
  · rcases hsrc with hsrc | ⟨ad, rfl, hsrc⟩
    · subst hsrc; simp at h0
    · have hrun := run_copy_row (P := P) w dT sT o.type elem g off dLen dCap ad sLen sCap cur.toArray t cs hu hsz hB hn hsrc (by simpa using hfit) h1
      unfold Oper.wp
      simp [execOp, ho, resolve, invoke, builtin, hd, hs, hrun, Result.andThen]
      exact h _ (show _ = _ by simpa [splice] using setRow_heap w g _ _ t _ hB) ((Fr.refl _ _).setRow (by simp) _)

/-- The numbers of xs, time and again: the first n. -/
def pat (xs : List Int) (n : Nat) : List Int := (List.range n).map fun i => xs.getD (i % xs.length) 0
theorem pat_len (xs : List Int) (n : Nat) : (pat xs n).length = n := by simp [pat]
theorem pat_self (xs : List Int) : pat xs xs.length = xs := by
  apply List.ext_getElem
  · simp [pat]
  · intro i h1 h2
    simp [pat, Nat.mod_eq_of_lt h2, h2]
theorem pat_add (xs : List Int) (n m k : Nat) (h : n = k * xs.length) : pat xs (n + m) = pat xs n ++ pat xs m := by
  unfold pat
  rw [List.range_add, List.map_append, List.map_map]
  congr 1
  apply List.map_congr_left
  intro i _
  simp only [Function.comp]
  rw [h, Nat.add_comm, Nat.add_mul_mod_self_right]
theorem pat_take (xs : List Int) (n m : Nat) (h : m ≤ n) : (pat xs n).take m = pat xs m := by
  unfold pat
  rw [← List.map_take]
  congr 1
  apply List.ext_getElem
  · simp; omega
  · intro i h1 h2; simp
/-- One round of the doubling. -/
theorem pat_round (xs : List Int) (n m T k : Nat) (h : n = k * xs.length) (_ : n + m ≤ T) :
    splice (ints (pat xs n ++ List.replicate (T - n) 0)) n (ints (pat xs m)) = ints (pat xs (n + m) ++ List.replicate (T - (n + m)) 0) := by
  have hl : (ints (pat xs n)).length = n := by simp [ints, pat_len]
  have hm : (ints (pat xs m)).length = m := by simp [ints, pat_len]
  unfold splice
  rw [ints_app, List.take_append_of_le_length (by omega), List.take_of_length_le (by omega), hm, List.drop_append, hl]
  rw [List.drop_eq_nil_of_le (by omega), pat_add xs n m k h]
  simp [ints, List.drop_replicate, List.map_replicate]
  omega

theorem full_blk {w : World} {e : TypeId} {sz n g : Nat} {cs : List Value} (h : w.ownsRow 0 e sz (.slice (some ⟨g, 0, none⟩) n n) n cs) : Blk w g e cs.toArray := by
  rcases h.2 with ⟨he, _⟩ | ⟨g', cap, cur, he, _, hg, _, _, hs, ht⟩
  · injection he with he; cases he
  · injection he with h1 h2 h3
    injection h1 with h1
    injection h1 with h1
    subst h1 h3
    have : cur = cs.toArray := by
      rw [← ht, List.take_of_length_le (by simp [hs])]
    rw [← this]
    exact hg

/-- 'make([]T, n)', T of one cell: a block of zeros. -/
theorem wpList_makeB {P : Program} (w : World) {ops : Array Oper} {rest : List Oper} {o : Oper} {a : Act} {Q : Exit → Act → World → Prop}
    (hg : o.guard = none) (l c : Operand) (t e : TypeId) (hop : o.op = Op.makeSlice t l c) (z : Value) (bytes : Nat) (ht : P.underlying t = some (.slice e))
    (hinfo : (P.info? e).map (fun i => (i.zero, i.size, i.bytes)) = some (some z, 1, bytes)) (hz : z.cells = #[z]) (L : Int) (n : Nat) (hl : a.eval l = .int .i64 L) (hc : a.eval c = .int .i64 L) (hL : L = (n : Int))
    (b2 : bytes * n ≤ 281474976710656) (b3 : n ≤ maxLen)
    (hK : ∀ w', Blk w' w.heap.size e (List.replicate n z).toArray → Fr [] w w' → wpList P ops Q rest (a.put o.dst (.slice (some ⟨w.heap.size, 0, none⟩) n n)) w') :
    wpList P ops Q (o :: rest) a w := by
  obtain ⟨i0, hi, hz0, hz1, hz2⟩ := info_parts hinfo
  refine wpList_make_full w hg l c t hop 0 e i0 z 1 ht hi hz0 hz1 .i64 .i64 L L n hl hc hL hL (by rw [hz2]; exact b2) b3 (Nat.zero_le _) ?_
  intro w' ho hg'
  have hb := full_blk ho
  have e1 : (madeCells z.cells (n * 1)).toList = List.replicate n z := by
    rw [hz]
    rw [toList_madeCells_one, Nat.mul_one]
  rw [e1] at hb
  exact hK w' hb ((Fr.refl _ _).grown hg' (by simp))
theorem blk_sl {w : World} {g : Nat} {t : TypeId} {cs : List Value} (h : Blk w g t cs.toArray) (m : Nat) : Sl w (some ⟨g, 0, none⟩) (cs.take m) := by
  refine .inr ⟨_, rfl, fun j u hu => ?_⟩
  have ha : (⟨g, 0, none⟩ : Addr).add j = ⟨g, j, none⟩ := by unfold Addr.add; split <;> simp_all
  rw [ha, h.cell j]
  rw [List.getElem?_take] at hu
  split at hu
  · simpa using hu
  · cases hu
theorem blk_orow {w : World} {g : Nat} {e : TypeId} {sz n : Nat} {cs : List Value} (h : Blk w g e cs.toArray) (hl : cs.length = n * sz) (hm : n ≤ maxLen) : ORow w e sz (some ⟨g, 0, none⟩) n n cs :=
  ⟨hl, .inr ⟨g, n, cs.toArray, rfl, Nat.zero_le _, h, Nat.le_refl _, hm, by simpa using hl, by simp [← hl]⟩⟩
end Go.Proofs.Dm
