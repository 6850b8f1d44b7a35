/-
  The law MergeRuns answers true for every input: the runs of any row, and rows in order as one, are as the chapter says. No condition.
-/
import Derived.Test.YtgmnjbnlfpopgaaRows
import Derived.Test.YtgmnjbnlfpopgaaQ3
import Derived.WalkKit
import Derived.ProofKit
import Derived.OpenShut
import Derived.ShutString
import Derived.ChangeOld
import Derived.Below
import Derived.Deep.Matrix
namespace Go.Proofs.Ytgmnjbnlfpopgaa.mergeRuns
open Go.ChangeShapes Go.WideShapes Go.ChangeAt Go.RowKit
open Go.ChangeMaps (open_string shut_string)
set_option linter.unusedVariables false

theorem own : ownKnob Try.prog.godebug = none := by kernel_rfl
theorem laidOut : laidOutB Try.prog = true := by kernel_rfl

/-- WHAT THE WALK IS TOLD OF A SLICE OF INTEGERS THAT CAME IN: it is nil; or it leads to a row of 'cap' cells, the numbers 'zs' (the first 'len' are its elements, the rest its spare room), each fitting its kind. -/
def IsRow (k : IntKind) (w : World) (a : Option Addr) (len cap : Nat) (zs : List Int) : Prop :=
  (a = none ∧ len = 0 ∧ cap = 0 ∧ zs = []) ∨
  ∃ x, a = some x ∧ len ≤ cap ∧ cap ≤ maxLen ∧ zs.length = cap ∧ (∀ i, i < zs.length → w.cell? (x.add i) = some (.int k (zs.getD i 0))) ∧ ∀ n ∈ zs, (Lit.int k n).wf = true

open Go.Proofs.Dm in
theorem isRow_sl {w : World} {a : Option Addr} {len cap : Nat} {zs : List Int} (h : IsRow .i64 w a len cap zs) :
    ∃ xs : List Int, len = xs.length ∧ Sl w a (ints xs) ∧ xs.length ≤ cap ∧ cap ≤ maxLen ∧ ∀ n ∈ xs, (Lit.int .i64 n).wf = true := by
  rcases h with ⟨rfl, rfl, rfl, rfl⟩ | ⟨x, rfl, h1, h2, h3, h4, h5⟩
  · exact ⟨[], rfl, .inl rfl, Nat.le_refl _, Nat.zero_le _, by simp⟩
  · have hl : (zs.take len).length = len := by simp; omega
    refine ⟨zs.take len, hl.symm, .inr ⟨x, rfl, fun j u hu => ?_⟩, by omega, h2, fun n hn => h5 n (List.mem_of_mem_take hn)⟩
    have hj : j < (zs.take len).length := by
      rcases Nat.lt_or_ge j (zs.take len).length with h | h
      · exact h
      · rw [List.getElem?_eq_none (by simpa [ints] using h)] at hu; cases hu
    rw [ints_get _ j hj] at hu
    injection hu with hu
    subst hu
    rw [h4 j (by omega)]
    simp [List.getD_eq_getElem?_getD, show j < zs.length by omega]

open Go.Proofs.Dm Go.Deep in
theorem open_rows {H : Type} {enc : TypeId × Value → H} {w : World} {base : Nat} {held : Bool} {fuel : Nat} {cs : List Value} {x : DataW H × List MemPlace} (h : DataW.trod enc Try.prog w base (fun _ => true) held fuel 23 cs = some x) :
    ∃ (B : Option Addr) (cb : Nat) (R : List Rw), cs = [.slice B R.length cb] ∧ Sl w B (R.map Rw.cell) ∧ R.length ≤ maxLen ∧ ∀ r ∈ R, Sl w r.A (ints r.xs) ∧ r.xs.length ≤ r.c ∧ r.c ≤ maxLen := by
  rcases open_int_rows Try.underlying23 Try.underlying22 Try.underlying3 (by kernel_rfl) (by kernel_rfl) h with ⟨hcs, _⟩ | ⟨a, len, cap, A, L, C, Z, hcs, _, hl, hm, _, hr⟩
  · exact ⟨none, 0, [], hcs, .inl rfl, Nat.zero_le _, by simp⟩
  · have hlen : ((List.range len).map fun r => (⟨A r, C r, (Z r).take (L r)⟩ : Rw)).length = len := by simp
    have htk : ∀ r, r < len → ((Z r).take (L r)).length = L r := fun r h => by
      obtain ⟨_, g1, _, g2, _⟩ := hr r (by omega)
      rw [List.length_take]; omega
    refine ⟨some a, cap, (List.range len).map fun r => (⟨A r, C r, (Z r).take (L r)⟩ : Rw), by rw [hlen]; exact hcs, .inr ⟨a, rfl, fun j u hu => ?_⟩, by rw [hlen]; omega, fun r hrm => ?_⟩
    · have hj : j < len := by
        rcases Nat.lt_or_ge j len with h | h
        · exact h
        · rw [List.getElem?_eq_none (by simpa using h)] at hu; cases hu
      have : ((((List.range len).map fun r => (⟨A r, C r, (Z r).take (L r)⟩ : Rw)).map Rw.cell)[j]?) = some (.slice (A j) (L j) (C j)) := by
        simp only [List.map_map, List.getElem?_map, List.getElem?_range hj, Option.map_some, Function.comp, Rw.cell]
        rw [htk j hj]
      rw [this] at hu
      injection hu with hu
      subst hu
      exact (hr j (by omega)).1
    · obtain ⟨j, hjm, rfl⟩ := List.mem_map.1 hrm
      have hj := List.mem_range.1 hjm
      obtain ⟨_, g1, g2, g3, _, g4, g5⟩ := hr j (by omega)
      refine ⟨?_, by show ((Z j).take (L j)).length ≤ C j; rw [htk j hj]; exact g1, g2⟩
      show Sl w (A j) (ints ((Z j).take (L j)))
      cases hA : A j with
      | none =>
        have h0 := g4 hA
        have : (Z j).take (L j) = [] := List.eq_nil_of_length_eq_zero (by rw [htk j hj]; omega)
        rw [this]
        exact .inl rfl
      | some a' =>
        refine .inr ⟨a', rfl, fun c u hu => ?_⟩
        have hc : c < ((Z j).take (L j)).length := by
          rcases Nat.lt_or_ge c ((Z j).take (L j)).length with h | h
          · exact h
          · rw [List.getElem?_eq_none (by rw [ints_len']; exact h)] at hu; cases hu
        rw [ints_get _ c hc] at hu
        injection hu with hu
        subst hu
        rw [htk j hj] at hc
        rw [(g5 a' hA).2 c (by omega)]
        simp [List.getD_eq_getElem?_getD, show c < (Z j).length by omega]

/-! ### THE ROW's STEP: WRITTEN OUT: -/
set_option maxRecDepth 100000 in
theorem lifted (os : Os) (started : os.Started) (H : Type) (enc : TypeId × Value → H) :
    ReturnsInHanded {} Try.checked os 3 .any (Rows.mergeRunsSpec.pre6 enc Try.prog Try.f3 Rows.mergeRunsRow.domain false) (Rows.mergeRunsSpec.post enc Try.prog Try.f3 false true false false) := by
  refine returnsInHanded_of_change (C := Try.checked) own started (by kernel_rfl) Try.func3
    (ChangeSpec.witness6 (enc := enc) (C := Try.checked) false ⟨#[], #[.slice none 0 0, .slice none 0 0], []⟩ 8 (by kernel_rfl) (by kernel_rfl) (by kernel_rfl) (by kernel_rfl)) ?_
  intro W base args ds gs before hval0 hW hcnd _
  have hval : ∀ (j : Nat) t v, Try.f3.params[j]? = some t → args[j]? = some v → Value.okWide Try.prog W .any base t v := hval0
  have hW' := hW
  obtain ⟨p, q, hA0, hV, rfl, hfz, hnd⟩ := hW
  have hA : DataW.TrodAll enc Try.prog W 0 (fun _ => true) true Try.f3.params.toList args.toList ds p := hA0
  rw [Try.params3] at hA hval
  obtain ⟨v0, vs0, d0, ds0, p0, q0, hargs, rfl, rfl, h0, r0⟩ := trodAll_cons hA
  obtain ⟨v1, vs1, d1, ds1, p1, q1, rfl, rfl, rfl, h1, r1⟩ := trodAll_cons r0
  obtain ⟨rfl, rfl, rfl⟩ := trodAll_nil r1
  obtain rfl : args = #[v0, v1] := by cases args; simp_all
  obtain ⟨rfl, rfl⟩ := trodVars_none hV
  obtain ⟨a0, len0, cap0, rfl⟩ := okWide_slice Try.underlying22 (hval 0 22 v0 rfl rfl)
  have k0 := h0
  have lt0 : ∀ x ∈ p0, x.block < W.heap.size := by obtain ⟨m, hm⟩ := k0; exact DataW.trod_lt m _ _ _ hm
  obtain ⟨z0, w0⟩ : ∃ zs, IsRow .i64 W a0 len0 cap0 zs := by
    obtain ⟨fuel, hf⟩ := h0
    rcases open_ints Try.underlying22 Try.underlying3 (by kernel_rfl) hf with ⟨hcs, _⟩ | ⟨x, l, c, zs, hcs, _, hl, hm, hz, _, hcell, hwz⟩
    · simp [Value.cells] at hcs
      obtain ⟨rfl, rfl, rfl⟩ := hcs
      exact ⟨[], .inl ⟨rfl, rfl, rfl, rfl⟩⟩
    · simp [Value.cells] at hcs
      obtain ⟨rfl, rfl, rfl⟩ := hcs
      exact ⟨zs, .inr ⟨_, rfl, hl, hm, by simpa using hz, hcell, hwz⟩⟩
  have k1 := h1
  have lt1 : ∀ x ∈ p1, x.block < W.heap.size := by obtain ⟨m, hm⟩ := k1; exact DataW.trod_lt m _ _ _ hm
  obtain ⟨a1, len1, cap1, rfl⟩ := okWide_slice Try.underlying23 (hval 1 23 v1 rfl rfl)
  obtain ⟨B, cb, R, hcs1, hB, hRm, hRr⟩ := open_rows h1.choose_spec
  simp [Value.cells] at hcs1
  obtain ⟨rfl, rfl, rfl⟩ := hcs1
  obtain ⟨xs0, rfl, hs0, hc0, hm0, _⟩ := isRow_sl w0
  clear hA0 hval0
  refine (runs_walk a0 cap0 xs0 a1 cap1 R W hs0 hc0 hm0 hB hRm hRr).mono fun e W' ⟨he, hf⟩ => ?_
  have bel := hf.below
  subst he
  exact ⟨_, rfl, _, _, _, [], _, [], hW', trodAll_mk1 (shut_bool Try.underlying4 _), (trodAll_cons_mk (Below.trod laidOut (by kernel_rfl) (of_decide_eq_true (by kernel_rfl)) k0 bel lt0) (trodAll_cons_mk (Below.trod laidOut (by kernel_rfl) (of_decide_eq_true (by kernel_rfl)) k1 bel lt1) trodAll_mk0)), rfl, bel.frame _, fun h => by cases h⟩

theorem over : Rows.mergeRunsRow.holds Try.pinned (OpenSpec.ofChange Rows.mergeRunsSpec) :=
  OpenClaim.holds_of_wide 3 Try.f3 rfl rfl rfl rfl rfl rfl rfl ⟨rfl, rfl, rfl, rfl, rfl⟩ rfl rfl rfl rfl rfl (by kernel_rfl) Try.func3 (by kernel_rfl)
    (of_decide_eq_true (by kernel_rfl)) (by unfold Func.isWrapper; first | (rw [if_pos (by decide +kernel)]; kernel_rfl) | (rw [if_neg (by decide +kernel)]; exact ⟨rfl, rfl⟩))
    (fun os started H enc _ => lifted os started H enc)

/-- ████ THE STATEMENT ████ -/
theorem proved : Rows.MergeRunsSaid := over
#print axioms proved
end Go.Proofs.Ytgmnjbnlfpopgaa.mergeRuns
