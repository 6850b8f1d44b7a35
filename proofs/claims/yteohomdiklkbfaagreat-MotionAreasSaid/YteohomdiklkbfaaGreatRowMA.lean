/-
  The law MotionAreas answers true for every input: what lies between any two places, by any motion, is as the chapter says. No condition.
-/
import Derived.Test.YteohomdiklkbfaaGreatRows
import Derived.Test.YteohomdiklkbfaaGreatA52
import Derived.WalkKit
import Derived.ProofKit
import Derived.OpenShut
import Derived.ShutString
import Derived.ChangeOld
import Derived.ChangeSame
import Derived.Below
import Derived.Deep.Slices
import Derived.Deep.Fields
import Derived.Lib.SmallJoins
namespace Go.Proofs.YteohomdiklkbfaaGreat.motionAreas
open Go.ChangeShapes Go.WideShapes Go.ChangeAt Go.RowKit
open Go.Joins Go.Deep
open Go.ChangeMaps (open_string shut_string)
set_option linter.unusedVariables false

theorem own : ownKnob Tryz.prog.godebug = none := by kernel_rfl
theorem laidOut : laidOutB Tryz.prog = true := by kernel_rfl

set_option maxRecDepth 100000 in
theorem open_26 {H : Type} {enc : TypeId × Value → H} {w : World} {base : Nat} {held : Bool} {fuel : Nat} {cs : List Value} {x : DataW H × List MemPlace} (h : DataW.trod enc Tryz.prog w base (fun _ => true) held fuel 26 cs = some x) :
    ∃ v0 v1 v2 v3 v4 : Int, cs = [.int .i64 v0, .int .i64 v1, .int .i64 v2, .int .i64 v3, .int .i64 v4] := by
  have k26 : Tryz.prog.cellsOf 26 = 5 := by kernel_rfl
  have k24 : Tryz.prog.cellsOf 24 = 2 := by kernel_rfl
  have k3 : Tryz.prog.cellsOf 3 = 1 := by kernel_rfl
  obtain ⟨xs1, n1, _, _, hl1, hlen1, hg1⟩ := DataW.trod_struct Tryz.underlying26 h
  rw [k26] at hl1
  match cs, hl1 with
  | [c0, c1, c2, c3, c4], _ =>
    match xs1, hlen1 with
    | [y1_0, y1_1, y1_2], _ =>
      have g1_0 : DataW.trod enc Tryz.prog w base (fun _ => true) held n1 24 (List.take (Tryz.prog.cellsOf 24) (List.drop 0 [c0, c1, c2, c3, c4])) = some y1_0 := hg1 0 _ rfl
      rw [k24] at g1_0
      replace g1_0 : DataW.trod enc Tryz.prog w base (fun _ => true) held n1 24 [c0, c1] = some y1_0 := g1_0
      have g1_1 : DataW.trod enc Tryz.prog w base (fun _ => true) held n1 24 (List.take (Tryz.prog.cellsOf 24) (List.drop 2 [c0, c1, c2, c3, c4])) = some y1_1 := hg1 1 _ rfl
      rw [k24] at g1_1
      replace g1_1 : DataW.trod enc Tryz.prog w base (fun _ => true) held n1 24 [c2, c3] = some y1_1 := g1_1
      have g1_2 : DataW.trod enc Tryz.prog w base (fun _ => true) held n1 3 (List.take (Tryz.prog.cellsOf 3) (List.drop 4 [c0, c1, c2, c3, c4])) = some y1_2 := hg1 2 _ rfl
      rw [k3] at g1_2
      replace g1_2 : DataW.trod enc Tryz.prog w base (fun _ => true) held n1 3 [c4] = some y1_2 := g1_2
      obtain ⟨xs2, n2, _, _, hl2, hlen2, hg2⟩ := DataW.trod_struct Tryz.underlying24 g1_0
      match xs2, hlen2 with
      | [y2_0, y2_1], _ =>
        have g2_0 : DataW.trod enc Tryz.prog w base (fun _ => true) held n2 3 (List.take (Tryz.prog.cellsOf 3) (List.drop 0 [c0, c1])) = some y2_0 := hg2 0 _ rfl
        rw [k3] at g2_0
        replace g2_0 : DataW.trod enc Tryz.prog w base (fun _ => true) held n2 3 [c0] = some y2_0 := g2_0
        have g2_1 : DataW.trod enc Tryz.prog w base (fun _ => true) held n2 3 (List.take (Tryz.prog.cellsOf 3) (List.drop 1 [c0, c1])) = some y2_1 := hg2 1 _ rfl
        rw [k3] at g2_1
        replace g2_1 : DataW.trod enc Tryz.prog w base (fun _ => true) held n2 3 [c1] = some y2_1 := g2_1
        obtain ⟨i0, e0, _, _⟩ := DataW.trod_int Tryz.underlying3 g2_0
        obtain ⟨i1, e1, _, _⟩ := DataW.trod_int Tryz.underlying3 g2_1
        obtain ⟨xs3, n3, _, _, hl3, hlen3, hg3⟩ := DataW.trod_struct Tryz.underlying24 g1_1
        match xs3, hlen3 with
        | [y3_0, y3_1], _ =>
          have g3_0 : DataW.trod enc Tryz.prog w base (fun _ => true) held n3 3 (List.take (Tryz.prog.cellsOf 3) (List.drop 0 [c2, c3])) = some y3_0 := hg3 0 _ rfl
          rw [k3] at g3_0
          replace g3_0 : DataW.trod enc Tryz.prog w base (fun _ => true) held n3 3 [c2] = some y3_0 := g3_0
          have g3_1 : DataW.trod enc Tryz.prog w base (fun _ => true) held n3 3 (List.take (Tryz.prog.cellsOf 3) (List.drop 1 [c2, c3])) = some y3_1 := hg3 1 _ rfl
          rw [k3] at g3_1
          replace g3_1 : DataW.trod enc Tryz.prog w base (fun _ => true) held n3 3 [c3] = some y3_1 := g3_1
          obtain ⟨i2, e2, _, _⟩ := DataW.trod_int Tryz.underlying3 g3_0
          obtain ⟨i3, e3, _, _⟩ := DataW.trod_int Tryz.underlying3 g3_1
          obtain ⟨i4, e4, _, _⟩ := DataW.trod_int Tryz.underlying3 g1_2
          simp only [List.cons.injEq, and_true] at e0 e1 e2 e3 e4
          subst e0 e1 e2 e3 e4
          exact ⟨i0, i1, i2, i3, i4, rfl⟩

set_option maxRecDepth 100000 in
theorem lifted (os : Os) (started : os.Started) (H : Type) (enc : TypeId × Value → H) :
    ReturnsInHanded {} Tryz.checked os 3 .any (Rows.motionAreasSpec.pre6 enc Tryz.prog Tryz.f3 Rows.motionAreasRow.domain false) (Rows.motionAreasSpec.post enc Tryz.prog Tryz.f3 false true false false) := by
  refine returnsInHanded_of_change (C := Tryz.checked) own started (by kernel_rfl) Tryz.func3
    (ChangeSpec.witness6 (enc := enc) (C := Tryz.checked) false ⟨#[], #[.string ByteArray.empty, .int .u64 0, .agg #[.int .i64 0, .int .i64 0, .int .i64 0, .int .i64 0, .int .i64 0]], []⟩ 8 (by kernel_rfl) (by kernel_rfl) (by kernel_rfl) (by kernel_rfl)) ?_
  intro W base args ds gs before hval0 hW hcnd _
  have hval : ∀ (j : Nat) t v, Tryz.f3.params[j]? = some t → args[j]? = some v → Value.okWide Tryz.prog W .any base t v := hval0
  have hW' := hW
  obtain ⟨p, q, hA0, hV, rfl, hfz, hnd⟩ := hW
  have hA : DataW.TrodAll enc Tryz.prog W 0 (fun _ => true) true Tryz.f3.params.toList args.toList ds p := hA0
  rw [Tryz.params3] at hA hval
  obtain ⟨v0, vs0, d0, ds0, p0, q0, hargs, rfl, rfl, h0, r0⟩ := trodAll_cons hA
  obtain ⟨v1, vs1, d1, ds1, p1, q1, rfl, rfl, rfl, h1, r1⟩ := trodAll_cons r0
  obtain ⟨v2, vs2, d2, ds2, p2, q2, rfl, rfl, rfl, h2, r2⟩ := trodAll_cons r1
  obtain ⟨rfl, rfl, rfl⟩ := trodAll_nil r2
  obtain rfl : args = #[v0, v1, v2] := by cases args; simp_all
  obtain ⟨rfl, rfl⟩ := trodVars_none hV
  obtain ⟨a0, rfl, rfl, rfl, w0⟩ := open_string Tryz.underlying9 (hval 0 9 v0 rfl rfl) h0
  obtain ⟨a1, rfl, rfl, rfl, w1⟩ := open_int Tryz.underlying22 (hval 1 22 v1 rfl rfl) h1
  have k2 := h2
  have lt2 : ∀ x ∈ p2, x.block < W.heap.size := by obtain ⟨m, hm⟩ := k2; exact DataW.trod_lt m _ _ _ hm
  obtain ⟨cs2, rfl, _⟩ := okWide_struct Tryz.underlying26 (hval 2 26 v2 rfl rfl)
  obtain ⟨fuel2, hf2⟩ := h2
  obtain ⟨s2_0, s2_1, s2_2, s2_3, s2_4, hcs2⟩ := open_26 hf2
  obtain rfl : cs2 = #[.int .i64 s2_0, .int .i64 s2_1, .int .i64 s2_2, .int .i64 s2_3, .int .i64 s2_4] := by
    obtain ⟨l⟩ := cs2
    simpa [Value.cells] using hcs2
  have hs_a0 : (⟨a0.data.toList.toArray⟩ : ByteArray) = a0 := by cases a0; simp
  have hw := motionAreas_any W a0.data.toList a1 s2_0 s2_1 s2_2 s2_3 s2_4
  rw [hs_a0] at hw
  clear hA0 hval0
  refine hw.mono fun x W' ⟨he, hf⟩ => ?_
  have bel : Below W.heap.size W W' := ⟨hf.os, hf.tape, hf.output, hf.size, fun k hk => hf.block k hk (by simp)⟩
  subst he
  exact ⟨_, rfl, _, _, _, [], _, [], hW', trodAll_mk1 (shut_bool Tryz.underlying4 _), (trodAll_cons_mk (shut_string Tryz.underlying9 w0) (trodAll_cons_mk (shut_int Tryz.underlying22 w1) (trodAll_cons_mk (Below.trod laidOut (by kernel_rfl) (of_decide_eq_true (by kernel_rfl)) k2 bel lt2) trodAll_mk0))), rfl, bel.frame _, fun h => by cases h⟩

theorem over : Rows.motionAreasRow.holds Tryz.pinned (OpenSpec.ofChange Rows.motionAreasSpec) :=
  OpenClaim.holds_of_wide 3 Tryz.f3 rfl rfl rfl rfl rfl rfl rfl ⟨rfl, rfl, rfl, rfl, rfl⟩ rfl rfl rfl rfl rfl (by kernel_rfl) Tryz.func3 (by kernel_rfl)
    (of_decide_eq_true (by kernel_rfl)) (by unfold Func.isWrapper; first | (rw [if_pos (by decide +kernel)]; kernel_rfl) | (rw [if_neg (by decide +kernel)]; exact ⟨rfl, rfl⟩))
    (fun os started H enc _ => lifted os started H enc)

/-- ████ THE STATEMENT ████ -/
theorem proved : Rows.MotionAreasSaid := over
#print axioms proved
end Go.Proofs.YteohomdiklkbfaaGreat.motionAreas
