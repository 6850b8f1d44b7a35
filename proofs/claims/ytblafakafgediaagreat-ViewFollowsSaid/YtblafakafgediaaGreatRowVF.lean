/-
  The law ViewFollows answers true for every input: the view in which any place is seen, and so many rows on, or back, is as the chapter says. No condition.
-/
import Derived.Test.YtblafakafgediaaGreatRows
import Derived.Test.YtblafakafgediaaGreatF52
import Derived.WalkKit
import Derived.ProofKit
import Derived.OpenShut
import Derived.ShutString
import Derived.ChangeOld
import Derived.ChangeSame
import Derived.Below
import Derived.Deep.Slices
import Derived.Deep.Fields
import Derived.Lib.SmallJoins
namespace Go.Proofs.YtblafakafgediaaGreat.viewFollows
open Go.ChangeShapes Go.WideShapes Go.ChangeAt Go.RowKit
open Go.Joins Go.Deep
open Go.ChangeMaps (open_string shut_string)
set_option linter.unusedVariables false

theorem own : ownKnob Tryz.prog.godebug = none := by kernel_rfl
theorem laidOut : laidOutB Tryz.prog = true := by kernel_rfl

set_option maxRecDepth 100000 in
theorem open_look {H : Type} {enc : TypeId × Value → H} {w : World} {base : Nat} {held : Bool} {fuel : Nat} {cs : List Value} {x : DataW H × List MemPlace} (h : DataW.trod enc Tryz.prog w base (fun _ => true) held fuel 28 cs = some x) :
    ∃ a b c d e f g : Int, cs = [.int .i64 a, .int .i64 b, .int .i64 c, .int .i64 d, .int .i64 e, .int .i64 f, .int .i64 g] := by
  have k28 : Tryz.prog.cellsOf 28 = 7 := by kernel_rfl
  have k24 : Tryz.prog.cellsOf 24 = 4 := by kernel_rfl
  have k26 : Tryz.prog.cellsOf 26 = 2 := by kernel_rfl
  have k3 : Tryz.prog.cellsOf 3 = 1 := by kernel_rfl
  obtain ⟨xs, n, _, _, hl, hlen, hg⟩ := DataW.trod_struct Tryz.underlying28 h
  rw [k28] at hl
  match cs, hl with
  | [c0, c1, c2, c3, c4, c5, c6], _ =>
    match xs, hlen with
    | [y0, y1, y2], _ =>
      have g0 : DataW.trod enc Tryz.prog w base (fun _ => true) held n 24 (List.take (Tryz.prog.cellsOf 24) (List.drop 0 [c0, c1, c2, c3, c4, c5, c6])) = some y0 := hg 0 _ rfl
      have g1 : DataW.trod enc Tryz.prog w base (fun _ => true) held n 26 (List.take (Tryz.prog.cellsOf 26) (List.drop 4 [c0, c1, c2, c3, c4, c5, c6])) = some y1 := hg 1 _ rfl
      have g2 : DataW.trod enc Tryz.prog w base (fun _ => true) held n 3 (List.take (Tryz.prog.cellsOf 3) (List.drop 6 [c0, c1, c2, c3, c4, c5, c6])) = some y2 := hg 2 _ rfl
      rw [k24] at g0
      rw [k26] at g1
      rw [k3] at g2
      replace g0 : DataW.trod enc Tryz.prog w base (fun _ => true) held n 24 [c0, c1, c2, c3] = some y0 := g0
      replace g1 : DataW.trod enc Tryz.prog w base (fun _ => true) held n 26 [c4, c5] = some y1 := g1
      replace g2 : DataW.trod enc Tryz.prog w base (fun _ => true) held n 3 [c6] = some y2 := g2
      obtain ⟨us, m, _, _, _, hu, hh⟩ := DataW.trod_struct Tryz.underlying24 g0
      obtain ⟨vs, l, _, _, _, hv, hi⟩ := DataW.trod_struct Tryz.underlying26 g1
      match us, hu with
      | [u0, u1, u2, u3], _ =>
        match vs, hv with
        | [z0, z1], _ =>
          have a0 : DataW.trod enc Tryz.prog w base (fun _ => true) held m 3 (List.take (Tryz.prog.cellsOf 3) (List.drop 0 [c0, c1, c2, c3])) = some u0 := hh 0 _ rfl
          have a1 : DataW.trod enc Tryz.prog w base (fun _ => true) held m 3 (List.take (Tryz.prog.cellsOf 3) (List.drop 1 [c0, c1, c2, c3])) = some u1 := hh 1 _ rfl
          have a2 : DataW.trod enc Tryz.prog w base (fun _ => true) held m 3 (List.take (Tryz.prog.cellsOf 3) (List.drop 2 [c0, c1, c2, c3])) = some u2 := hh 2 _ rfl
          have a3 : DataW.trod enc Tryz.prog w base (fun _ => true) held m 3 (List.take (Tryz.prog.cellsOf 3) (List.drop 3 [c0, c1, c2, c3])) = some u3 := hh 3 _ rfl
          have b0 : DataW.trod enc Tryz.prog w base (fun _ => true) held l 3 (List.take (Tryz.prog.cellsOf 3) (List.drop 0 [c4, c5])) = some z0 := hi 0 _ rfl
          have b1 : DataW.trod enc Tryz.prog w base (fun _ => true) held l 3 (List.take (Tryz.prog.cellsOf 3) (List.drop 1 [c4, c5])) = some z1 := hi 1 _ rfl
          rw [k3] at a0 a1 a2 a3 b0 b1
          replace a0 : DataW.trod enc Tryz.prog w base (fun _ => true) held m 3 [c0] = some u0 := a0
          replace a1 : DataW.trod enc Tryz.prog w base (fun _ => true) held m 3 [c1] = some u1 := a1
          replace a2 : DataW.trod enc Tryz.prog w base (fun _ => true) held m 3 [c2] = some u2 := a2
          replace a3 : DataW.trod enc Tryz.prog w base (fun _ => true) held m 3 [c3] = some u3 := a3
          replace b0 : DataW.trod enc Tryz.prog w base (fun _ => true) held l 3 [c4] = some z0 := b0
          replace b1 : DataW.trod enc Tryz.prog w base (fun _ => true) held l 3 [c5] = some z1 := b1
          obtain ⟨i0, e0, _, _⟩ := DataW.trod_int Tryz.underlying3 a0
          obtain ⟨i1, e1, _, _⟩ := DataW.trod_int Tryz.underlying3 a1
          obtain ⟨i2, e2, _, _⟩ := DataW.trod_int Tryz.underlying3 a2
          obtain ⟨i3, e3, _, _⟩ := DataW.trod_int Tryz.underlying3 a3
          obtain ⟨i4, e4, _, _⟩ := DataW.trod_int Tryz.underlying3 b0
          obtain ⟨i5, e5, _, _⟩ := DataW.trod_int Tryz.underlying3 b1
          obtain ⟨i6, e6, _, _⟩ := DataW.trod_int Tryz.underlying3 g2
          simp only [List.cons.injEq, and_true] at e0 e1 e2 e3 e4 e5 e6
          subst e0 e1 e2 e3 e4 e5 e6
          exact ⟨i0, i1, i2, i3, i4, i5, i6, rfl⟩

set_option maxRecDepth 100000 in
theorem lifted (os : Os) (started : os.Started) (H : Type) (enc : TypeId × Value → H) :
    ReturnsInHanded {} Tryz.checked os 7 .any (Rows.viewFollowsSpec.pre6 enc Tryz.prog Tryz.f7 Rows.viewFollowsRow.domain false) (Rows.viewFollowsSpec.post enc Tryz.prog Tryz.f7 false true false false) := by
  refine returnsInHanded_of_change (C := Tryz.checked) own started (by kernel_rfl) Tryz.func7
    (ChangeSpec.witness6 (enc := enc) (C := Tryz.checked) false ⟨#[], #[.string ByteArray.empty, .int .u64 0, .agg #[.int .i64 0, .int .i64 0, .int .i64 0, .int .i64 0, .int .i64 0, .int .i64 0, .int .i64 0]], []⟩ 8 (by kernel_rfl) (by kernel_rfl) (by kernel_rfl) (by kernel_rfl)) ?_
  intro W base args ds gs before hval0 hW hcnd _
  have hval : ∀ (j : Nat) t v, Tryz.f7.params[j]? = some t → args[j]? = some v → Value.okWide Tryz.prog W .any base t v := hval0
  have hW' := hW
  obtain ⟨p, q, hA0, hV, rfl, hfz, hnd⟩ := hW
  have hA : DataW.TrodAll enc Tryz.prog W 0 (fun _ => true) true Tryz.f7.params.toList args.toList ds p := hA0
  rw [Tryz.params7] at hA hval
  obtain ⟨v0, vs0, d0, ds0, p0, q0, hargs, rfl, rfl, h0, r0⟩ := trodAll_cons hA
  obtain ⟨v1, vs1, d1, ds1, p1, q1, rfl, rfl, rfl, h1, r1⟩ := trodAll_cons r0
  obtain ⟨v2, vs2, d2, ds2, p2, q2, rfl, rfl, rfl, h2, r2⟩ := trodAll_cons r1
  obtain ⟨rfl, rfl, rfl⟩ := trodAll_nil r2
  obtain rfl : args = #[v0, v1, v2] := by cases args; simp_all
  obtain ⟨rfl, rfl⟩ := trodVars_none hV
  obtain ⟨a0, rfl, rfl, rfl, w0⟩ := open_string Tryz.underlying9 (hval 0 9 v0 rfl rfl) h0
  obtain ⟨a1, rfl, rfl, rfl, w1⟩ := open_int Tryz.underlying22 (hval 1 22 v1 rfl rfl) h1
  have k2 := h2
  have lt2 : ∀ x ∈ p2, x.block < W.heap.size := by obtain ⟨m, hm⟩ := k2; exact DataW.trod_lt m _ _ _ hm
  obtain ⟨cs, rfl, _⟩ := okWide_struct Tryz.underlying28 (hval 2 28 v2 rfl rfl)
  obtain ⟨fuel, hf⟩ := h2
  obtain ⟨a, b, c, d, e, f, g, hcs⟩ := open_look hf
  obtain rfl : cs = #[.int .i64 a, .int .i64 b, .int .i64 c, .int .i64 d, .int .i64 e, .int .i64 f, .int .i64 g] := by
    obtain ⟨l⟩ := cs
    simpa [Value.cells] using hcs
  have hs : (⟨a0.data.toList.toArray⟩ : ByteArray) = a0 := by cases a0; simp
  have hw := viewFollows_any W a0.data.toList a1 a b c d e f g
  rw [hs] at hw
  clear hA0 hval0
  refine hw.mono fun x W' ⟨he, hf⟩ => ?_
  have bel : Below W.heap.size W W' := ⟨hf.os, hf.tape, hf.output, hf.size, fun k hk => hf.block k hk (by simp)⟩
  subst he
  exact ⟨_, rfl, _, _, _, [], _, [], hW', trodAll_mk1 (shut_bool Tryz.underlying4 _), (trodAll_cons_mk (shut_string Tryz.underlying9 w0) (trodAll_cons_mk (shut_int Tryz.underlying22 w1) (trodAll_cons_mk (Below.trod laidOut (by kernel_rfl) (of_decide_eq_true (by kernel_rfl)) k2 bel lt2) trodAll_mk0))), rfl, bel.frame _, fun h => by cases h⟩

theorem over : Rows.viewFollowsRow.holds Tryz.pinned (OpenSpec.ofChange Rows.viewFollowsSpec) :=
  OpenClaim.holds_of_wide 7 Tryz.f7 rfl rfl rfl rfl rfl rfl rfl ⟨rfl, rfl, rfl, rfl, rfl⟩ rfl rfl rfl rfl rfl (by kernel_rfl) Tryz.func7 (by kernel_rfl)
    (of_decide_eq_true (by kernel_rfl)) (by unfold Func.isWrapper; first | (rw [if_pos (by decide +kernel)]; kernel_rfl) | (rw [if_neg (by decide +kernel)]; exact ⟨rfl, rfl⟩))
    (fun os started H enc _ => lifted os started H enc)

/-- ████ THE STATEMENT ████ -/
theorem proved : Rows.ViewFollowsSaid := over
#print axioms proved
end Go.Proofs.YtblafakafgediaaGreat.viewFollows
