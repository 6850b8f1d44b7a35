/-
  No cell of these rows narrows 'for every input' (looked for: loops, veiled, ifaces, maps, wideKeys, modest, calm, conditions, laid).
  DERIVED. THE GIVEN ROWS OF THIS SEAT. 4 by the template 'for every input the law returns true; each argument reads behind the call as it read before'; 0 by the template 'total and deterministic' (their statements: YteohomdiklkbfaaGreatTotals.lean).
  GIVEN WITH THE SEED: the statements are not yours to turn. If you find one false, say at which input.
  Laid BY PROGRAM, IN A SANDBOX (cutbox-rows.mjs): the forced cells as the released guide's own fill.sh prints them over the translation 0a7b84f5ed7303b2… (all of the seat's roots in one cut). By AI agents, Wed Nov 11 2026. No macro, syntax, notation, axiom, sorry.
-/
import Derived.Test.YteohomdiklkbfaaGreatChecked
import GoSem.Claim
import GoSem.ClaimJoined
import GoSem.ClaimMapViews
import Derived.JoinedTies
import Derived.KernelRfl
namespace Go.Proofs.YteohomdiklkbfaaGreat
/- THE CELL 'sum', in the pinned program and in every row, IS THE sha256 OF THE DUMP (.gsa) THAT YteohomdiklkbfaaGreatProg.lean LOADS. Nothing in Lean hashes anything: it is a label: what it is worth is what the hold of that sum in a sandbox is worth. -/
noncomputable def Tryz.pinned : Pinned := { name := "yteohomdiklkbfaagreat", sum := "0a7b84f5ed7303b246ce98f9ef51a54d4390ee1cf66e6d18a366ec19c2e6c7d7", checked := Tryz.checked }
namespace Rows
def none {H : Type} : Left H := { results := [], args := [] }

/-- 'damierlaw26.MotionAreas': WHATEVER THE INPUT: true; the input reads as it did. -/
def motionAreasSpec : ChangeSpec := { name := "motionAreas", fn := fun _ => fun
  | [d1, d2, d3] => { results := [.lit (.bool true)], args := [d1, d2, d3] }
  | _ => none }
def motionAreasRow : OpenClaim := { program := "yteohomdiklkbfaagreat", sum := "0a7b84f5ed7303b246ce98f9ef51a54d4390ee1cf66e6d18a366ec19c2e6c7d7", func := "damier/damierlaw26.MotionAreas", spec := "motionAreas", unfollowed := true, recurses := true, apart := false }
def MotionAreasSaid : Prop := motionAreasRow.holds Tryz.pinned (OpenSpec.ofChange motionAreasSpec)

/-- ITS FALSE NEIGHBOUR: 'it returns false'. Refute it at one input. -/
def motionAreasWrong : ChangeSpec := { name := "motionAreas", fn := fun _ => fun
  | [d1, d2, d3] => { results := [.lit (.bool false)], args := [d1, d2, d3] }
  | _ => none }
def MotionAreasWrongFalsely : Prop := motionAreasRow.holds Tryz.pinned (OpenSpec.ofChange motionAreasWrong)

/-- 'damierlaw26.MotionBack': WHATEVER THE INPUT: true; the input reads as it did. -/
def motionBackSpec : ChangeSpec := { name := "motionBack", fn := fun _ => fun
  | [d1, d2, d3] => { results := [.lit (.bool true)], args := [d1, d2, d3] }
  | _ => none }
def motionBackRow : OpenClaim := { program := "yteohomdiklkbfaagreat", sum := "0a7b84f5ed7303b246ce98f9ef51a54d4390ee1cf66e6d18a366ec19c2e6c7d7", func := "damier/damierlaw26.MotionBack", spec := "motionBack", unfollowed := true, recurses := true, apart := false }
def MotionBackSaid : Prop := motionBackRow.holds Tryz.pinned (OpenSpec.ofChange motionBackSpec)

/-- ITS FALSE NEIGHBOUR: 'it returns false'. Refute it at one input. -/
def motionBackWrong : ChangeSpec := { name := "motionBack", fn := fun _ => fun
  | [d1, d2, d3] => { results := [.lit (.bool false)], args := [d1, d2, d3] }
  | _ => none }
def MotionBackWrongFalsely : Prop := motionBackRow.holds Tryz.pinned (OpenSpec.ofChange motionBackWrong)

/-- 'damierlaw26.MotionSettles': WHATEVER THE INPUT: true; the input reads as it did. -/
def motionSettlesSpec : ChangeSpec := { name := "motionSettles", fn := fun _ => fun
  | [d1, d2, d3] => { results := [.lit (.bool true)], args := [d1, d2, d3] }
  | _ => none }
def motionSettlesRow : OpenClaim := { program := "yteohomdiklkbfaagreat", sum := "0a7b84f5ed7303b246ce98f9ef51a54d4390ee1cf66e6d18a366ec19c2e6c7d7", func := "damier/damierlaw26.MotionSettles", spec := "motionSettles", unfollowed := true, recurses := true, apart := false }
def MotionSettlesSaid : Prop := motionSettlesRow.holds Tryz.pinned (OpenSpec.ofChange motionSettlesSpec)

/-- ITS FALSE NEIGHBOUR: 'it returns false'. Refute it at one input. -/
def motionSettlesWrong : ChangeSpec := { name := "motionSettles", fn := fun _ => fun
  | [d1, d2, d3] => { results := [.lit (.bool false)], args := [d1, d2, d3] }
  | _ => none }
def MotionSettlesWrongFalsely : Prop := motionSettlesRow.holds Tryz.pinned (OpenSpec.ofChange motionSettlesWrong)

/-- 'damierlaw27.ObjectBlock': WHATEVER THE INPUT: true; the input reads as it did. -/
def objectBlockSpec : ChangeSpec := { name := "objectBlock", fn := fun _ => fun
  | [d1, d2] => { results := [.lit (.bool true)], args := [d1, d2] }
  | _ => none }
def objectBlockRow : OpenClaim := { program := "yteohomdiklkbfaagreat", sum := "0a7b84f5ed7303b246ce98f9ef51a54d4390ee1cf66e6d18a366ec19c2e6c7d7", func := "damier/damierlaw27.ObjectBlock", spec := "objectBlock", unfollowed := true, recurses := true, apart := false }
def ObjectBlockSaid : Prop := objectBlockRow.holds Tryz.pinned (OpenSpec.ofChange objectBlockSpec)

/-- ITS FALSE NEIGHBOUR: 'it returns false'. Refute it at one input. -/
def objectBlockWrong : ChangeSpec := { name := "objectBlock", fn := fun _ => fun
  | [d1, d2] => { results := [.lit (.bool false)], args := [d1, d2] }
  | _ => none }
def ObjectBlockWrongFalsely : Prop := objectBlockRow.holds Tryz.pinned (OpenSpec.ofChange objectBlockWrong)

/- THE SECOND FORM. 'bulk': how many values and letters a reading holds, each counted each time it is reached (what is shared counts as often as it is met; a slice's spare places count too). A statement '..UptoSaid' is the law's where the arguments, and the package variables that the reading takes, are together of bulk at most 1048576: NARROWER than '..Said'. Prove '..Said' where nothing that the law and all that it calls make is longer than what came in: it says more and counts as full. Else prove '..UptoSaid'. A law counts once. -/
mutual
def uptoBulk {H : Type} : DataW H → Nat
  | .lit (.string bytes) => bytes.length + 1
  | .lit _ => 1
  | .nil => 1
  | .ptr d => uptoBulk d + 1
  | .slice elems spare => uptoBulkAll elems + uptoBulkAll spare + 1
  | .agg parts => uptoBulkAll parts + 1
  | .iface _ d => uptoBulk d + 1
  | .map entries => uptoBulkEntries entries + 1
  | .held _ => 1
def uptoBulkAll {H : Type} : List (DataW H) → Nat
  | [] => 0
  | d :: r => uptoBulk d + uptoBulkAll r
def uptoBulkEntries {H : Type} : List (Lit × DataW H) → Nat
  | [] => 0
  | x :: r => uptoBulkEntry x + uptoBulkEntries r
def uptoBulkEntry {H : Type} : Lit × DataW H → Nat
  | (.string bytes, d) => bytes.length + uptoBulk d + 1
  | (_, d) => uptoBulk d + 1
 end
def uptoSmall : (H : Type) → List (DataW H) → Bool := fun _ ds => decide (uptoBulkAll ds ≤ 1048576)
def OpenSpec.upto (s : _root_.Go.ChangeSpec) : _root_.Go.OpenSpec := { _root_.Go.OpenSpec.ofChange s with cond := some uptoSmall }

/-- 'damierlaw26.MotionAreas', WHERE WHAT IT READS IS OF BULK AT MOST 1048576: true; the input reads as it did. -/
def motionAreasUptoRow : OpenClaim := { program := "yteohomdiklkbfaagreat", sum := "0a7b84f5ed7303b246ce98f9ef51a54d4390ee1cf66e6d18a366ec19c2e6c7d7", func := "damier/damierlaw26.MotionAreas", spec := "motionAreas", unfollowed := true, recurses := true, apart := false, narrowed := true }
def MotionAreasUptoSaid : Prop := motionAreasUptoRow.holds Tryz.pinned (OpenSpec.upto motionAreasSpec)

/-- 'damierlaw26.MotionBack', WHERE WHAT IT READS IS OF BULK AT MOST 1048576: true; the input reads as it did. -/
def motionBackUptoRow : OpenClaim := { program := "yteohomdiklkbfaagreat", sum := "0a7b84f5ed7303b246ce98f9ef51a54d4390ee1cf66e6d18a366ec19c2e6c7d7", func := "damier/damierlaw26.MotionBack", spec := "motionBack", unfollowed := true, recurses := true, apart := false, narrowed := true }
def MotionBackUptoSaid : Prop := motionBackUptoRow.holds Tryz.pinned (OpenSpec.upto motionBackSpec)

/-- 'damierlaw26.MotionSettles', WHERE WHAT IT READS IS OF BULK AT MOST 1048576: true; the input reads as it did. -/
def motionSettlesUptoRow : OpenClaim := { program := "yteohomdiklkbfaagreat", sum := "0a7b84f5ed7303b246ce98f9ef51a54d4390ee1cf66e6d18a366ec19c2e6c7d7", func := "damier/damierlaw26.MotionSettles", spec := "motionSettles", unfollowed := true, recurses := true, apart := false, narrowed := true }
def MotionSettlesUptoSaid : Prop := motionSettlesUptoRow.holds Tryz.pinned (OpenSpec.upto motionSettlesSpec)

/-- 'damierlaw27.ObjectBlock', WHERE WHAT IT READS IS OF BULK AT MOST 1048576: true; the input reads as it did. -/
def objectBlockUptoRow : OpenClaim := { program := "yteohomdiklkbfaagreat", sum := "0a7b84f5ed7303b246ce98f9ef51a54d4390ee1cf66e6d18a366ec19c2e6c7d7", func := "damier/damierlaw27.ObjectBlock", spec := "objectBlock", unfollowed := true, recurses := true, apart := false, narrowed := true }
def ObjectBlockUptoSaid : Prop := objectBlockUptoRow.holds Tryz.pinned (OpenSpec.upto objectBlockSpec)

end Rows
end Go.Proofs.YteohomdiklkbfaaGreat
