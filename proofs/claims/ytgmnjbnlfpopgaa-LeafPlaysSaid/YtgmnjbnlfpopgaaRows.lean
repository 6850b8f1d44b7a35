/-
  No cell of these rows narrows 'for every input' (looked for: loops, veiled, ifaces, maps, wideKeys, modest, calm, conditions, laid).
  DERIVED. THE GIVEN ROWS OF THIS SEAT. 7 by the template 'for every input the law returns true; each argument reads behind the call as it read before'; 0 by the template 'total and deterministic' (their statements: YtgmnjbnlfpopgaaTotals.lean).
  GIVEN WITH THE SEED: the statements are not yours to turn. If you find one false, say at which input.
  Laid BY PROGRAM, IN A SANDBOX (cutbox-rows.mjs): the forced cells as the released guide's own fill.sh prints them over the translation 12e2c63f10fbf86e… (all of the seat's roots in one cut). By AI agents, Wed Nov 11 2026. No macro, syntax, notation, axiom, sorry.
-/
import Derived.Test.YtgmnjbnlfpopgaaChecked
import GoSem.Claim
import GoSem.ClaimJoined
import GoSem.ClaimMapViews
import Derived.JoinedTies
import Derived.KernelRfl
namespace Go.Proofs.Ytgmnjbnlfpopgaa
/- THE CELL 'sum', in the pinned program and in every row, IS THE sha256 OF THE DUMP (.gsa) THAT YtgmnjbnlfpopgaaProg.lean LOADS. Nothing in Lean hashes anything: it is a label: what it is worth is what the hold of that sum in a sandbox is worth. -/
noncomputable def Try.pinned : Pinned := { name := "ytgmnjbnlfpopgaa", sum := "12e2c63f10fbf86e5a0f5148529c63762f50e33359fda815d2d0ab5df4c4d071", checked := Try.checked }
namespace Rows
def none {H : Type} : Left H := { results := [], args := [] }

/-- 'damierlaw15.MergeRuns': WHATEVER THE INPUT: true; the input reads as it did. -/
def mergeRunsSpec : ChangeSpec := { name := "mergeRuns", fn := fun _ => fun
  | [d1, d2] => { results := [.lit (.bool true)], args := [d1, d2] }
  | _ => none }
def mergeRunsRow : OpenClaim := { program := "ytgmnjbnlfpopgaa", sum := "12e2c63f10fbf86e5a0f5148529c63762f50e33359fda815d2d0ab5df4c4d071", func := "damier/damierlaw15.MergeRuns", spec := "mergeRuns", unfollowed := true, recurses := true, apart := false }
def MergeRunsSaid : Prop := mergeRunsRow.holds Try.pinned (OpenSpec.ofChange mergeRunsSpec)

/-- ITS FALSE NEIGHBOUR: 'it returns false'. Refute it at one input. -/
def mergeRunsWrong : ChangeSpec := { name := "mergeRuns", fn := fun _ => fun
  | [d1, d2] => { results := [.lit (.bool false)], args := [d1, d2] }
  | _ => none }
def MergeRunsWrongFalsely : Prop := mergeRunsRow.holds Try.pinned (OpenSpec.ofChange mergeRunsWrong)

/-- 'damierlaw15.MergeTurns': WHATEVER THE INPUT: true; the input reads as it did. -/
def mergeTurnsSpec : ChangeSpec := { name := "mergeTurns", fn := fun _ => fun
  | [d] => { results := [.lit (.bool true)], args := [d] }
  | _ => none }
def mergeTurnsRow : OpenClaim := { program := "ytgmnjbnlfpopgaa", sum := "12e2c63f10fbf86e5a0f5148529c63762f50e33359fda815d2d0ab5df4c4d071", func := "damier/damierlaw15.MergeTurns", spec := "mergeTurns", unfollowed := true, recurses := true, apart := false }
def MergeTurnsSaid : Prop := mergeTurnsRow.holds Try.pinned (OpenSpec.ofChange mergeTurnsSpec)

/-- ITS FALSE NEIGHBOUR: 'it returns false'. Refute it at one input. -/
def mergeTurnsWrong : ChangeSpec := { name := "mergeTurns", fn := fun _ => fun
  | [d] => { results := [.lit (.bool false)], args := [d] }
  | _ => none }
def MergeTurnsWrongFalsely : Prop := mergeTurnsRow.holds Try.pinned (OpenSpec.ofChange mergeTurnsWrong)

/-- 'damierlaw15.MergeOnly': WHATEVER THE INPUT: true; the input reads as it did. -/
def mergeOnlySpec : ChangeSpec := { name := "mergeOnly", fn := fun _ => fun
  | [d] => { results := [.lit (.bool true)], args := [d] }
  | _ => none }
def mergeOnlyRow : OpenClaim := { program := "ytgmnjbnlfpopgaa", sum := "12e2c63f10fbf86e5a0f5148529c63762f50e33359fda815d2d0ab5df4c4d071", func := "damier/damierlaw15.MergeOnly", spec := "mergeOnly", unfollowed := true, recurses := true, apart := false }
def MergeOnlySaid : Prop := mergeOnlyRow.holds Try.pinned (OpenSpec.ofChange mergeOnlySpec)

/-- ITS FALSE NEIGHBOUR: 'it returns false'. Refute it at one input. -/
def mergeOnlyWrong : ChangeSpec := { name := "mergeOnly", fn := fun _ => fun
  | [d] => { results := [.lit (.bool false)], args := [d] }
  | _ => none }
def MergeOnlyWrongFalsely : Prop := mergeOnlyRow.holds Try.pinned (OpenSpec.ofChange mergeOnlyWrong)

/-- 'damierlaw15.MergeSorts': WHATEVER THE INPUT: true; the input reads as it did. -/
def mergeSortsSpec : ChangeSpec := { name := "mergeSorts", fn := fun _ => fun
  | [d1, d2] => { results := [.lit (.bool true)], args := [d1, d2] }
  | _ => none }
def mergeSortsRow : OpenClaim := { program := "ytgmnjbnlfpopgaa", sum := "12e2c63f10fbf86e5a0f5148529c63762f50e33359fda815d2d0ab5df4c4d071", func := "damier/damierlaw15.MergeSorts", spec := "mergeSorts", unfollowed := true, recurses := true, apart := false }
def MergeSortsSaid : Prop := mergeSortsRow.holds Try.pinned (OpenSpec.ofChange mergeSortsSpec)

/-- ITS FALSE NEIGHBOUR: 'it returns false'. Refute it at one input. -/
def mergeSortsWrong : ChangeSpec := { name := "mergeSorts", fn := fun _ => fun
  | [d1, d2] => { results := [.lit (.bool false)], args := [d1, d2] }
  | _ => none }
def MergeSortsWrongFalsely : Prop := mergeSortsRow.holds Try.pinned (OpenSpec.ofChange mergeSortsWrong)

/-- 'damierlaw20.LeafRises': WHATEVER THE INPUT: true; the input reads as it did. -/
def leafRisesSpec : ChangeSpec := { name := "leafRises", fn := fun _ => fun
  | [d] => { results := [.lit (.bool true)], args := [d] }
  | _ => none }
def leafRisesRow : OpenClaim := { program := "ytgmnjbnlfpopgaa", sum := "12e2c63f10fbf86e5a0f5148529c63762f50e33359fda815d2d0ab5df4c4d071", func := "damier/damierlaw20.LeafRises", spec := "leafRises", unfollowed := true, recurses := true, apart := false }
def LeafRisesSaid : Prop := leafRisesRow.holds Try.pinned (OpenSpec.ofChange leafRisesSpec)

/-- ITS FALSE NEIGHBOUR: 'it returns false'. Refute it at one input. -/
def leafRisesWrong : ChangeSpec := { name := "leafRises", fn := fun _ => fun
  | [d] => { results := [.lit (.bool false)], args := [d] }
  | _ => none }
def LeafRisesWrongFalsely : Prop := leafRisesRow.holds Try.pinned (OpenSpec.ofChange leafRisesWrong)

/-- 'damierlaw20.LeafPlays': WHATEVER THE INPUT: true; the input reads as it did. -/
def leafPlaysSpec : ChangeSpec := { name := "leafPlays", fn := fun _ => fun
  | [d1, d2] => { results := [.lit (.bool true)], args := [d1, d2] }
  | _ => none }
def leafPlaysRow : OpenClaim := { program := "ytgmnjbnlfpopgaa", sum := "12e2c63f10fbf86e5a0f5148529c63762f50e33359fda815d2d0ab5df4c4d071", func := "damier/damierlaw20.LeafPlays", spec := "leafPlays", unfollowed := true, recurses := true, apart := false }
def LeafPlaysSaid : Prop := leafPlaysRow.holds Try.pinned (OpenSpec.ofChange leafPlaysSpec)

/-- ITS FALSE NEIGHBOUR: 'it returns false'. Refute it at one input. -/
def leafPlaysWrong : ChangeSpec := { name := "leafPlays", fn := fun _ => fun
  | [d1, d2] => { results := [.lit (.bool false)], args := [d1, d2] }
  | _ => none }
def LeafPlaysWrongFalsely : Prop := leafPlaysRow.holds Try.pinned (OpenSpec.ofChange leafPlaysWrong)

/-- 'damierlaw20.LeafNil': WHATEVER THE INPUT: true; the input reads as it did. -/
def leafNilSpec : ChangeSpec := { name := "leafNil", fn := fun _ => fun
  | [d] => { results := [.lit (.bool true)], args := [d] }
  | _ => none }
def leafNilRow : OpenClaim := { program := "ytgmnjbnlfpopgaa", sum := "12e2c63f10fbf86e5a0f5148529c63762f50e33359fda815d2d0ab5df4c4d071", func := "damier/damierlaw20.LeafNil", spec := "leafNil", unfollowed := true, recurses := true, apart := false }
def LeafNilSaid : Prop := leafNilRow.holds Try.pinned (OpenSpec.ofChange leafNilSpec)

/-- ITS FALSE NEIGHBOUR: 'it returns false'. Refute it at one input. -/
def leafNilWrong : ChangeSpec := { name := "leafNil", fn := fun _ => fun
  | [d] => { results := [.lit (.bool false)], args := [d] }
  | _ => none }
def LeafNilWrongFalsely : Prop := leafNilRow.holds Try.pinned (OpenSpec.ofChange leafNilWrong)

/- THE SECOND FORM. 'bulk': how many values and letters a reading holds, each counted each time it is reached (what is shared counts as often as it is met; a slice's spare places count too). A statement '..UptoSaid' is the law's where the arguments, and the package variables that the reading takes, are together of bulk at most 1048576: NARROWER than '..Said'. Prove '..Said' where nothing that the law and all that it calls make is longer than what came in: it says more and counts as full. Else prove '..UptoSaid'. A law counts once. -/
mutual
def uptoBulk {H : Type} : DataW H → Nat
  | .lit (.string bytes) => bytes.length + 1
  | .lit _ => 1
  | .nil => 1
  | .ptr d => uptoBulk d + 1
  | .slice elems spare => uptoBulkAll elems + uptoBulkAll spare + 1
  | .agg parts => uptoBulkAll parts + 1
  | .iface _ d => uptoBulk d + 1
  | .map entries => uptoBulkEntries entries + 1
  | .held _ => 1
def uptoBulkAll {H : Type} : List (DataW H) → Nat
  | [] => 0
  | d :: r => uptoBulk d + uptoBulkAll r
def uptoBulkEntries {H : Type} : List (Lit × DataW H) → Nat
  | [] => 0
  | x :: r => uptoBulkEntry x + uptoBulkEntries r
def uptoBulkEntry {H : Type} : Lit × DataW H → Nat
  | (.string bytes, d) => bytes.length + uptoBulk d + 1
  | (_, d) => uptoBulk d + 1
 end
def uptoSmall : (H : Type) → List (DataW H) → Bool := fun _ ds => decide (uptoBulkAll ds ≤ 1048576)
def OpenSpec.upto (s : _root_.Go.ChangeSpec) : _root_.Go.OpenSpec := { _root_.Go.OpenSpec.ofChange s with cond := some uptoSmall }

/-- 'damierlaw15.MergeRuns', WHERE WHAT IT READS IS OF BULK AT MOST 1048576: true; the input reads as it did. -/
def mergeRunsUptoRow : OpenClaim := { program := "ytgmnjbnlfpopgaa", sum := "12e2c63f10fbf86e5a0f5148529c63762f50e33359fda815d2d0ab5df4c4d071", func := "damier/damierlaw15.MergeRuns", spec := "mergeRuns", unfollowed := true, recurses := true, apart := false, narrowed := true }
def MergeRunsUptoSaid : Prop := mergeRunsUptoRow.holds Try.pinned (OpenSpec.upto mergeRunsSpec)

/-- 'damierlaw15.MergeTurns', WHERE WHAT IT READS IS OF BULK AT MOST 1048576: true; the input reads as it did. -/
def mergeTurnsUptoRow : OpenClaim := { program := "ytgmnjbnlfpopgaa", sum := "12e2c63f10fbf86e5a0f5148529c63762f50e33359fda815d2d0ab5df4c4d071", func := "damier/damierlaw15.MergeTurns", spec := "mergeTurns", unfollowed := true, recurses := true, apart := false, narrowed := true }
def MergeTurnsUptoSaid : Prop := mergeTurnsUptoRow.holds Try.pinned (OpenSpec.upto mergeTurnsSpec)

/-- 'damierlaw15.MergeOnly', WHERE WHAT IT READS IS OF BULK AT MOST 1048576: true; the input reads as it did. -/
def mergeOnlyUptoRow : OpenClaim := { program := "ytgmnjbnlfpopgaa", sum := "12e2c63f10fbf86e5a0f5148529c63762f50e33359fda815d2d0ab5df4c4d071", func := "damier/damierlaw15.MergeOnly", spec := "mergeOnly", unfollowed := true, recurses := true, apart := false, narrowed := true }
def MergeOnlyUptoSaid : Prop := mergeOnlyUptoRow.holds Try.pinned (OpenSpec.upto mergeOnlySpec)

/-- 'damierlaw15.MergeSorts', WHERE WHAT IT READS IS OF BULK AT MOST 1048576: true; the input reads as it did. -/
def mergeSortsUptoRow : OpenClaim := { program := "ytgmnjbnlfpopgaa", sum := "12e2c63f10fbf86e5a0f5148529c63762f50e33359fda815d2d0ab5df4c4d071", func := "damier/damierlaw15.MergeSorts", spec := "mergeSorts", unfollowed := true, recurses := true, apart := false, narrowed := true }
def MergeSortsUptoSaid : Prop := mergeSortsUptoRow.holds Try.pinned (OpenSpec.upto mergeSortsSpec)

/-- 'damierlaw20.LeafRises', WHERE WHAT IT READS IS OF BULK AT MOST 1048576: true; the input reads as it did. -/
def leafRisesUptoRow : OpenClaim := { program := "ytgmnjbnlfpopgaa", sum := "12e2c63f10fbf86e5a0f5148529c63762f50e33359fda815d2d0ab5df4c4d071", func := "damier/damierlaw20.LeafRises", spec := "leafRises", unfollowed := true, recurses := true, apart := false, narrowed := true }
def LeafRisesUptoSaid : Prop := leafRisesUptoRow.holds Try.pinned (OpenSpec.upto leafRisesSpec)

/-- 'damierlaw20.LeafPlays', WHERE WHAT IT READS IS OF BULK AT MOST 1048576: true; the input reads as it did. -/
def leafPlaysUptoRow : OpenClaim := { program := "ytgmnjbnlfpopgaa", sum := "12e2c63f10fbf86e5a0f5148529c63762f50e33359fda815d2d0ab5df4c4d071", func := "damier/damierlaw20.LeafPlays", spec := "leafPlays", unfollowed := true, recurses := true, apart := false, narrowed := true }
def LeafPlaysUptoSaid : Prop := leafPlaysUptoRow.holds Try.pinned (OpenSpec.upto leafPlaysSpec)

/-- 'damierlaw20.LeafNil', WHERE WHAT IT READS IS OF BULK AT MOST 1048576: true; the input reads as it did. -/
def leafNilUptoRow : OpenClaim := { program := "ytgmnjbnlfpopgaa", sum := "12e2c63f10fbf86e5a0f5148529c63762f50e33359fda815d2d0ab5df4c4d071", func := "damier/damierlaw20.LeafNil", spec := "leafNil", unfollowed := true, recurses := true, apart := false, narrowed := true }
def LeafNilUptoSaid : Prop := leafNilUptoRow.holds Try.pinned (OpenSpec.upto leafNilSpec)

end Rows
end Go.Proofs.Ytgmnjbnlfpopgaa
