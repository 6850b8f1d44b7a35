/-
  No cell of these rows narrows 'for every input' (looked for: loops, veiled, ifaces, maps, wideKeys, modest, calm, conditions, laid).
  DERIVED. THE GIVEN ROWS OF THIS SEAT. 4 by the template 'for every input the law returns true; each argument reads behind the call as it read before'; 0 by the template 'total and deterministic' (their statements: YthhkannmeljfkaaTotals.lean).
  GIVEN WITH THE SEED: the statements are not yours to turn. If you find one false, say at which input.
  Laid BY PROGRAM, IN A SANDBOX (cutbox-rows.mjs): the forced cells as the released guide's own fill.sh prints them over the translation edcb872cf3715841… (all of the seat's roots in one cut). By AI agents, Wed Nov 11 2026. No macro, syntax, notation, axiom, sorry.
-/
import Derived.Test.YthhkannmeljfkaaChecked
import GoSem.Claim
import GoSem.ClaimJoined
import GoSem.ClaimMapViews
import Derived.JoinedTies
import Derived.KernelRfl
namespace Go.Proofs.Ythhkannmeljfkaa
/- THE CELL 'sum', in the pinned program and in every row, IS THE sha256 OF THE DUMP (.gsa) THAT YthhkannmeljfkaaProg.lean LOADS. Nothing in Lean hashes anything: it is a label: what it is worth is what the hold of that sum in a sandbox is worth. -/
noncomputable def Try.pinned : Pinned := { name := "ythhkannmeljfkaa", sum := "edcb872cf3715841d980d9e0dccca4e84a14963848dd1eab23a2cf78c42eba49", checked := Try.checked }
namespace Rows
def none {H : Type} : Left H := { results := [], args := [] }

/-- 'damierlaw24.GrammarMakes': WHATEVER THE INPUT: true; the input reads as it did. -/
def grammarMakesSpec : ChangeSpec := { name := "grammarMakes", fn := fun _ => fun
  | [d1, d2, d3] => { results := [.lit (.bool true)], args := [d1, d2, d3] }
  | _ => none }
def grammarMakesRow : OpenClaim := { program := "ythhkannmeljfkaa", sum := "edcb872cf3715841d980d9e0dccca4e84a14963848dd1eab23a2cf78c42eba49", func := "damier/damierlaw24.GrammarMakes", spec := "grammarMakes", inPlace := ["internal/bytealg.IndexByteString"], unfollowed := true, recurses := true, apart := false }
def GrammarMakesSaid : Prop := grammarMakesRow.holds Try.pinned (OpenSpec.ofChange grammarMakesSpec)

/-- ITS FALSE NEIGHBOUR: 'it returns false'. Refute it at one input. -/
def grammarMakesWrong : ChangeSpec := { name := "grammarMakes", fn := fun _ => fun
  | [d1, d2, d3] => { results := [.lit (.bool false)], args := [d1, d2, d3] }
  | _ => none }
def GrammarMakesWrongFalsely : Prop := grammarMakesRow.holds Try.pinned (OpenSpec.ofChange grammarMakesWrong)

/-- 'damierlaw24.GrammarWays': WHATEVER THE INPUT: true; the input reads as it did. -/
def grammarWaysSpec : ChangeSpec := { name := "grammarWays", fn := fun _ => fun
  | [d] => { results := [.lit (.bool true)], args := [d] }
  | _ => none }
def grammarWaysRow : OpenClaim := { program := "ythhkannmeljfkaa", sum := "edcb872cf3715841d980d9e0dccca4e84a14963848dd1eab23a2cf78c42eba49", func := "damier/damierlaw24.GrammarWays", spec := "grammarWays", inPlace := ["internal/bytealg.IndexByteString"], unfollowed := true, recurses := true, apart := false }
def GrammarWaysSaid : Prop := grammarWaysRow.holds Try.pinned (OpenSpec.ofChange grammarWaysSpec)

/-- ITS FALSE NEIGHBOUR: 'it returns false'. Refute it at one input. -/
def grammarWaysWrong : ChangeSpec := { name := "grammarWays", fn := fun _ => fun
  | [d] => { results := [.lit (.bool false)], args := [d] }
  | _ => none }
def GrammarWaysWrongFalsely : Prop := grammarWaysRow.holds Try.pinned (OpenSpec.ofChange grammarWaysWrong)

/-- 'damierlaw24.GrammarMoves': WHATEVER THE INPUT: true; the input reads as it did. -/
def grammarMovesSpec : ChangeSpec := { name := "grammarMoves", fn := fun _ => fun
  | [d1, d2] => { results := [.lit (.bool true)], args := [d1, d2] }
  | _ => none }
def grammarMovesRow : OpenClaim := { program := "ythhkannmeljfkaa", sum := "edcb872cf3715841d980d9e0dccca4e84a14963848dd1eab23a2cf78c42eba49", func := "damier/damierlaw24.GrammarMoves", spec := "grammarMoves", inPlace := ["internal/bytealg.IndexByteString"], unfollowed := true, recurses := true, apart := false }
def GrammarMovesSaid : Prop := grammarMovesRow.holds Try.pinned (OpenSpec.ofChange grammarMovesSpec)

/-- ITS FALSE NEIGHBOUR: 'it returns false'. Refute it at one input. -/
def grammarMovesWrong : ChangeSpec := { name := "grammarMoves", fn := fun _ => fun
  | [d1, d2] => { results := [.lit (.bool false)], args := [d1, d2] }
  | _ => none }
def GrammarMovesWrongFalsely : Prop := grammarMovesRow.holds Try.pinned (OpenSpec.ofChange grammarMovesWrong)

/-- 'damierlaw24.GrammarPrints': WHATEVER THE INPUT: true; the input reads as it did. -/
def grammarPrintsSpec : ChangeSpec := { name := "grammarPrints", fn := fun _ => fun
  | [d] => { results := [.lit (.bool true)], args := [d] }
  | _ => none }
def grammarPrintsRow : OpenClaim := { program := "ythhkannmeljfkaa", sum := "edcb872cf3715841d980d9e0dccca4e84a14963848dd1eab23a2cf78c42eba49", func := "damier/damierlaw24.GrammarPrints", spec := "grammarPrints", inPlace := ["internal/bytealg.IndexByteString"], unfollowed := true, recurses := true, apart := false }
def GrammarPrintsSaid : Prop := grammarPrintsRow.holds Try.pinned (OpenSpec.ofChange grammarPrintsSpec)

/-- ITS FALSE NEIGHBOUR: 'it returns false'. Refute it at one input. -/
def grammarPrintsWrong : ChangeSpec := { name := "grammarPrints", fn := fun _ => fun
  | [d] => { results := [.lit (.bool false)], args := [d] }
  | _ => none }
def GrammarPrintsWrongFalsely : Prop := grammarPrintsRow.holds Try.pinned (OpenSpec.ofChange grammarPrintsWrong)

/- THE SECOND FORM. 'bulk': how many values and letters a reading holds, each counted each time it is reached (what is shared counts as often as it is met; a slice's spare places count too). A statement '..UptoSaid' is the law's where the arguments, and the package variables that the reading takes, are together of bulk at most 1048576: NARROWER than '..Said'. Prove '..Said' where nothing that the law and all that it calls make is longer than what came in: it says more and counts as full. Else prove '..UptoSaid'. A law counts once. -/
mutual
def uptoBulk {H : Type} : DataW H → Nat
  | .lit (.string bytes) => bytes.length + 1
  | .lit _ => 1
  | .nil => 1
  | .ptr d => uptoBulk d + 1
  | .slice elems spare => uptoBulkAll elems + uptoBulkAll spare + 1
  | .agg parts => uptoBulkAll parts + 1
  | .iface _ d => uptoBulk d + 1
  | .map entries => uptoBulkEntries entries + 1
  | .held _ => 1
def uptoBulkAll {H : Type} : List (DataW H) → Nat
  | [] => 0
  | d :: r => uptoBulk d + uptoBulkAll r
def uptoBulkEntries {H : Type} : List (Lit × DataW H) → Nat
  | [] => 0
  | x :: r => uptoBulkEntry x + uptoBulkEntries r
def uptoBulkEntry {H : Type} : Lit × DataW H → Nat
  | (.string bytes, d) => bytes.length + uptoBulk d + 1
  | (_, d) => uptoBulk d + 1
 end
def uptoSmall : (H : Type) → List (DataW H) → Bool := fun _ ds => decide (uptoBulkAll ds ≤ 1048576)
def OpenSpec.upto (s : _root_.Go.ChangeSpec) : _root_.Go.OpenSpec := { _root_.Go.OpenSpec.ofChange s with cond := some uptoSmall }

/-- 'damierlaw24.GrammarMakes', WHERE WHAT IT READS IS OF BULK AT MOST 1048576: true; the input reads as it did. -/
def grammarMakesUptoRow : OpenClaim := { program := "ythhkannmeljfkaa", sum := "edcb872cf3715841d980d9e0dccca4e84a14963848dd1eab23a2cf78c42eba49", func := "damier/damierlaw24.GrammarMakes", spec := "grammarMakes", inPlace := ["internal/bytealg.IndexByteString"], unfollowed := true, recurses := true, apart := false, narrowed := true }
def GrammarMakesUptoSaid : Prop := grammarMakesUptoRow.holds Try.pinned (OpenSpec.upto grammarMakesSpec)

/-- 'damierlaw24.GrammarWays', WHERE WHAT IT READS IS OF BULK AT MOST 1048576: true; the input reads as it did. -/
def grammarWaysUptoRow : OpenClaim := { program := "ythhkannmeljfkaa", sum := "edcb872cf3715841d980d9e0dccca4e84a14963848dd1eab23a2cf78c42eba49", func := "damier/damierlaw24.GrammarWays", spec := "grammarWays", inPlace := ["internal/bytealg.IndexByteString"], unfollowed := true, recurses := true, apart := false, narrowed := true }
def GrammarWaysUptoSaid : Prop := grammarWaysUptoRow.holds Try.pinned (OpenSpec.upto grammarWaysSpec)

/-- 'damierlaw24.GrammarMoves', WHERE WHAT IT READS IS OF BULK AT MOST 1048576: true; the input reads as it did. -/
def grammarMovesUptoRow : OpenClaim := { program := "ythhkannmeljfkaa", sum := "edcb872cf3715841d980d9e0dccca4e84a14963848dd1eab23a2cf78c42eba49", func := "damier/damierlaw24.GrammarMoves", spec := "grammarMoves", inPlace := ["internal/bytealg.IndexByteString"], unfollowed := true, recurses := true, apart := false, narrowed := true }
def GrammarMovesUptoSaid : Prop := grammarMovesUptoRow.holds Try.pinned (OpenSpec.upto grammarMovesSpec)

/-- 'damierlaw24.GrammarPrints', WHERE WHAT IT READS IS OF BULK AT MOST 1048576: true; the input reads as it did. -/
def grammarPrintsUptoRow : OpenClaim := { program := "ythhkannmeljfkaa", sum := "edcb872cf3715841d980d9e0dccca4e84a14963848dd1eab23a2cf78c42eba49", func := "damier/damierlaw24.GrammarPrints", spec := "grammarPrints", inPlace := ["internal/bytealg.IndexByteString"], unfollowed := true, recurses := true, apart := false, narrowed := true }
def GrammarPrintsUptoSaid : Prop := grammarPrintsUptoRow.holds Try.pinned (OpenSpec.upto grammarPrintsSpec)

end Rows
end Go.Proofs.Ythhkannmeljfkaa
