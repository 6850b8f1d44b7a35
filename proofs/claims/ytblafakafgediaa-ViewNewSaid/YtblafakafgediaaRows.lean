/-
  No cell of these rows narrows 'for every input' (looked for: loops, veiled, ifaces, maps, wideKeys, modest, calm, conditions, laid).
  DERIVED. THE GIVEN ROWS OF THIS SEAT. 4 by the template 'for every input the law returns true; each argument reads behind the call as it read before'; 0 by the template 'total and deterministic' (their statements: YtblafakafgediaaTotals.lean).
  GIVEN WITH THE SEED: the statements are not yours to turn. If you find one false, say at which input.
  Laid BY PROGRAM, IN A SANDBOX (cutbox-rows.mjs): the forced cells as the released guide's own fill.sh prints them over the translation b39a5ccee7a6711e… (all of the seat's roots in one cut). By AI agents, Wed Nov 11 2026. No macro, syntax, notation, axiom, sorry.
-/
import Derived.Test.YtblafakafgediaaChecked
import GoSem.Claim
import GoSem.ClaimJoined
import GoSem.ClaimMapViews
import Derived.JoinedTies
import Derived.KernelRfl
namespace Go.Proofs.Ytblafakafgediaa
/- THE CELL 'sum', in the pinned program and in every row, IS THE sha256 OF THE DUMP (.gsa) THAT YtblafakafgediaaProg.lean LOADS. Nothing in Lean hashes anything: it is a label: what it is worth is what the hold of that sum in a sandbox is worth. -/
noncomputable def Try.pinned : Pinned := { name := "ytblafakafgediaa", sum := "b39a5ccee7a6711ede9f35948739bf75668d30ba10c2229137ea38c68f206b67", checked := Try.checked }
namespace Rows
def none {H : Type} : Left H := { results := [], args := [] }

/-- 'damierlaw11.GridLoads': WHATEVER THE INPUT: true; the input reads as it did. -/
def gridLoadsSpec : ChangeSpec := { name := "gridLoads", fn := fun _ => fun
  | [d] => { results := [.lit (.bool true)], args := [d] }
  | _ => none }
def gridLoadsRow : OpenClaim := { program := "ytblafakafgediaa", sum := "b39a5ccee7a6711ede9f35948739bf75668d30ba10c2229137ea38c68f206b67", func := "damier/damierlaw11.GridLoads", spec := "gridLoads", unfollowed := true, recurses := true, apart := false }
def GridLoadsSaid : Prop := gridLoadsRow.holds Try.pinned (OpenSpec.ofChange gridLoadsSpec)

/-- ITS FALSE NEIGHBOUR: 'it returns false'. Refute it at one input. -/
def gridLoadsWrong : ChangeSpec := { name := "gridLoads", fn := fun _ => fun
  | [d] => { results := [.lit (.bool false)], args := [d] }
  | _ => none }
def GridLoadsWrongFalsely : Prop := gridLoadsRow.holds Try.pinned (OpenSpec.ofChange gridLoadsWrong)

/-- 'damierlaw14.FlipOver': WHATEVER THE INPUT: true; the input reads as it did. -/
def flipOverSpec : ChangeSpec := { name := "flipOver", fn := fun _ => fun
  | [d] => { results := [.lit (.bool true)], args := [d] }
  | _ => none }
def flipOverRow : OpenClaim := { program := "ytblafakafgediaa", sum := "b39a5ccee7a6711ede9f35948739bf75668d30ba10c2229137ea38c68f206b67", func := "damier/damierlaw14.FlipOver", spec := "flipOver", unfollowed := true, recurses := true, apart := false }
def FlipOverSaid : Prop := flipOverRow.holds Try.pinned (OpenSpec.ofChange flipOverSpec)

/-- ITS FALSE NEIGHBOUR: 'it returns false'. Refute it at one input. -/
def flipOverWrong : ChangeSpec := { name := "flipOver", fn := fun _ => fun
  | [d] => { results := [.lit (.bool false)], args := [d] }
  | _ => none }
def FlipOverWrongFalsely : Prop := flipOverRow.holds Try.pinned (OpenSpec.ofChange flipOverWrong)

/-- 'damierlaw29.ViewNew': WHATEVER THE INPUT: true; the input reads as it did. -/
def viewNewSpec : ChangeSpec := { name := "viewNew", fn := fun _ => fun
  | [d1, d2] => { results := [.lit (.bool true)], args := [d1, d2] }
  | _ => none }
def viewNewRow : OpenClaim := { program := "ytblafakafgediaa", sum := "b39a5ccee7a6711ede9f35948739bf75668d30ba10c2229137ea38c68f206b67", func := "damier/damierlaw29.ViewNew", spec := "viewNew", unfollowed := true, recurses := true, apart := false }
def ViewNewSaid : Prop := viewNewRow.holds Try.pinned (OpenSpec.ofChange viewNewSpec)

/-- ITS FALSE NEIGHBOUR: 'it returns false'. Refute it at one input. -/
def viewNewWrong : ChangeSpec := { name := "viewNew", fn := fun _ => fun
  | [d1, d2] => { results := [.lit (.bool false)], args := [d1, d2] }
  | _ => none }
def ViewNewWrongFalsely : Prop := viewNewRow.holds Try.pinned (OpenSpec.ofChange viewNewWrong)

/-- 'damierlaw35.AuditFinds': WHATEVER THE INPUT: true; the input reads as it did. -/
def auditFindsSpec : ChangeSpec := { name := "auditFinds", fn := fun _ => fun
  | [d1, d2, d3] => { results := [.lit (.bool true)], args := [d1, d2, d3] }
  | _ => none }
def auditFindsRow : OpenClaim := { program := "ytblafakafgediaa", sum := "b39a5ccee7a6711ede9f35948739bf75668d30ba10c2229137ea38c68f206b67", func := "damier/damierlaw35.AuditFinds", spec := "auditFinds", unfollowed := true, recurses := true, apart := false }
def AuditFindsSaid : Prop := auditFindsRow.holds Try.pinned (OpenSpec.ofChange auditFindsSpec)

/-- ITS FALSE NEIGHBOUR: 'it returns false'. Refute it at one input. -/
def auditFindsWrong : ChangeSpec := { name := "auditFinds", fn := fun _ => fun
  | [d1, d2, d3] => { results := [.lit (.bool false)], args := [d1, d2, d3] }
  | _ => none }
def AuditFindsWrongFalsely : Prop := auditFindsRow.holds Try.pinned (OpenSpec.ofChange auditFindsWrong)

/- THE SECOND FORM. 'bulk': how many values and letters a reading holds, each counted each time it is reached (what is shared counts as often as it is met; a slice's spare places count too). A statement '..UptoSaid' is the law's where the arguments, and the package variables that the reading takes, are together of bulk at most 1048576: NARROWER than '..Said'. Prove '..Said' where nothing that the law and all that it calls make is longer than what came in: it says more and counts as full. Else prove '..UptoSaid'. A law counts once. -/
mutual
def uptoBulk {H : Type} : DataW H → Nat
  | .lit (.string bytes) => bytes.length + 1
  | .lit _ => 1
  | .nil => 1
  | .ptr d => uptoBulk d + 1
  | .slice elems spare => uptoBulkAll elems + uptoBulkAll spare + 1
  | .agg parts => uptoBulkAll parts + 1
  | .iface _ d => uptoBulk d + 1
  | .map entries => uptoBulkEntries entries + 1
  | .held _ => 1
def uptoBulkAll {H : Type} : List (DataW H) → Nat
  | [] => 0
  | d :: r => uptoBulk d + uptoBulkAll r
def uptoBulkEntries {H : Type} : List (Lit × DataW H) → Nat
  | [] => 0
  | x :: r => uptoBulkEntry x + uptoBulkEntries r
def uptoBulkEntry {H : Type} : Lit × DataW H → Nat
  | (.string bytes, d) => bytes.length + uptoBulk d + 1
  | (_, d) => uptoBulk d + 1
 end
def uptoSmall : (H : Type) → List (DataW H) → Bool := fun _ ds => decide (uptoBulkAll ds ≤ 1048576)
def OpenSpec.upto (s : _root_.Go.ChangeSpec) : _root_.Go.OpenSpec := { _root_.Go.OpenSpec.ofChange s with cond := some uptoSmall }

/-- 'damierlaw11.GridLoads', WHERE WHAT IT READS IS OF BULK AT MOST 1048576: true; the input reads as it did. -/
def gridLoadsUptoRow : OpenClaim := { program := "ytblafakafgediaa", sum := "b39a5ccee7a6711ede9f35948739bf75668d30ba10c2229137ea38c68f206b67", func := "damier/damierlaw11.GridLoads", spec := "gridLoads", unfollowed := true, recurses := true, apart := false, narrowed := true }
def GridLoadsUptoSaid : Prop := gridLoadsUptoRow.holds Try.pinned (OpenSpec.upto gridLoadsSpec)

/-- 'damierlaw14.FlipOver', WHERE WHAT IT READS IS OF BULK AT MOST 1048576: true; the input reads as it did. -/
def flipOverUptoRow : OpenClaim := { program := "ytblafakafgediaa", sum := "b39a5ccee7a6711ede9f35948739bf75668d30ba10c2229137ea38c68f206b67", func := "damier/damierlaw14.FlipOver", spec := "flipOver", unfollowed := true, recurses := true, apart := false, narrowed := true }
def FlipOverUptoSaid : Prop := flipOverUptoRow.holds Try.pinned (OpenSpec.upto flipOverSpec)

/-- 'damierlaw29.ViewNew', WHERE WHAT IT READS IS OF BULK AT MOST 1048576: true; the input reads as it did. -/
def viewNewUptoRow : OpenClaim := { program := "ytblafakafgediaa", sum := "b39a5ccee7a6711ede9f35948739bf75668d30ba10c2229137ea38c68f206b67", func := "damier/damierlaw29.ViewNew", spec := "viewNew", unfollowed := true, recurses := true, apart := false, narrowed := true }
def ViewNewUptoSaid : Prop := viewNewUptoRow.holds Try.pinned (OpenSpec.upto viewNewSpec)

/-- 'damierlaw35.AuditFinds', WHERE WHAT IT READS IS OF BULK AT MOST 1048576: true; the input reads as it did. -/
def auditFindsUptoRow : OpenClaim := { program := "ytblafakafgediaa", sum := "b39a5ccee7a6711ede9f35948739bf75668d30ba10c2229137ea38c68f206b67", func := "damier/damierlaw35.AuditFinds", spec := "auditFinds", unfollowed := true, recurses := true, apart := false, narrowed := true }
def AuditFindsUptoSaid : Prop := auditFindsUptoRow.holds Try.pinned (OpenSpec.upto auditFindsSpec)

end Rows
end Go.Proofs.Ytblafakafgediaa
