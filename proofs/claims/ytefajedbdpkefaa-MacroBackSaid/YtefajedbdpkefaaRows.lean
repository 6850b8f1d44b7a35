/-
  No cell of these rows narrows 'for every input' (looked for: loops, veiled, ifaces, maps, wideKeys, modest, calm, conditions, laid).
  DERIVED. THE GIVEN ROWS OF THIS SEAT. 2 by the template 'for every input the law returns true; each argument reads behind the call as it read before'; 0 by the template 'total and deterministic' (their statements: YtefajedbdpkefaaTotals.lean).
  GIVEN WITH THE SEED: the statements are not yours to turn. If you find one false, say at which input.
  Laid BY PROGRAM, IN A SANDBOX (cutbox-rows.mjs): the forced cells as the released guide's own fill.sh prints them over the translation 517684eae132f62b… (all of the seat's roots in one cut). By AI agents, Wed Nov 11 2026. No macro, syntax, notation, axiom, sorry.
-/
import Derived.Test.YtefajedbdpkefaaChecked
import GoSem.Claim
import GoSem.ClaimJoined
import GoSem.ClaimMapViews
import Derived.JoinedTies
import Derived.KernelRfl
namespace Go.Proofs.Ytefajedbdpkefaa
/- THE CELL 'sum', in the pinned program and in every row, IS THE sha256 OF THE DUMP (.gsa) THAT YtefajedbdpkefaaProg.lean LOADS. Nothing in Lean hashes anything: it is a label: what it is worth is what the hold of that sum in a sandbox is worth. -/
noncomputable def Try.pinned : Pinned := { name := "ytefajedbdpkefaa", sum := "517684eae132f62b18b3252eaa8d2c63204060fc44c4e0356b0df2e5bef473b7", checked := Try.checked }
namespace Rows
def none {H : Type} : Left H := { results := [], args := [] }

/-- 'damierlaw33.MacroBack': WHATEVER THE INPUT: true; the input reads as it did. -/
def macroBackSpec : ChangeSpec := { name := "macroBack", fn := fun _ => fun
  | [d1, d2] => { results := [.lit (.bool true)], args := [d1, d2] }
  | _ => none }
def macroBackRow : OpenClaim := { program := "ytefajedbdpkefaa", sum := "517684eae132f62b18b3252eaa8d2c63204060fc44c4e0356b0df2e5bef473b7", func := "damier/damierlaw33.MacroBack", spec := "macroBack", apart := false }
def MacroBackSaid : Prop := macroBackRow.holds Try.pinned (OpenSpec.ofChange macroBackSpec)

/-- ITS FALSE NEIGHBOUR: 'it returns false'. Refute it at one input. -/
def macroBackWrong : ChangeSpec := { name := "macroBack", fn := fun _ => fun
  | [d1, d2] => { results := [.lit (.bool false)], args := [d1, d2] }
  | _ => none }
def MacroBackWrongFalsely : Prop := macroBackRow.holds Try.pinned (OpenSpec.ofChange macroBackWrong)

/-- 'damierlaw33.MacroNil': WHATEVER THE INPUT: true; the input reads as it did. -/
def macroNilSpec : ChangeSpec := { name := "macroNil", fn := fun _ => fun
  | [d1, d2] => { results := [.lit (.bool true)], args := [d1, d2] }
  | _ => none }
def macroNilRow : OpenClaim := { program := "ytefajedbdpkefaa", sum := "517684eae132f62b18b3252eaa8d2c63204060fc44c4e0356b0df2e5bef473b7", func := "damier/damierlaw33.MacroNil", spec := "macroNil", apart := false }
def MacroNilSaid : Prop := macroNilRow.holds Try.pinned (OpenSpec.ofChange macroNilSpec)

/-- ITS FALSE NEIGHBOUR: 'it returns false'. Refute it at one input. -/
def macroNilWrong : ChangeSpec := { name := "macroNil", fn := fun _ => fun
  | [d1, d2] => { results := [.lit (.bool false)], args := [d1, d2] }
  | _ => none }
def MacroNilWrongFalsely : Prop := macroNilRow.holds Try.pinned (OpenSpec.ofChange macroNilWrong)

/- THE SECOND FORM. 'bulk': how many values and letters a reading holds, each counted each time it is reached (what is shared counts as often as it is met; a slice's spare places count too). A statement '..UptoSaid' is the law's where the arguments, and the package variables that the reading takes, are together of bulk at most 1048576: NARROWER than '..Said'. Prove '..Said' where nothing that the law and all that it calls make is longer than what came in: it says more and counts as full. Else prove '..UptoSaid'. A law counts once. -/
mutual
def uptoBulk {H : Type} : DataW H → Nat
  | .lit (.string bytes) => bytes.length + 1
  | .lit _ => 1
  | .nil => 1
  | .ptr d => uptoBulk d + 1
  | .slice elems spare => uptoBulkAll elems + uptoBulkAll spare + 1
  | .agg parts => uptoBulkAll parts + 1
  | .iface _ d => uptoBulk d + 1
  | .map entries => uptoBulkEntries entries + 1
  | .held _ => 1
def uptoBulkAll {H : Type} : List (DataW H) → Nat
  | [] => 0
  | d :: r => uptoBulk d + uptoBulkAll r
def uptoBulkEntries {H : Type} : List (Lit × DataW H) → Nat
  | [] => 0
  | x :: r => uptoBulkEntry x + uptoBulkEntries r
def uptoBulkEntry {H : Type} : Lit × DataW H → Nat
  | (.string bytes, d) => bytes.length + uptoBulk d + 1
  | (_, d) => uptoBulk d + 1
 end
def uptoSmall : (H : Type) → List (DataW H) → Bool := fun _ ds => decide (uptoBulkAll ds ≤ 1048576)
def OpenSpec.upto (s : _root_.Go.ChangeSpec) : _root_.Go.OpenSpec := { _root_.Go.OpenSpec.ofChange s with cond := some uptoSmall }

/-- 'damierlaw33.MacroBack', WHERE WHAT IT READS IS OF BULK AT MOST 1048576: true; the input reads as it did. -/
def macroBackUptoRow : OpenClaim := { program := "ytefajedbdpkefaa", sum := "517684eae132f62b18b3252eaa8d2c63204060fc44c4e0356b0df2e5bef473b7", func := "damier/damierlaw33.MacroBack", spec := "macroBack", apart := false, narrowed := true }
def MacroBackUptoSaid : Prop := macroBackUptoRow.holds Try.pinned (OpenSpec.upto macroBackSpec)

/-- 'damierlaw33.MacroNil', WHERE WHAT IT READS IS OF BULK AT MOST 1048576: true; the input reads as it did. -/
def macroNilUptoRow : OpenClaim := { program := "ytefajedbdpkefaa", sum := "517684eae132f62b18b3252eaa8d2c63204060fc44c4e0356b0df2e5bef473b7", func := "damier/damierlaw33.MacroNil", spec := "macroNil", apart := false, narrowed := true }
def MacroNilUptoSaid : Prop := macroNilUptoRow.holds Try.pinned (OpenSpec.upto macroNilSpec)

end Rows
end Go.Proofs.Ytefajedbdpkefaa
