/-
  No cell of these rows narrows 'for every input' (looked for: loops, veiled, ifaces, maps, wideKeys, modest, calm, conditions, laid).
  DERIVED. THE GIVEN ROWS OF THIS SEAT. 8 by the template 'for every input the law returns true; each argument reads behind the call as it read before'; 0 by the template 'total and deterministic' (their statements: YtblafakafgediaaGreatTotals.lean).
  GIVEN WITH THE SEED: the statements are not yours to turn. If you find one false, say at which input.
  Laid BY PROGRAM, IN A SANDBOX (cutbox-rows.mjs): the forced cells as the released guide's own fill.sh prints them over the translation b3f5dcfdf2e9976e… (all of the seat's roots in one cut). By AI agents, Wed Nov 11 2026. No macro, syntax, notation, axiom, sorry.
-/
import Derived.Test.YtblafakafgediaaGreatChecked
import GoSem.Claim
import GoSem.ClaimJoined
import GoSem.ClaimMapViews
import Derived.JoinedTies
import Derived.KernelRfl
namespace Go.Proofs.YtblafakafgediaaGreat
/- THE CELL 'sum', in the pinned program and in every row, IS THE sha256 OF THE DUMP (.gsa) THAT YtblafakafgediaaGreatProg.lean LOADS. Nothing in Lean hashes anything: it is a label: what it is worth is what the hold of that sum in a sandbox is worth. -/
noncomputable def Tryz.pinned : Pinned := { name := "ytblafakafgediaagreat", sum := "b3f5dcfdf2e9976e6516fa8dc03d3484a5cd10ee5e94dc54bb93891ab74ce87a", checked := Tryz.checked }
namespace Rows
def none {H : Type} : Left H := { results := [], args := [] }

/-- 'damierlaw29.ViewStays': WHATEVER THE INPUT: true; the input reads as it did. -/
def viewStaysSpec : ChangeSpec := { name := "viewStays", fn := fun _ => fun
  | [d1, d2, d3] => { results := [.lit (.bool true)], args := [d1, d2, d3] }
  | _ => none }
def viewStaysRow : OpenClaim := { program := "ytblafakafgediaagreat", sum := "b3f5dcfdf2e9976e6516fa8dc03d3484a5cd10ee5e94dc54bb93891ab74ce87a", func := "damier/damierlaw29.ViewStays", spec := "viewStays", unfollowed := true, recurses := true, apart := false }
def ViewStaysSaid : Prop := viewStaysRow.holds Tryz.pinned (OpenSpec.ofChange viewStaysSpec)

/-- ITS FALSE NEIGHBOUR: 'it returns false'. Refute it at one input. -/
def viewStaysWrong : ChangeSpec := { name := "viewStays", fn := fun _ => fun
  | [d1, d2, d3] => { results := [.lit (.bool false)], args := [d1, d2, d3] }
  | _ => none }
def ViewStaysWrongFalsely : Prop := viewStaysRow.holds Tryz.pinned (OpenSpec.ofChange viewStaysWrong)

/-- 'damierlaw29.ViewSees': WHATEVER THE INPUT: true; the input reads as it did. -/
def viewSeesSpec : ChangeSpec := { name := "viewSees", fn := fun _ => fun
  | [d1, d2, d3] => { results := [.lit (.bool true)], args := [d1, d2, d3] }
  | _ => none }
def viewSeesRow : OpenClaim := { program := "ytblafakafgediaagreat", sum := "b3f5dcfdf2e9976e6516fa8dc03d3484a5cd10ee5e94dc54bb93891ab74ce87a", func := "damier/damierlaw29.ViewSees", spec := "viewSees", unfollowed := true, recurses := true, apart := false }
def ViewSeesSaid : Prop := viewSeesRow.holds Tryz.pinned (OpenSpec.ofChange viewSeesSpec)

/-- ITS FALSE NEIGHBOUR: 'it returns false'. Refute it at one input. -/
def viewSeesWrong : ChangeSpec := { name := "viewSees", fn := fun _ => fun
  | [d1, d2, d3] => { results := [.lit (.bool false)], args := [d1, d2, d3] }
  | _ => none }
def ViewSeesWrongFalsely : Prop := viewSeesRow.holds Tryz.pinned (OpenSpec.ofChange viewSeesWrong)

/-- 'damierlaw11.GridRight': WHATEVER THE INPUT: true; the input reads as it did. -/
def gridRightSpec : ChangeSpec := { name := "gridRight", fn := fun _ => fun
  | [d1, d2] => { results := [.lit (.bool true)], args := [d1, d2] }
  | _ => none }
def gridRightRow : OpenClaim := { program := "ytblafakafgediaagreat", sum := "b3f5dcfdf2e9976e6516fa8dc03d3484a5cd10ee5e94dc54bb93891ab74ce87a", func := "damier/damierlaw11.GridRight", spec := "gridRight", unfollowed := true, recurses := true, apart := false }
def GridRightSaid : Prop := gridRightRow.holds Tryz.pinned (OpenSpec.ofChange gridRightSpec)

/-- ITS FALSE NEIGHBOUR: 'it returns false'. Refute it at one input. -/
def gridRightWrong : ChangeSpec := { name := "gridRight", fn := fun _ => fun
  | [d1, d2] => { results := [.lit (.bool false)], args := [d1, d2] }
  | _ => none }
def GridRightWrongFalsely : Prop := gridRightRow.holds Tryz.pinned (OpenSpec.ofChange gridRightWrong)

/-- 'damierlaw14.FlipTwice': WHATEVER THE INPUT: true; the input reads as it did. -/
def flipTwiceSpec : ChangeSpec := { name := "flipTwice", fn := fun _ => fun
  | [d1, d2] => { results := [.lit (.bool true)], args := [d1, d2] }
  | _ => none }
def flipTwiceRow : OpenClaim := { program := "ytblafakafgediaagreat", sum := "b3f5dcfdf2e9976e6516fa8dc03d3484a5cd10ee5e94dc54bb93891ab74ce87a", func := "damier/damierlaw14.FlipTwice", spec := "flipTwice", unfollowed := true, recurses := true, apart := false }
def FlipTwiceSaid : Prop := flipTwiceRow.holds Tryz.pinned (OpenSpec.ofChange flipTwiceSpec)

/-- ITS FALSE NEIGHBOUR: 'it returns false'. Refute it at one input. -/
def flipTwiceWrong : ChangeSpec := { name := "flipTwice", fn := fun _ => fun
  | [d1, d2] => { results := [.lit (.bool false)], args := [d1, d2] }
  | _ => none }
def FlipTwiceWrongFalsely : Prop := flipTwiceRow.holds Tryz.pinned (OpenSpec.ofChange flipTwiceWrong)

/-- 'damierlaw29.ViewFollows': WHATEVER THE INPUT: true; the input reads as it did. -/
def viewFollowsSpec : ChangeSpec := { name := "viewFollows", fn := fun _ => fun
  | [d1, d2, d3] => { results := [.lit (.bool true)], args := [d1, d2, d3] }
  | _ => none }
def viewFollowsRow : OpenClaim := { program := "ytblafakafgediaagreat", sum := "b3f5dcfdf2e9976e6516fa8dc03d3484a5cd10ee5e94dc54bb93891ab74ce87a", func := "damier/damierlaw29.ViewFollows", spec := "viewFollows", unfollowed := true, recurses := true, apart := false }
def ViewFollowsSaid : Prop := viewFollowsRow.holds Tryz.pinned (OpenSpec.ofChange viewFollowsSpec)

/-- ITS FALSE NEIGHBOUR: 'it returns false'. Refute it at one input. -/
def viewFollowsWrong : ChangeSpec := { name := "viewFollows", fn := fun _ => fun
  | [d1, d2, d3] => { results := [.lit (.bool false)], args := [d1, d2, d3] }
  | _ => none }
def ViewFollowsWrongFalsely : Prop := viewFollowsRow.holds Tryz.pinned (OpenSpec.ofChange viewFollowsWrong)

/-- 'damierlaw11.GridPlays': WHATEVER THE INPUT: true; the input reads as it did. -/
def gridPlaysSpec : ChangeSpec := { name := "gridPlays", fn := fun _ => fun
  | [d1, d2, d3] => { results := [.lit (.bool true)], args := [d1, d2, d3] }
  | _ => none }
def gridPlaysRow : OpenClaim := { program := "ytblafakafgediaagreat", sum := "b3f5dcfdf2e9976e6516fa8dc03d3484a5cd10ee5e94dc54bb93891ab74ce87a", func := "damier/damierlaw11.GridPlays", spec := "gridPlays", inPlace := ["internal/bytealg.IndexByte", "internal/bytealg.Index"], unfollowed := true, recurses := true, named := ["internal/bytealg.MaxLen"], apart := false }
def GridPlaysSaid : Prop := gridPlaysRow.holds Tryz.pinned (OpenSpec.ofChange gridPlaysSpec)

/-- ITS FALSE NEIGHBOUR: 'it returns false'. Refute it at one input. -/
def gridPlaysWrong : ChangeSpec := { name := "gridPlays", fn := fun _ => fun
  | [d1, d2, d3] => { results := [.lit (.bool false)], args := [d1, d2, d3] }
  | _ => none }
def GridPlaysWrongFalsely : Prop := gridPlaysRow.holds Tryz.pinned (OpenSpec.ofChange gridPlaysWrong)

/-- 'damierlaw11.GridSame': WHATEVER THE INPUT: true; the input reads as it did. -/
def gridSameSpec : ChangeSpec := { name := "gridSame", fn := fun _ => fun
  | [d1, d2, d3] => { results := [.lit (.bool true)], args := [d1, d2, d3] }
  | _ => none }
def gridSameRow : OpenClaim := { program := "ytblafakafgediaagreat", sum := "b3f5dcfdf2e9976e6516fa8dc03d3484a5cd10ee5e94dc54bb93891ab74ce87a", func := "damier/damierlaw11.GridSame", spec := "gridSame", inPlace := ["internal/bytealg.IndexByte", "internal/bytealg.Index"], unfollowed := true, recurses := true, named := ["internal/bytealg.MaxLen"], apart := false }
def GridSameSaid : Prop := gridSameRow.holds Tryz.pinned (OpenSpec.ofChange gridSameSpec)

/-- ITS FALSE NEIGHBOUR: 'it returns false'. Refute it at one input. -/
def gridSameWrong : ChangeSpec := { name := "gridSame", fn := fun _ => fun
  | [d1, d2, d3] => { results := [.lit (.bool false)], args := [d1, d2, d3] }
  | _ => none }
def GridSameWrongFalsely : Prop := gridSameRow.holds Tryz.pinned (OpenSpec.ofChange gridSameWrong)

/-- 'damierlaw14.FlipTurns': WHATEVER THE INPUT: true; the input reads as it did. -/
def flipTurnsSpec : ChangeSpec := { name := "flipTurns", fn := fun _ => fun
  | [d1, d2] => { results := [.lit (.bool true)], args := [d1, d2] }
  | _ => none }
def flipTurnsRow : OpenClaim := { program := "ytblafakafgediaagreat", sum := "b3f5dcfdf2e9976e6516fa8dc03d3484a5cd10ee5e94dc54bb93891ab74ce87a", func := "damier/damierlaw14.FlipTurns", spec := "flipTurns", inPlace := ["internal/bytealg.IndexByte", "internal/bytealg.Index"], unfollowed := true, recurses := true, named := ["internal/bytealg.MaxLen"], apart := false }
def FlipTurnsSaid : Prop := flipTurnsRow.holds Tryz.pinned (OpenSpec.ofChange flipTurnsSpec)

/-- ITS FALSE NEIGHBOUR: 'it returns false'. Refute it at one input. -/
def flipTurnsWrong : ChangeSpec := { name := "flipTurns", fn := fun _ => fun
  | [d1, d2] => { results := [.lit (.bool false)], args := [d1, d2] }
  | _ => none }
def FlipTurnsWrongFalsely : Prop := flipTurnsRow.holds Tryz.pinned (OpenSpec.ofChange flipTurnsWrong)

/- THE SECOND FORM. 'bulk': how many values and letters a reading holds, each counted each time it is reached (what is shared counts as often as it is met; a slice's spare places count too). A statement '..UptoSaid' is the law's where the arguments, and the package variables that the reading takes, are together of bulk at most 1048576: NARROWER than '..Said'. Prove '..Said' where nothing that the law and all that it calls make is longer than what came in: it says more and counts as full. Else prove '..UptoSaid'. A law counts once. -/
mutual
def uptoBulk {H : Type} : DataW H → Nat
  | .lit (.string bytes) => bytes.length + 1
  | .lit _ => 1
  | .nil => 1
  | .ptr d => uptoBulk d + 1
  | .slice elems spare => uptoBulkAll elems + uptoBulkAll spare + 1
  | .agg parts => uptoBulkAll parts + 1
  | .iface _ d => uptoBulk d + 1
  | .map entries => uptoBulkEntries entries + 1
  | .held _ => 1
def uptoBulkAll {H : Type} : List (DataW H) → Nat
  | [] => 0
  | d :: r => uptoBulk d + uptoBulkAll r
def uptoBulkEntries {H : Type} : List (Lit × DataW H) → Nat
  | [] => 0
  | x :: r => uptoBulkEntry x + uptoBulkEntries r
def uptoBulkEntry {H : Type} : Lit × DataW H → Nat
  | (.string bytes, d) => bytes.length + uptoBulk d + 1
  | (_, d) => uptoBulk d + 1
 end
def uptoSmall : (H : Type) → List (DataW H) → Bool := fun _ ds => decide (uptoBulkAll ds ≤ 1048576)
def OpenSpec.upto (s : _root_.Go.ChangeSpec) : _root_.Go.OpenSpec := { _root_.Go.OpenSpec.ofChange s with cond := some uptoSmall }

/-- 'damierlaw29.ViewStays', WHERE WHAT IT READS IS OF BULK AT MOST 1048576: true; the input reads as it did. -/
def viewStaysUptoRow : OpenClaim := { program := "ytblafakafgediaagreat", sum := "b3f5dcfdf2e9976e6516fa8dc03d3484a5cd10ee5e94dc54bb93891ab74ce87a", func := "damier/damierlaw29.ViewStays", spec := "viewStays", unfollowed := true, recurses := true, apart := false, narrowed := true }
def ViewStaysUptoSaid : Prop := viewStaysUptoRow.holds Tryz.pinned (OpenSpec.upto viewStaysSpec)

/-- 'damierlaw29.ViewSees', WHERE WHAT IT READS IS OF BULK AT MOST 1048576: true; the input reads as it did. -/
def viewSeesUptoRow : OpenClaim := { program := "ytblafakafgediaagreat", sum := "b3f5dcfdf2e9976e6516fa8dc03d3484a5cd10ee5e94dc54bb93891ab74ce87a", func := "damier/damierlaw29.ViewSees", spec := "viewSees", unfollowed := true, recurses := true, apart := false, narrowed := true }
def ViewSeesUptoSaid : Prop := viewSeesUptoRow.holds Tryz.pinned (OpenSpec.upto viewSeesSpec)

/-- 'damierlaw11.GridRight', WHERE WHAT IT READS IS OF BULK AT MOST 1048576: true; the input reads as it did. -/
def gridRightUptoRow : OpenClaim := { program := "ytblafakafgediaagreat", sum := "b3f5dcfdf2e9976e6516fa8dc03d3484a5cd10ee5e94dc54bb93891ab74ce87a", func := "damier/damierlaw11.GridRight", spec := "gridRight", unfollowed := true, recurses := true, apart := false, narrowed := true }
def GridRightUptoSaid : Prop := gridRightUptoRow.holds Tryz.pinned (OpenSpec.upto gridRightSpec)

/-- 'damierlaw14.FlipTwice', WHERE WHAT IT READS IS OF BULK AT MOST 1048576: true; the input reads as it did. -/
def flipTwiceUptoRow : OpenClaim := { program := "ytblafakafgediaagreat", sum := "b3f5dcfdf2e9976e6516fa8dc03d3484a5cd10ee5e94dc54bb93891ab74ce87a", func := "damier/damierlaw14.FlipTwice", spec := "flipTwice", unfollowed := true, recurses := true, apart := false, narrowed := true }
def FlipTwiceUptoSaid : Prop := flipTwiceUptoRow.holds Tryz.pinned (OpenSpec.upto flipTwiceSpec)

/-- 'damierlaw29.ViewFollows', WHERE WHAT IT READS IS OF BULK AT MOST 1048576: true; the input reads as it did. -/
def viewFollowsUptoRow : OpenClaim := { program := "ytblafakafgediaagreat", sum := "b3f5dcfdf2e9976e6516fa8dc03d3484a5cd10ee5e94dc54bb93891ab74ce87a", func := "damier/damierlaw29.ViewFollows", spec := "viewFollows", unfollowed := true, recurses := true, apart := false, narrowed := true }
def ViewFollowsUptoSaid : Prop := viewFollowsUptoRow.holds Tryz.pinned (OpenSpec.upto viewFollowsSpec)

/-- 'damierlaw11.GridPlays', WHERE WHAT IT READS IS OF BULK AT MOST 1048576: true; the input reads as it did. -/
def gridPlaysUptoRow : OpenClaim := { program := "ytblafakafgediaagreat", sum := "b3f5dcfdf2e9976e6516fa8dc03d3484a5cd10ee5e94dc54bb93891ab74ce87a", func := "damier/damierlaw11.GridPlays", spec := "gridPlays", inPlace := ["internal/bytealg.IndexByte", "internal/bytealg.Index"], unfollowed := true, recurses := true, named := ["internal/bytealg.MaxLen"], apart := false, narrowed := true }
def GridPlaysUptoSaid : Prop := gridPlaysUptoRow.holds Tryz.pinned (OpenSpec.upto gridPlaysSpec)

/-- 'damierlaw11.GridSame', WHERE WHAT IT READS IS OF BULK AT MOST 1048576: true; the input reads as it did. -/
def gridSameUptoRow : OpenClaim := { program := "ytblafakafgediaagreat", sum := "b3f5dcfdf2e9976e6516fa8dc03d3484a5cd10ee5e94dc54bb93891ab74ce87a", func := "damier/damierlaw11.GridSame", spec := "gridSame", inPlace := ["internal/bytealg.IndexByte", "internal/bytealg.Index"], unfollowed := true, recurses := true, named := ["internal/bytealg.MaxLen"], apart := false, narrowed := true }
def GridSameUptoSaid : Prop := gridSameUptoRow.holds Tryz.pinned (OpenSpec.upto gridSameSpec)

/-- 'damierlaw14.FlipTurns', WHERE WHAT IT READS IS OF BULK AT MOST 1048576: true; the input reads as it did. -/
def flipTurnsUptoRow : OpenClaim := { program := "ytblafakafgediaagreat", sum := "b3f5dcfdf2e9976e6516fa8dc03d3484a5cd10ee5e94dc54bb93891ab74ce87a", func := "damier/damierlaw14.FlipTurns", spec := "flipTurns", inPlace := ["internal/bytealg.IndexByte", "internal/bytealg.Index"], unfollowed := true, recurses := true, named := ["internal/bytealg.MaxLen"], apart := false, narrowed := true }
def FlipTurnsUptoSaid : Prop := flipTurnsUptoRow.holds Tryz.pinned (OpenSpec.upto flipTurnsSpec)

end Rows
end Go.Proofs.YtblafakafgediaaGreat
