import Derived.Test.YteohomdiklkbfaaGreatM23
import Derived.Test.YteohomdiklkbfaaGreatM33
namespace Go.Proofs.YteohomdiklkbfaaGreat
open Go.RowKit Go.Shelf Go.Proofs.Dm
attribute [local go_sem] Oper.semAt_some
def FuncNewB (w:World) (p:Option Addr) (i j:Nat) (en:Ending) (w':World):Prop :=
  ∃ bi bj bt:Nat,en = .returned (.func (.func 103) #[] #[.pointer (some ⟨bi,0,none⟩),.pointer (some ⟨bj,0,none⟩),.pointer (some ⟨bt,0,none⟩)]) ∧
    w'.cell? ⟨bi,0,none⟩ = some (.int .i64 (i:Nat)) ∧ w'.cell? ⟨bj,0,none⟩ = some (.int .i64 (j:Nat)) ∧ w'.cell? ⟨bt,0,none⟩ = some (.pointer p) ∧ Fr [] w w' ∧ w.heap.size ≤ bi ∧ w.heap.size ≤ bj ∧ w.heap.size ≤ bt
end Go.Proofs.YteohomdiklkbfaaGreat
