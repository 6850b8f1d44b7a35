import Derived.Test.YteohomdiklkbfaaGreatA10
namespace Go.Proofs.Dm
def cutP (s:List UInt8) (a n:Nat):List UInt8:=(s.drop a).take n
end Go.Proofs.Dm
namespace Go.Proofs.YteohomdiklkbfaaGreat
open Go.RowKit Go.Proofs.Dm

theorem CellAt.fr0 {N:Nat} {x:CV} {w w':World} (h:CellAt N x w) (hf:Fr [] w w'):CellAt N x w':=⟨h.1.fr hf (.inr List.not_mem_nil),h.2⟩
theorem RowAt.fr0 {N:Nat} {A:Option Addr} {cs:List CV} {w w':World} (h:RowAt N A cs w) (hf:Fr [] w w'):RowAt N A cs w':=⟨h.1.fr hf (.inr List.not_mem_nil),fun c hc => (h.2 c hc).fr0 hf⟩
end Go.Proofs.YteohomdiklkbfaaGreat
namespace Go.Proofs.YteohomdiklkbfaaGreat
open Go.RowKit Go.Proofs.Dm

end Go.Proofs.YteohomdiklkbfaaGreat
