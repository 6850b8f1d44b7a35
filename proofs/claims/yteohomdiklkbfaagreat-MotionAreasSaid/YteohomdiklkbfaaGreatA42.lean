import Derived.Test.YteohomdiklkbfaaGreatA40
namespace Go.Proofs.YteohomdiklkbfaaGreat
open Go.RowKit Go.Proofs.Dm

theorem SetR.le {xs:List RV} {R:Nat} (h:SetR xs R):R ≤ xs.length:=by
  rcases h with h | h
  · exact Nat.le_of_lt h.1
  · rw [h.1]; exact Nat.zero_le _
end Go.Proofs.YteohomdiklkbfaaGreat
