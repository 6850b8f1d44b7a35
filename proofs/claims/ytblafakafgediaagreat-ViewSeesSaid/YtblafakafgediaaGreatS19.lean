import Derived.Test.YtblafakafgediaaGreatS18
import Derived.Deep.RegionHeld3
import Derived.IntWalk
namespace Go.Proofs.YtblafakafgediaaGreat
open Go.RowKit Go.Proofs.Dm

theorem allOf_one (k : Nat × List RV) : allOf [k] = k.2 := by simp [allOf]
end Go.Proofs.YtblafakafgediaaGreat
namespace Go.Proofs.YtblafakafgediaaGreat
open Go.RowKit Go.Proofs.Dm

def TreeOk (E : List (Option Nat)) (w : World) (xs : List RV) (ok : Bool) (en : Ending) (w' : World) : Prop := ∃ p, en = .returned (.tuple #[.agg #[.pointer p], .bool ok]) ∧ TreeAt TN E w' p xs ∧ Fr [] w w'
theorem old_box1 {E : List (Option Nat)} {w : World} (h : Old E w) {wr : World} (hf : Fr [] w wr) {b : Nat} (hl : b < wr.heap.size) : Old (some b :: E) wr := fun k hk => by
  rcases List.mem_cons.1 hk with h' | h'
  · injection h' with h'; omega
  · have := h k h'; have := hf.size; omega
end Go.Proofs.YtblafakafgediaaGreat
