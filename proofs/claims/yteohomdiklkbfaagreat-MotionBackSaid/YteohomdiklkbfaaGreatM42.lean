import Derived.Test.YteohomdiklkbfaaGreatM41
namespace Go.Proofs.YteohomdiklkbfaaGreat
open Go.RowKit Go.Proofs.Dm

theorem allR_nil (xs:List RV) (a b:Nat) (h:b ≤ a):allR xs a b = []:=by unfold allR; rw [show b - a = 0 by omega]; rfl
theorem allR_upto (xs:List RV) (b:Nat):allR xs 0 (b + 1) = allR xs 0 b ++ [(b,xs.getD b RV.none)]:=by
  rw [allR_cut xs 0 b (b + 1) (Nat.zero_le _) (by omega),allR_cons xs b (b + 1) (by omega),allR_nil xs (b + 1) (b + 1) (Nat.le_refl _)]
theorem next_end (xs:List RV) (a:Nat) (h:xs.length ≤ a):nextP xs a = -1:=by
  unfold nextP
  rw [allR_nil xs a _ h]
  rfl
theorem next_rec (xs:List RV) (a:Nat) (h:a < xs.length):nextP xs a = if hidAt xs a then nextP xs (a + 1) else (a:Int):=by
  unfold hidAt nextP
  rw [allR_cons xs a _ h]
  cases h2:(xs.getD a RV.none).h <;> simp only [List.find?_cons,h2] <;> rfl
theorem prev_zero (xs:List RV):prevP xs 0 = -1:=by
  unfold prevP downR
  rw [allR_nil xs 0 0 (Nat.le_refl _)]
  rfl
theorem prev_rec (xs:List RV) (b:Nat):prevP xs (b + 1) = if hidAt xs b then prevP xs b else (b:Int):=by
  unfold hidAt prevP downR
  rw [allR_upto,List.reverse_append]
  cases h2:(xs.getD b RV.none).h <;> simp only [List.reverse_cons,List.reverse_nil,List.nil_append,List.cons_append,List.find?_cons,h2] <;> rfl
def visI (xs:List RV) (j:Nat):List Int:=(shownR (allR xs 0 j)).map fun x => (x.1:Int)
theorem visI_snoc (xs:List RV) (j:Nat):visI xs (j + 1) = visI xs j ++ if hidAt xs j then [] else [(j:Int)]:=by
  unfold visI hidAt
  rw [allR_upto,shownR_snoc,List.map_append]
  cases (xs.getD j RV.none).h <;> simp
theorem visI_len (xs:List RV) (j:Nat):(visI xs j).length ≤ j:=by
  induction j with
  | zero => unfold visI; rw [allR_nil xs 0 0 (Nat.le_refl _)]; exact Nat.le_refl _
  | succ j ih =>
    rw [visI_snoc,List.length_append]
    split <;> simp <;> omega
end Go.Proofs.YteohomdiklkbfaaGreat
namespace Go.Proofs.YteohomdiklkbfaaGreat
open Go.RowKit Go.Proofs.Dm

def fwd (xs:List RV) (R:Nat):Nat:=if 0 ≤ nextP xs (R + 1) then (nextP xs (R + 1)).toNat else R
def bwd (xs:List RV) (R:Nat):Nat:=if 0 ≤ prevP xs R then (prevP xs R).toNat else R
theorem SetR.le {xs:List RV} {R:Nat} (h:SetR xs R):R ≤ xs.length:=by
  rcases h with h | h
  · exact Nat.le_of_lt h.1
  · rw [h.1]; exact Nat.zero_le _
theorem fwd_set {xs:List RV} {R:Nat} (h:SetR xs R):SetR xs (fwd xs R):=by
  unfold fwd
  rcases next_cases xs (R + 1) with ⟨h1,_⟩ | ⟨k,h1,_,h3,h4⟩
  · rw [h1,if_neg (by omega)]; exact h
  · rw [h1,if_pos (by omega),Int.toNat_natCast]; exact .inl ⟨h3,h4⟩
theorem bwd_set {xs:List RV} {R:Nat} (h:SetR xs R):SetR xs (bwd xs R):=by
  unfold bwd
  rcases prev_cases xs R h.le with ⟨h1,_⟩ | ⟨k,h1,h3,h4⟩
  · rw [h1,if_neg (by omega)]; exact h
  · rw [h1,if_pos (by omega),Int.toNat_natCast]; exact .inl ⟨h3,h4⟩
def itF (f:Nat → Nat):Nat → Nat → Nat
  | 0,R => R
  | n + 1,R => itF f n (f R)
theorem itF_fix {f:Nat → Nat} {R:Nat} (h:f R = R):∀ n,itF f n R = R
  | 0 => rfl
  | n + 1 => by
    show itF f n (f R) = R
    rw [h]
    exact itF_fix h n
theorem itF_set {xs:List RV} {f:Nat → Nat} (hf:∀ R,SetR xs R → SetR xs (f R)):∀ (n R:Nat),SetR xs R → SetR xs (itF f n R)
  | 0,_,h => h
  | n + 1,R,h => itF_set hf n (f R) (hf R h)
end Go.Proofs.YteohomdiklkbfaaGreat
