import Derived.Test.YteohomdiklkbfaaGreatM42
namespace Go.Proofs.YteohomdiklkbfaaGreat
open Go.RowKit Go.Proofs.Dm

theorem itF_snoc (f:Nat → Nat):∀ n R,itF f (n + 1) R = f (itF f n R)
  | 0,_ => rfl
  | n + 1,R => itF_snoc f n (f R)
theorem next_len (xs:List RV) (k:Nat):∀ n a,xs.length - a ≤ n → nextP xs a = (k:Nat) → (visI xs (k + 1)).length = (visI xs a).length + 1 ∧ prevP xs k = prevP xs a ∧ a ≤ k ∧ k < xs.length ∧ hidAt xs k = false
  | 0,a,hn,h => by rw [next_end xs a (by omega)] at h; omega
  | n + 1,a,hn,h => by
    by_cases ha:xs.length ≤ a
    · rw [next_end xs a ha] at h; omega
    · have h1:=next_rec xs a (by omega)
      rw [h] at h1
      have hs:=visI_snoc xs a
      have hp:=prev_rec xs a
      by_cases hh:hidAt xs a = true
      · rw [if_pos hh] at h1 hs hp
        obtain ⟨e1,e2,e3,e4,e5⟩:=next_len xs k n (a + 1) (by omega) h1.symm
        refine ⟨?_,e2.trans hp,by omega,e4,e5⟩
        rw [e1,hs,List.append_nil]
      · rw [if_neg hh] at h1 hs
        obtain rfl:k = a:=by omega
        refine ⟨by rw [hs]; simp,rfl,Nat.le_refl _,by omega,?_⟩
        cases hx:hidAt xs k with
        | true => exact absurd hx hh
        | false => rfl
theorem fwd_step {xs:List RV} {R:Nat} (h:SetR xs R) (hn:fwd xs R ≠ R):bwd xs (fwd xs R) = R ∧ R < fwd xs R ∧ fwd xs R < xs.length ∧ (visI xs (fwd xs R + 1)).length = (visI xs (R + 1)).length + 1:=by
  rcases next_cases xs (R + 1) with ⟨h1,_⟩ | ⟨k,h1,h2,h3,h4⟩
  · exact absurd (by unfold fwd; rw [h1,if_neg (by omega)]) hn
  · have hf:fwd xs R = k:=by unfold fwd; rw [h1,if_pos (by omega)]; exact Int.toNat_natCast k
    obtain ⟨e1,e2,e3,e4,e5⟩:=next_len xs k _ (R + 1) (Nat.le_refl _) h1
    rw [hf]
    refine ⟨?_,by omega,h3,e1⟩
    have hv:R < xs.length ∧ hidAt xs R = false:=by
      rcases h with h | h
      · exact h
      · rw [h.2 k h3] at h4; cases h4
    have hp:=prev_rec xs R
    rw [hv.2] at hp
    unfold bwd
    rw [e2,hp]
    simp
theorem back_all {xs:List RV}:∀ (j R:Nat),SetR xs R → R ≤ itF (fwd xs) j R ∧ (visI xs (R + 1)).length ≤ (visI xs (itF (fwd xs) j R + 1)).length ∧ (itF (fwd xs) j R ≠ R → R < itF (fwd xs) j R ∧ itF (fwd xs) j R < xs.length ∧ (visI xs (R + 1)).length < (visI xs (itF (fwd xs) j R + 1)).length) ∧ itF (bwd xs) ((visI xs (itF (fwd xs) j R + 1)).length - (visI xs (R + 1)).length) (itF (fwd xs) j R) = R
  | 0,R,_ => ⟨Nat.le_refl _,Nat.le_refl _,fun h => absurd rfl h,by show itF _ ((visI xs (R + 1)).length - _) R = R; rw [Nat.sub_self]; rfl⟩
  | j + 1,R,h => by
    by_cases hf:fwd xs R = R
    · have hx:itF (fwd xs) (j + 1) R = R:=itF_fix hf (j + 1)
      rw [hx,Nat.sub_self]
      exact ⟨Nat.le_refl _,Nat.le_refl _,fun h => absurd rfl h,rfl⟩
    · obtain ⟨b1,b2,b3,b4⟩:=fwd_step h hf
      obtain ⟨i1,i2,i3,i4⟩:=back_all j (fwd xs R) (fwd_set h)
      have hx:itF (fwd xs) (j + 1) R = itF (fwd xs) j (fwd xs R):=rfl
      rw [hx]
      have hl:itF (fwd xs) j (fwd xs R) < xs.length:=by
        by_cases he:itF (fwd xs) j (fwd xs R) = fwd xs R
        · rw [he]; exact b3
        · exact (i3 he).2.1
      refine ⟨by omega,by omega,fun _ => ⟨by omega,hl,by omega⟩,?_⟩
      have hn:(visI xs (itF (fwd xs) j (fwd xs R) + 1)).length - (visI xs (R + 1)).length = ((visI xs (itF (fwd xs) j (fwd xs R) + 1)).length - (visI xs (fwd xs R + 1)).length) + 1:=by omega
      rw [hn,itF_snoc,i4]
      exact b1
def cntB (l:List Int) (a b:Int):Nat:=(l.filter fun v => decide (a < v) && decide (v ≤ b)).length
theorem cntB_snoc (l:List Int) (v a b:Int):cntB (l ++ [v]) a b = cntB l a b + if a < v ∧ v ≤ b then 1 else 0:=by
  unfold cntB
  rw [List.filter_append,List.length_append]
  by_cases h:a < v ∧ v ≤ b
  · rw [if_pos h]; simp [h.1,h.2]
  · rw [if_neg h]
    have:(decide (a < v) && decide (v ≤ b)) = false:=by
      rw [Bool.and_eq_false_iff]
      by_cases h1:a < v
      · exact .inr (decide_eq_false fun h2 => h ⟨h1,h2⟩)
      · exact .inl (decide_eq_false h1)
    simp [this]
theorem visI_mono (xs:List RV) (a:Nat):∀ b,a ≤ b → (visI xs a).length ≤ (visI xs b).length
  | 0,h => by rw [Nat.le_zero.1 h]; exact Nat.le_refl _
  | b + 1,h => by
    by_cases e:a = b + 1
    · rw [e]; exact Nat.le_refl _
    · have:=visI_mono xs a b (by omega)
      rw [visI_snoc,List.length_append]
      omega
theorem cntB_vis (xs:List RV) (a b:Nat) (hab:a ≤ b):∀ j,cntB (visI xs j) (a:Nat) (b:Nat) = (visI xs (min j (b + 1))).length - (visI xs (min j (a + 1))).length
  | 0 => by simp [cntB,visI,allR_nil,shownR]
  | j + 1 => by
    have ih:=cntB_vis xs a b hab j
    have hs:=visI_snoc xs j
    have m1:=visI_mono xs (min j (a + 1)) (min j (b + 1)) (by omega)
    by_cases h1:j < a + 1
    · rw [show min (j + 1) (b + 1) = min (j + 1) (a + 1) by omega,Nat.sub_self]
      rw [show min j (b + 1) = min j (a + 1) by omega,Nat.sub_self] at ih
      rw [hs]
      cases hh:hidAt xs j with
      | true => rw [if_pos rfl,List.append_nil]; exact ih
      | false => rw [if_neg (by decide),cntB_snoc,ih,if_neg (by omega)]
    · rw [show min (j + 1) (a + 1) = a + 1 by omega]
      rw [show min j (a + 1) = a + 1 by omega] at ih m1
      by_cases h2:j < b + 1
      · rw [show min (j + 1) (b + 1) = j + 1 by omega]
        rw [show min j (b + 1) = j by omega] at ih m1
        rw [hs]
        cases hh:hidAt xs j with
        | true => rw [if_pos rfl,List.append_nil]; exact ih
        | false => rw [if_neg (by decide),cntB_snoc,ih,if_pos (by omega),List.length_append]; simp; omega
      · rw [show min (j + 1) (b + 1) = b + 1 by omega]
        rw [show min j (b + 1) = b + 1 by omega] at ih m1
        rw [hs]
        cases hh:hidAt xs j with
        | true => rw [if_pos rfl,List.append_nil]; exact ih
        | false => rw [if_neg (by decide),cntB_snoc,ih,if_neg (by omega)]; omega
theorem cntB_is (xs:List RV) (a b:Nat) (hab:a ≤ b) (hb:b < xs.length):cntB (visI xs xs.length) (a:Nat) (b:Nat) = (visI xs (b + 1)).length - (visI xs (a + 1)).length:=by
  rw [cntB_vis xs a b hab,show min xs.length (b + 1) = b + 1 by omega,show min xs.length (a + 1) = a + 1 by omega]
end Go.Proofs.YteohomdiklkbfaaGreat
