import Derived.Test.YtblafakafgediaaH28
import Derived.Test.YtblafakafgediaaH35
namespace Go.Proofs.Dm
def lineT (s : List UInt8) (l : LineP) : List UInt8 := joinP (l.fields.map fun f => cutP s f.a f.n)
/-- What lines are saved as. -/
def saveL (s : List UInt8) (n : Nat) (tl : Bool) (eo : Nat) : Nat → List LineP → List UInt8
  | _, [] => []
  | i, l :: ls => pieceP (lineT s l) n i tl eo l.e ++ saveL s n tl eo (i + 1) ls
theorem cutP_app (s : List UInt8) (a m n : Nat) : cutP s a m ++ cutP s (a + m) n = cutP s a (m + n) := by
  unfold cutP
  rw [List.take_add, List.drop_drop]
theorem cutP_one (s : List UInt8) (a : Nat) (c : UInt8) (h : s[a]? = some c) : cutP s a 1 = [c] := by
  have hl : a < s.length := by
    rcases Nat.lt_or_ge a s.length with h' | h'
    · exact h'
    · rw [List.getElem?_eq_none h'] at h; cases h
  rw [List.getElem?_eq_getElem hl] at h
  injection h with h
  unfold cutP
  rw [List.drop_eq_getElem_cons hl, h]
  rfl
theorem join_cut (s : List UInt8) : ∀ (k a : Nat), a ≤ s.length → s.length + 1 ≤ a + k →
    joinP ((fieldsP s k a).map fun f => cutP s f.a f.n) = cutP s a (fendP s k a - a)
  | 0, a, h, hk => by omega
  | k + 1, a, h, hk => by
    have hb := fieldP_bd s a h
    show joinP ((fieldP s a :: if s[a + (fieldP s a).n]? = some 44 then fieldsP s k (a + (fieldP s a).n + 1) else []).map _) = cutP s a ((if s[a + (fieldP s a).n]? = some 44 then fendP s k (a + (fieldP s a).n + 1) else a + (fieldP s a).n) - a)
    by_cases hq : s[a + (fieldP s a).n]? = some 44
    · rw [if_pos hq, if_pos hq]
      have hlt : a + (fieldP s a).n < s.length := by
        rcases Nat.lt_or_ge (a + (fieldP s a).n) s.length with h | h
        · exact h
        · rw [List.getElem?_eq_none h] at hq; cases hq
      have ih := join_cut s k (a + (fieldP s a).n + 1) hlt (by omega)
      have hfe := fendP_bd s k (a + (fieldP s a).n + 1) hlt
      obtain ⟨k2, rfl⟩ : ∃ k2, k = k2 + 1 := ⟨k - 1, by omega⟩
      obtain ⟨f, r, hfr⟩ : ∃ f r, fieldsP s (k2 + 1) (a + (fieldP s a).n + 1) = f :: r := ⟨_, _, rfl⟩
      rw [hfr] at ih ⊢
      rw [List.map_cons, List.map_cons]
      show cutP s (fieldP s a).a (fieldP s a).n ++ 44 :: joinP ((f :: r).map fun f => cutP s f.a f.n) = _
      rw [ih, fieldP_a, ← List.singleton_append, ← cutP_one s _ 44 hq, ← List.append_assoc, cutP_app]
      have h3 := cutP_app s a ((fieldP s a).n + 1) (fendP s (k2 + 1) (a + (fieldP s a).n + 1) - (a + (fieldP s a).n + 1))
      rw [← Nat.add_assoc] at h3
      rw [h3]
      congr 1
      omega
    · rw [if_neg hq, if_neg hq]
      show cutP s (fieldP s a).a (fieldP s a).n = _
      rw [fieldP_a]
      congr 1
      omega
theorem endP_no (s : List UInt8) (t : Nat) (h : (endP s t).1 = 0) : (endP s t).2 = 0 ∧ s[t]? ≠ some 10 ∧ s[t]? ≠ some 13 := by
  unfold endP at h ⊢
  split at h
  · simp at h
  · split at h
    · split at h <;> simp at h
    · rename_i h1 h2
      rw [if_neg h1, if_neg h2]
      exact ⟨rfl, h1, h2⟩
theorem endP_yes (s : List UInt8) (t : Nat) (h : (endP s t).1 ≠ 0) : markP (endP s t).1 = cutP s t (endP s t).2 := by
  unfold endP at h ⊢
  split
  · rename_i h1
    rw [cutP_one s t 10 h1]
    rfl
  · split
    · rename_i h2
      split
      · rename_i h3
        show markP 2 = cutP s t 2
        rw [← cutP_app s t 1 1, cutP_one s t 13 h2, cutP_one s (t + 1) 10 h3]
        rfl
      · show markP 3 = cutP s t 1
        rw [cutP_one s t 13 h2]
        rfl
    · rename_i h1 h2
      rw [if_neg h1, if_neg h2] at h
      exact absurd rfl h
theorem tailP_concat (l : List Nat) (e : Nat) : tailP (l ++ [e]) = (e != 0) := by
  unfold tailP
  rw [List.getLast?_concat]
/-- Lines, saved, are the text from there on. -/
theorem save_lines (s : List UInt8) (n eo : Nat) (tl : Bool) : ∀ (k a i : Nat) (es : List Nat), a ≤ s.length → s.length ≤ a + k → i + (linesP s k a).length = n → tailP (es ++ (linesP s k a).map (·.e)) = tl → saveL s n tl eo i (linesP s k a) = s.drop a
  | 0, a, i, es, h, hk, _, _ => by
    show [] = _
    rw [List.drop_eq_nil_of_le (by omega)]
  | k + 1, a, i, es, h, hk, hn, ht => by
    by_cases hlt : a < s.length
    · have hl : linesP s (k + 1) a = (lineP s a).1 :: linesP s k (lineP s a).2 := by show (if a < s.length then _ else _) = _; rw [if_pos hlt]
      rw [hl] at hn ht ⊢
      rw [List.length_cons] at hn
      have hgt := lineP_gt s a hlt
      have hfb := fendP_bd s (s.length + 1 - a) a h
      have hfe := fendP_end s (s.length + 1 - a) a h (Nat.le_refl _)
      have hjc := join_cut s (s.length + 1 - a) a h (by omega)
      obtain ⟨t, htt⟩ : ∃ t, t = fendP s (s.length + 1 - a) a := ⟨_, rfl⟩
      have he : (lineP s a).1.e = (endP s t).1 := by rw [htt]; rfl
      have h2 : (lineP s a).2 = t + (endP s t).2 := by rw [htt]; rfl
      have hT : lineT s (lineP s a).1 = cutP s a (t - a) := by rw [htt]; exact hjc
      rw [← htt] at hfb hfe
      have hd : s.drop a = cutP s a (t - a) ++ s.drop t := by
        unfold cutP
        conv => lhs; rw [← List.take_append_drop (t - a) (s.drop a), List.drop_drop]
        rw [show a + (t - a) = t by omega]
      have ih := save_lines s n eo tl k (lineP s a).2 (i + 1) (es ++ [(lineP s a).1.e]) hgt.2 (by omega) (by omega) (by rw [← ht, List.map_cons, List.append_assoc]; rfl)
      show pieceP (lineT s (lineP s a).1) n i tl eo (lineP s a).1.e ++ saveL s n tl eo (i + 1) _ = _
      rw [ih, hT, he, hd]
      unfold pieceP
      by_cases h0 : (endP s t).1 = 0
      · obtain ⟨q1, q2, q3⟩ := endP_no s t h0
        have hts : t = s.length := by
          rcases hfe with h | ⟨c, hc, rfl | rfl⟩
          · exact h
          · exact absurd hc q3
          · exact absurd hc q2
        have hln : linesP s k (lineP s a).2 = [] := by
          rw [h2, q1, hts]
          cases k <;> simp [linesP]
        rw [hln] at hn ht
        have htl : tl = false := by
          rw [← ht, List.map_cons, List.map_nil, tailP_concat, he, h0]
          rfl
        have hne : cutP s a (t - a) ≠ [] := by
          intro e
          have := congrArg List.length e
          rw [cutP_len s a _ (by omega), List.length_nil] at this
          omega
        rw [if_neg (by
          rintro (h | h | h)
          · rw [List.length_nil] at hn; omega
          · rw [htl] at h; cases h
          · exact hne h), List.append_nil, h2, q1, Nat.add_zero]
      · have hy := endP_yes s t h0
        rw [if_neg h0, if_pos (by
          rcases hls : linesP s k (lineP s a).2 with _ | ⟨x, r⟩
          · refine .inr (.inl ?_)
            rw [hls, List.map_cons, List.map_nil, tailP_concat, he] at ht
            rw [← ht]
            simpa using h0
          · rw [hls, List.length_cons] at hn
            exact .inl (by omega)), hy, h2, List.append_assoc]
        congr 1
        unfold cutP
        conv => rhs; rw [← List.take_append_drop (endP s t).2 (s.drop t), List.drop_drop]
    · have hl : linesP s (k + 1) a = [] := by show (if a < s.length then _ else _) = _; rw [if_neg hlt]
      rw [hl, List.drop_eq_nil_of_le (by omega)]
      rfl
theorem save_all (s : List UInt8) (eo : Nat) : saveL s (allLines s).length (tailP ((allLines s).map (·.e))) eo 0 (allLines s) = s :=
  save_lines s _ eo _ (s.length + 1) 0 0 [] (Nat.zero_le _) (by omega) (by rw [Nat.zero_add]; rfl) rfl
end Go.Proofs.Dm
namespace Go.Proofs.Ytblafakafgediaa
open Go.RowKit Go.Proofs.Dm

theorem rowP_line (s : List UInt8) (cs : List CV) (fs : List FieldP) (h : cs.map CV.view = fs.map fview) : rowP s cs = joinP (fs.map fun f => cutP s f.a f.n) := by
  have h1 : cs.map (printP s) = (cs.map CV.view).map fun v => if v.2.2.2 then cutP s v.2.1 v.2.2.1 else quoteP (atP s v.1) := by rw [List.map_map]; rfl
  have h2 : fs.map (fun f => cutP s f.a f.n) = (fs.map fview).map fun v => if v.2.2.2 then cutP s v.2.1 v.2.2.1 else quoteP (atP s v.1) := by rw [List.map_map]; rfl
  unfold rowP
  rw [h1, h2, h]
/-- What rows are saved as hangs on what they say alone. -/
theorem saves_line (s : List UInt8) (n eo : Nat) (tl : Bool) : ∀ (rs : List RW) (ls : List LineP) (i : Nat), rs.map rview = ls.map lview → savesP s n tl eo i (rwv rs) = saveL s n tl eo i ls
  | [], [], _, _ => rfl
  | [], _ :: _, _, h => by cases h
  | _ :: _, [], _, h => by cases h
  | r :: rs, l :: ls, i, h => by
    rw [List.map_cons, List.map_cons] at h
    injection h with h1 h2
    have he : r.1.e = (l.e : Int) := congrArg Prod.fst h1
    have hc : r.2.map CV.view = l.fields.map fview := congrArg (fun x => x.2.2) h1
    show pieceP (rowP s r.2) n i tl eo r.1.e.toNat ++ savesP s n tl eo (i + 1) (rwv rs) = pieceP (lineT s l) n i tl eo l.e ++ saveL s n tl eo (i + 1) ls
    rw [saves_line s n eo tl rs ls (i + 1) h2, rowP_line s _ _ hc, he]
    rfl
/-- What a grid's rows are in the document, of what they say alone. -/
theorem rpic_line (s : List UInt8) (r : RW) (l : LineP) (h : rview r = lview l) : rpic s r = lpic s l := by
  have he : r.1.e = (l.e : Int) := congrArg Prod.fst h
  have hh : r.1.h = false := congrArg (fun x => x.2.1) h
  have hc : r.2.map CV.view = l.fields.map fview := congrArg (fun x => x.2.2) h
  have h1 : r.2.map (ccell s) = (r.2.map CV.view).map fun v => (⟨atP s v.1, if v.2.2.2 then cutP s v.2.1 v.2.2.1 else [], v.2.2.2⟩ : DC) := by rw [List.map_map]; rfl
  have h2 : l.fields.map (fcell s) = (l.fields.map fview).map fun v => (⟨atP s v.1, if v.2.2.2 then cutP s v.2.1 v.2.2.1 else [], v.2.2.2⟩ : DC) := by rw [List.map_map]; rfl
  show (_, _, _) = (_, _, _)
  rw [h1, hc, ← h2, he, hh]
theorem rpics (s : List UInt8) (rs : List RW) (ls : List LineP) (h : rs.map rview = ls.map lview) : rs.map (rpic s) = ls.map (lpic s) := by
  induction rs generalizing ls with
  | nil => cases ls with
    | nil => rfl
    | cons l ls => cases h
  | cons r rs ih => cases ls with
    | nil => cases h
    | cons l ls =>
      rw [List.map_cons, List.map_cons] at h
      injection h with h1 h2
      rw [List.map_cons, List.map_cons, rpic_line s r l h1, ih ls h2]
end Go.Proofs.Ytblafakafgediaa
