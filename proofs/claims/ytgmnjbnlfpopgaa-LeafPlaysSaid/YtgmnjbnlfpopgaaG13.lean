import Derived.Test.YtgmnjbnlfpopgaaG12
namespace Go.Proofs.Ytgmnjbnlfpopgaa
open Go.RowKit Go.Proofs.Dm

theorem putP_sd {S : List Int} (n : Int) (h : S.Pairwise (· < ·)) : (putP S n).Pairwise (· < ·) := by
  unfold putP
  split
  · exact h
  · rename_i hn
    exact insI_sd n S hn h
theorem putP_mem {S : List Int} {n x : Int} : x ∈ putP S n ↔ x ∈ S ∨ x = n := by
  unfold putP
  split
  · rename_i hn
    constructor
    · exact .inl
    · rintro (h | rfl)
      · exact h
      · exact hn
  · rw [(insI_perm n S).mem_iff, List.mem_cons]
    exact Or.comm
theorem puts_mem (l : List Int) (x : Int) : x ∈ puts l ↔ x ∈ l := by
  have key : ∀ (l S : List Int), x ∈ l.foldl putP S ↔ x ∈ S ∨ x ∈ l := by
    intro l
    induction l with
    | nil => intro S; simp
    | cons y l ih =>
      intro S
      rw [List.foldl_cons, ih, putP_mem, List.mem_cons, or_assoc]
  simpa [puts] using key l []
theorem puts_sd (l : List Int) : (puts l).Pairwise (· < ·) := by
  have key : ∀ (l S : List Int), S.Pairwise (· < ·) → (l.foldl putP S).Pairwise (· < ·) := by
    intro l
    induction l with
    | nil => intro S h; exact h
    | cons y l ih => intro S h; exact ih _ (putP_sd y h)
  exact key l [] List.Pairwise.nil
theorem tail_drop (S : List Int) (q : Nat) : (S.drop q).tail = S.drop (q + 1) := by rw [List.tail_drop]
theorem drop_hd (S : List Int) (q : Nat) (h : q < S.length) : (S.drop q).headD 0 = S.getD q 0 := by
  rw [drop_getD S q h]; rfl
set_option maxRecDepth 100000 in
set_option maxHeartbeats 6400000 in
theorem rises_walk (A : Option Addr) (c : Nat) (xs : List Int) (w : World) (hs : Sl w A (ints xs)) (hc : xs.length ≤ c) (hm : c ≤ maxLen) :
    Calls Try.prog 7 #[.slice A xs.length c] w fun e w' => e = .returned (.bool true) ∧ Fr [] w w' := by
  obtain ⟨X, hX⟩ : ∃ X, X = xs.take 100 := ⟨_, rfl⟩
  have hXl : X.length ≤ 100 := by rw [hX, List.length_take]; omega
  have hsX : Sl w A (ints X) := by rw [hX, ints_take]; exact hs.take 100
  have hL2 : 100 < xs.length → X.length = 100 := fun h => by rw [hX, List.length_take]; omega
  have hL3 : ¬ 100 < xs.length → X = xs := fun h => by rw [hX]; exact List.take_of_length_le (by omega)
  have hcc : 100 < xs.length → 100 ≤ c := fun h => by omega
  have hnew := new_at A c X w hsX (by omega)
  have HN := Lib.hid hnew
  clear hnew hm hX
  go_enter Try.func7, Try.ntmps7
  go_upto_if 15 with fail
  go_cut [0] (fun s0 wx => s0 = .slice A X.length c ∧ wx = w)
  case first =>
    by_cases h : 100 < xs.length
    · have HL := Lib.hid (hL2 h)
      have h2 := hcc h
      clear hL2 hL3 hcc
      rcases hs.at_ (ints_get xs 0 (by omega)) with ⟨ad, rfl, _⟩
      go_wp2
      go_meet
      exact ⟨by rw [HL.out], rfl⟩
    · have HL := Lib.hid (hL3 h)
      clear hL2 hL3 hcc
      go_wp2
      go_meet
      exact ⟨by rw [HL.out], rfl⟩
  case rest =>
    obtain ⟨rfl, rfl⟩ := hcut
    have hsd := puts_sd X
    have hmem := puts_mem X
    have hpl := puts_len X
    obtain ⟨S, hS⟩ : ∃ S, S = puts X := ⟨_, rfl⟩
    rw [← hS] at HN hsd hmem hpl
    have HSD := Lib.hid hsd
    have HME := Lib.hid hmem
    clear hL2 hL3 hcc hs hc hS hsd hmem
    go_wp2_with fail
    refine HN.out.mono ?_
    rintro e w1 ⟨g, r, rfl, hq1⟩
    have hall := all_at _ _ _ g r S hq1
    have hf1 := hq1.fru.fr
    have HA := Lib.hid hall
    have HQ1 := Lib.hid hq1
    clear hall hq1 HN
    go_wp2_with fail
    refine HA.out.mono ?_
    rintro e w2 ⟨Aw, cw, rfl, hsw, hf2, hbw⟩
    -- the queue, with the row 'want' among what stays
    have HQ2 : Hid (QAt (fun k => k < wc.heap.size ∨ bk Aw = some k) w2 w2 g r (S.drop 0)) := by
      show QAt _ _ _ _ _ _
      exact HQ1.out.base hf2 (by simp) (fun k hk => by
        have s1 := hf1.size
        have s2 := hf2.size
        rcases hk with h | h
        · exact ⟨.inl h, by omega⟩
        · exact ⟨.inr (hbw k h).1, (hbw k h).2⟩)
    have hF2 := hf1.trans hf2
    have HSW := Lib.hid hsw
    have HBW := Lib.hid hbw
    clear HA HQ1 hsw hbw hf1 hf2
    have HF2 := Lib.hid hF2
    clear hF2
    go_wp2_with fail
    go_loopw [6, 5] (fun iv gv wr => ∃ (q : Nat) (Ag : Option Addr) (cg : Nat), iv = .int .i64 q ∧ gv = .slice Ag q cg ∧ q ≤ S.length ∧ ORow wr 3 1 Ag cg q (ints (S.take q)) ∧ Hid (QAt (fun k => k < wc.heap.size ∨ bk Aw = some k ∨ bk Ag = some k) wr wr g r (S.drop q)) ∧ Hid (Fr [] wc wr) ∧ Hid (Sl wr Aw (ints S)) ∧ Hid (∀ j, bk Ag = some j → w2.heap.size ≤ j) ∧ Hid (w2.heap.size ≤ wr.heap.size)) (fun iv _ _ => S.length - (intOf iv).toNat)
    case atStart => exact ⟨0, none, 0, rfl, rfl, Nat.zero_le _, ORow.nil_ _ _ _, by
      have : (fun k => k < wc.heap.size ∨ bk Aw = some k ∨ bk (none : Option Addr) = some k) = (fun k => k < wc.heap.size ∨ bk Aw = some k) := by funext k; simp [bk]
      rw [this]; exact HQ2, HF2, HSW, (fun j hj => by cases hj), Nat.le_refl _⟩
    case round =>
      obtain ⟨q, Ag, cg, rfl, rfl, hq, hrow, HQ, HF, HW, HG, HS⟩ := hrel
      by_cases hlt : q < S.length
      · have hpop := qpop_at _ _ _ g r _ HQ.out
        rw [drop_hd S q hlt, tail_drop] at hpop
        have hdl : decide (0 < (S.drop q).length) = true := by simp; omega
        rw [hdl] at hpop
        have hnx := take_snoc S q hlt
        have hlast : ∀ j, q = j + 1 → (S.take q).getD j 0 < S.getD q 0 := fun j hj => by
          have hp := List.pairwise_iff_getElem.1 HSD.out j q (by omega) hlt (by omega)
          simp [List.getD_eq_getElem?_getD, show j < q by omega, show j < S.length by omega, hlt]
          exact hp
        obtain ⟨n, hn⟩ : ∃ n, n = S.getD q 0 := ⟨_, rfl⟩
        rw [← hn] at hpop hnx hlast
        have HP := Lib.hid hpop
        have HNX := Lib.hid hnx
        have HLA := Lib.hid hlast
        clear hpop hdl hnx hlast hn
        go_wp2_with fail
        refine HP.out.mono ?_
        rintro e w3 ⟨rfl, hq3⟩
        obtain ⟨T, hT, hU⟩ := FrU.toFr hq3.fru
        have hrow3 := hrow.fr hT (by
          cases hb : bk Ag with
          | none => exact .inl rfl
          | some j => exact .inr (hU j (.inr (.inr hb))))
        have hsw3 : Sl w3 Aw (ints S) := HW.out.fr hT (by
          cases hb : bk Aw with
          | none => exact .inl rfl
          | some j => exact .inr (hU j (.inr (.inl hb))))
        have hF3 : Fr [] wc w3 := HF.out.seq hT (by
          intro x hx
          cases x with
          | none => exact .inr (.inl rfl)
          | some k =>
            refine .inr (.inr ⟨k, ?_, rfl⟩)
            rcases Nat.lt_or_ge k wc.heap.size with h | h
            · exact absurd hx (hU k (.inl h))
            · exact h)
        have hs3 := hT.size
        have HQ3 := Lib.hid hq3
        have HSW3 := Lib.hid hsw3
        have HF3 := Lib.hid hF3
        have HS3 := Lib.hid hs3
        clear hq3 hsw3 hF3 hs3 hT hU hrow HP
        rcases Nat.eq_zero_or_pos q with h0 | h0
        · subst h0
          go_wp2_with (first | (at_builtin; go_must (
            refine wpList_app _ rfl (.tmp 50) (.tmp 52) 22 3 rfl (.int .i64 0) 1 8 Try.underlying22 info3 rfl (by decide) Ag cg 0 (ints (S.take 0)) rfl (hrow3.fr (Fr.alloc (Fr.refl [] w3) _) (.inr List.not_mem_nil)) _ 1 1 (ints [n]) rfl rfl (sl_new w3 _ 3) (ints_one _) (by simp only [maxLen]; omega) (by omega) ?_
            intro A4 c4 w4 hr4 hg4 hb4)))
          go_roundw
          case rel =>
            have hg3 : Fr [bk Ag] w3 w4 := ((Fr.refl [bk Ag] w3).alloc _).trans hg4
            have hs4 := hg3.size
            have hbw2 : ∀ j, bk Aw = some j → j < w2.heap.size := fun j hj => (HBW.out j hj).2
            have hne : ∀ j, bk Aw = some j → bk Ag ≠ some j := fun j hj h => by have := hbw2 j hj; have := HG.out j h; omega
            have hA4 : ∀ j, bk A4 = some j → bk Ag = some j ∨ w3.heap.size ≤ j := fun j hj => by
              rcases hb4 with h | h
              · exact .inl (h ▸ hj)
              · rw [h] at hj; injection hj with hj; simp at hj; exact .inr (by omega)
            have hA4l : ∀ j, bk A4 = some j → j < w4.heap.size := fun j hj => hr4.lt hj
            refine ⟨0 + 1, A4, c4, by go_num, rfl, by omega, by rw [HNX.out, ints_app]; exact hr4, ?_, ?_, ?_, ?_, ?_⟩
            · refine HQ3.out.base hg3 (fun k hk => by simp at hk; exact .inr (.inr hk.symm)) (fun k hk => ?_)
              have hW := HW.out
              rcases hk with h | h | h
              · have := HF3.out.size; exact ⟨.inl (.inl h), by omega⟩
              · have := hbw2 k h; have := HS.out; have := HS3.out; exact ⟨.inl (.inr (.inl h)), by omega⟩
              · refine ⟨?_, hA4l k h⟩
                rcases hA4 k h with h | h
                · exact .inl (.inr (.inr h))
                · exact .inr h
            · exact HF3.out.seq hg3 (by
                intro x hx
                simp at hx; subst hx
                cases hb : bk Ag with
                | none => exact .inr (.inl rfl)
                | some j => exact .inr (.inr ⟨j, by have := HG.out j hb; have := HF2.out.size; omega, rfl⟩))
            · exact HSW3.out.fr hg3 (by
                cases hb : bk Aw with
                | none => exact .inl rfl
                | some j => exact .inr (by simpa using Ne.symm (hne j hb)))
            · show ∀ _, _
              intro j hj
              rcases hA4 j hj with h | h
              · exact HG.out j h
              · have := HS.out; have := HS3.out; omega
            · have := HS.out; have := HS3.out; show _ ≤ _; omega
          case measure => simp [intOf]; omega
        · obtain ⟨j, rfl⟩ : ∃ j, q = j + 1 := ⟨q - 1, by omega⟩
          have htl : (S.take (j + 1)).length = j + 1 := by rw [List.length_take]; omega
          obtain ⟨b, rfl⟩ := orow_some hrow3 (ints_ne (i := 0) (by omega))
          have hcl : w3.cell? ⟨b, j, none⟩ = some (.int .i64 ((S.take (j + 1)).getD j 0)) := by
            have e0 : (S.take (j + 1)).getD j 0 = (S.take (j + 1))[j]'(by omega) := by rw [List.getD_eq_getElem?_getD, List.getElem?_eq_getElem (by omega)]; rfl
            rw [World.ownsRow.cellAt hrow3 _ (by omega), ints_get _ _ (by omega), e0]
          have hbl : b < w3.heap.size := hrow3.lt rfl
          have hlt2 := HLA.out j rfl
          obtain ⟨u, hu⟩ : ∃ u, u = (S.take (j + 1)).getD j 0 := ⟨_, rfl⟩
          rw [← hu] at hcl hlt2
          clear hu htl h0
          go_wp2_with (first | (at_builtin; go_must (
            refine wpList_app _ rfl (.tmp 50) (.tmp 52) 22 3 rfl (.int .i64 0) 1 8 Try.underlying22 info3 rfl (by decide) (some ⟨b, 0, none⟩) cg (j + 1) (ints (S.take (j + 1))) rfl (hrow3.fr (Fr.alloc (Fr.refl [] w3) _) (.inr List.not_mem_nil)) _ 1 1 (ints [n]) rfl rfl (sl_new w3 _ 3) (ints_one _) (by simp only [maxLen]; omega) (by omega) ?_
            intro A4 c4 w4 hr4 hg4 hb4)))
          go_roundw
          case rel =>
            have hg3 : Fr [bk (some ⟨b, 0, none⟩)] w3 w4 := ((Fr.refl [bk (some ⟨b, 0, none⟩)] w3).alloc _).trans hg4
            have hs4 := hg3.size
            have hbw2 : ∀ j, bk Aw = some j → j < w2.heap.size := fun j hj => (HBW.out j hj).2
            have hne : ∀ j, bk Aw = some j → bk (some ⟨b, 0, none⟩) ≠ some j := fun j hj h => by have := hbw2 j hj; have := HG.out j h; omega
            have hA4 : ∀ j, bk A4 = some j → bk (some ⟨b, 0, none⟩) = some j ∨ w3.heap.size ≤ j := fun j hj => by
              rcases hb4 with h | h
              · exact .inl (h ▸ hj)
              · rw [h] at hj; injection hj with hj; simp at hj; exact .inr (by omega)
            have hA4l : ∀ j, bk A4 = some j → j < w4.heap.size := fun j hj => hr4.lt hj
            refine ⟨(j + 1) + 1, A4, c4, by go_num, rfl, by omega, by rw [HNX.out, ints_app]; exact hr4, ?_, ?_, ?_, ?_, ?_⟩
            · refine HQ3.out.base hg3 (fun k hk => by simp at hk; exact .inr (.inr hk.symm)) (fun k hk => ?_)
              have hW := HW.out
              rcases hk with h | h | h
              · have := HF3.out.size; exact ⟨.inl (.inl h), by omega⟩
              · have := hbw2 k h; have := HS.out; have := HS3.out; exact ⟨.inl (.inr (.inl h)), by omega⟩
              · refine ⟨?_, hA4l k h⟩
                rcases hA4 k h with h | h
                · exact .inl (.inr (.inr h))
                · exact .inr h
            · exact HF3.out.seq hg3 (by
                intro x hx
                simp at hx; subst hx
                cases hb : bk (some ⟨b, 0, none⟩) with
                | none => exact .inr (.inl rfl)
                | some j => exact .inr (.inr ⟨j, by have := HG.out j hb; have := HF2.out.size; omega, rfl⟩))
            · exact HSW3.out.fr hg3 (by
                cases hb : bk Aw with
                | none => exact .inl rfl
                | some j => exact .inr (by simpa using Ne.symm (hne j hb)))
            · show ∀ _, _
              intro j hj
              rcases hA4 j hj with h | h
              · exact HG.out j h
              · have := HS.out; have := HS3.out; omega
            · have := HS.out; have := HS3.out; show _ ≤ _; omega
          case measure => simp [intOf]; omega
      · obtain rfl : q = S.length := by omega
        rw [List.take_length] at hrow
        have hq0 : S.drop S.length = [] := List.drop_eq_nil_of_le (Nat.le_refl _)
        rw [hq0] at HQ
        have hgs : Sl wr Ag (ints S) := hrow.sl
        have HR := Lib.hid hrow
        have hhas : ∀ n w', Fr [] wr w' → Calls Try.prog 26 #[.slice Ag S.length cg, .int .i64 n] w' fun e w'' => e = .returned (.bool (decide (n ∈ S))) ∧ w' = w'' := fun n w' hf => rhas_any Ag cg S n w' (hgs.fr hf (.inr List.not_mem_nil)) (by omega)
        have hin : ∀ q, q < X.length → decide (X.getD q 0 ∈ S) = true := fun q hq => by simp only [decide_eq_true_eq]; exact (HME.out _).2 (getD_in hq)
        have HH := Lib.hid hhas
        have HI := Lib.hid hin
        have hsx2 : Sl wr A (ints X) := hsX.fr HF.out (.inr List.not_mem_nil)
        clear hrow hhas hin hgs hq0 hlt HQ2
        go_wp2_with fail
        go_loopw [56] (fun iv wx => wr = wx ∧ ∃ k : Nat, iv = .int .i64 k ∧ k ≤ X.length) (fun iv _ => X.length - (intOf iv).toNat)
        case atStart => exact ⟨rfl, 0, rfl, Nat.zero_le _⟩
        case round =>
          obtain ⟨rfl, k, rfl, hk⟩ := hrel
          by_cases hkl : k < X.length
          · obtain ⟨ad, rfl, hcell⟩ := sl_ints hsx2 hkl
            have hd := HI.out k hkl
            obtain ⟨x, hx⟩ : ∃ x, x = X.getD k 0 := ⟨_, rfl⟩
            rw [← hx] at hcell hd
            have hcx := HH.out x _ (Fr.refl _ _)
            rw [hd] at hcx
            have HC := Lib.hid hcx
            clear hd hx hcx
            go_wp2_with fail
            refine HC.out.mono ?_
            rintro e w4 ⟨rfl, rfl⟩
            go_wp2_with fail
            go_roundw
            case rel => exact ⟨by first | trivial | rfl, k + 1, by go_num, by omega⟩
            case measure => simp [intOf]; omega
          · obtain rfl : k = X.length := by omega
            have hpop := qpop_at _ _ _ g r _ HQ.out
            have HP := Lib.hid hpop
            clear hpop
            go_wp2_with fail
            refine HP.out.mono ?_
            rintro e w5 ⟨rfl, hq5⟩
            obtain ⟨T, hT, hU⟩ := FrU.toFr hq5.fru
            have hgs5 : Sl w5 Ag (ints S) := HR.out.sl.fr hT (by
              cases hb : bk Ag with
              | none => exact .inl rfl
              | some j => exact .inr (hU j (.inr (.inr hb))))
            have hsw5 : Sl w5 Aw (ints S) := HW.out.fr hT (by
              cases hb : bk Aw with
              | none => exact .inl rfl
              | some j => exact .inr (hU j (.inr (.inl hb))))
            have hF5 : Fr [] wc w5 := HF.out.seq hT (by
              intro x hx
              cases x with
              | none => exact .inr (.inl rfl)
              | some k =>
                refine .inr (.inr ⟨k, ?_, rfl⟩)
                rcases Nat.lt_or_ge k wc.heap.size with h | h
                · exact absurd hx (hU k (.inl h))
                · exact h)
            have hsame := same_yes Ag Aw cg cw S w5 hgs5 hsw5 (by omega)
            have HSA := Lib.hid hsame
            have HQ5 := Lib.hid hq5
            have HF5 := Lib.hid hF5
            clear hsame hq5 hF5 hgs5 hsw5 hT hU HP
            go_wp2_with fail
            refine HSA.out.mono ?_
            rintro e w6 ⟨rfl, hf6⟩
            have hlen := qlen_at _ _ _ g r _ (HQ5.out.grow hf6)
            have HL := Lib.hid hlen
            clear hlen HSA
            go_wp2_with fail
            refine HL.out.mono ?_
            rintro e w7 ⟨rfl, rfl⟩
            clear HL
            go_wp2_with fail
            refine (lawake_yes w6).mono ?_
            rintro e w8 ⟨rfl, hf8⟩
            go_wp2_with fail
            go_ret
            exact ⟨rfl, (HF5.out.trans hf6).trans hf8⟩
end Go.Proofs.Ytgmnjbnlfpopgaa
