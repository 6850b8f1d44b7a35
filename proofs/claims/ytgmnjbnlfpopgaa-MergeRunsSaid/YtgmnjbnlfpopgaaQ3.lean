import Derived.Test.YtgmnjbnlfpopgaaQ2
namespace Go.Proofs.Ytgmnjbnlfpopgaa
open Go.RowKit Go.Proofs.Dm

theorem cmp12r (w : World) : CmpOK (.func (.func 12) #[] #[]) (· < w.heap.size) w ten tens := cmp_tens _ _
/-- What every row of the second part is: by tens in order, small. -/
def Good (l : List Int) : Prop := (∀ x ∈ l, ten x) ∧ Sd tens l ∧ l.length ≤ 200
theorem good_few (l : List Int) : Good (srt tens (fewL l)) :=
  ⟨fun y hy => fewL_ten l y (srt_mem.1 hy), srt_sd _, by rw [srt_len]; exact fewL_len l⟩
theorem good_len : ∀ (D : List Rw), (∀ r ∈ D, Good r.xs) → (D.map (·.xs)).flatten.length ≤ D.length * 200
  | [], _ => by simp
  | r :: D, h => by
    have h1 := good_len D fun q hq => h q (List.mem_cons_of_mem _ hq)
    have h2 := (h r (List.mem_cons_self ..)).2.2
    simp only [List.map_cons, List.flatten_cons, List.length_append, List.length_cons]
    omega
theorem rows_add {w wr w4 w5 : World} {D : List Rw} {r : Rw} {Ao A5 : Option Addr} {co c5 : Nat} (o : Obj) (hR : ∀ q ∈ D, ROK w wr Ao q) (hA : ∀ j, bk Ao = some j → w.heap.size ≤ j) (hF : Fr [] w wr) (hF4 : Fr [] wr w4)
    (hO : ORow wr 22 1 Ao co D.length (D.map Rw.cell)) (hr : IRow w4 3 r.A r.c r.xs) (hrA : ∀ j, bk r.A = some j → wr.heap.size ≤ j)
    (hr5 : ORow w5 22 1 A5 c5 (D.length + 1) (D.map Rw.cell ++ [r.cell])) (hg5 : Fr [bk Ao] (w4.alloc o) w5) (hb5 : bk A5 = bk Ao ∨ bk A5 = some (w4.alloc o).heap.size) :
    ORow w5 22 1 A5 c5 (D ++ [r]).length ((D ++ [r]).map Rw.cell) ∧ (∀ j, bk A5 = some j → w.heap.size ≤ j) ∧ Fr [] w w5 ∧ ∀ q ∈ D ++ [r], ROK w w5 A5 q := by
  have hf5 : Fr [bk Ao] w4 w5 := ((Fr.refl [bk Ao] w4).alloc o).trans hg5
  have s1 := hF.size
  have s2 := hF4.size
  have s3 := hf5.size
  have hAo : ∀ j, bk Ao = some j → j < wr.heap.size := fun j hj => hO.lt hj
  refine ⟨by rw [List.length_append, rows_app_cells]; exact hr5, ?_, (hF.trans hF4).seq hf5 ?_, ?_⟩
  · intro j hj
    rcases hb5 with h | h
    · exact hA j (h ▸ hj)
    · rw [h] at hj; injection hj with hj; simp at hj; omega
  · intro y hy
    simp at hy; subst hy
    cases hb : bk Ao with
    | none => exact .inr (.inl rfl)
    | some j => exact .inr (.inr ⟨j, hA j hb, rfl⟩)
  · intro q hq
    have key : ∀ j, j < w4.heap.size → bk Ao ≠ some j → bk A5 ≠ some j := by
      intro j hj hn
      rcases hb5 with h | h
      · rw [h]; exact hn
      · rw [h]; simp; omega
    rcases List.mem_append.1 hq with hq | hq
    · obtain ⟨g1, g2, g3⟩ := hR q hq
      refine ⟨(g1.fr hF4 (.inr List.not_mem_nil)).fr hf5 ?_, fun j hj => ?_, g3⟩
      · cases hb : bk q.A with
        | none => exact .inl rfl
        | some j => exact .inr (by have := (g2 j hb).2.2; simpa using Ne.symm this)
      · obtain ⟨k1, k2, k3⟩ := g2 j hj
        exact ⟨k1, by omega, key j (by omega) k3⟩
    · rw [List.mem_singleton] at hq
      subst hq
      have hne : ∀ j, bk q.A = some j → bk Ao ≠ some j := fun j hj h => by have := hAo j h; have := hrA j hj; omega
      refine ⟨hr.sl.fr hf5 ?_, fun j hj => ?_, ORow.cap hr⟩
      · cases hb : bk q.A with
        | none => exact .inl rfl
        | some j => exact .inr (by have := hne j hb; simpa using Ne.symm this)
      · have k1 := hrA j hj
        have k2 := hr.lt hj
        exact ⟨by omega, by omega, key j k2 (hne j hj)⟩

set_option maxRecDepth 100000 in
set_option maxHeartbeats 16000000 in
theorem runs_walk (A : Option Addr) (c : Nat) (xs : List Int) (B : Option Addr) (cb : Nat) (R : List Rw) (w : World) (hs : Sl w A (ints xs)) (hc : xs.length ≤ c) (hm : c ≤ maxLen)
    (hB : Sl w B (R.map Rw.cell)) (hRm : R.length ≤ maxLen) (hRr : ∀ r ∈ R, Sl w r.A (ints r.xs) ∧ r.xs.length ≤ r.c ∧ r.c ≤ maxLen) :
    Calls Try.prog 3 #[.slice A xs.length c, .slice B R.length cb] w fun e w' => e = .returned (.bool true) ∧ Fr [] w w' := by
  have hfew := few_any A c xs w hs hc hm
  have htn := fewL_ten xs
  have hln := fewL_len xs
  obtain ⟨L, hL⟩ : ∃ L, L = fewL xs := ⟨_, rfl⟩
  rw [← hL] at hfew htn hln
  have H0 := Lib.hid hfew
  have HT := Lib.hid htn
  have HRR := Lib.hid hRr
  have HRM := Lib.hid hRm
  clear hfew htn hL hs hc hm hRr hRm
  go_enter Try.func3, Try.ntmps3
  go_wp2_with fail
  refine H0.out.mono ?_
  rintro e w1 ⟨A1, c1, rfl, hr1, hf1, hA1⟩
  have hcap1 : L.length ≤ c1 := ORow.cap hr1
  have hra := runs_any (.func (.func 12) #[] #[]) A1 c1 L w1 ten tens (cmp12r w1) hr1.sl hcap1 (by omega) HT.out
  obtain ⟨RL, hRL⟩ : ∃ RL, RL = runsP tens L := ⟨_, rfl⟩
  have hrl := runsP_len tens L
  rw [← hRL] at hra hrl
  have HRL := Lib.hid hRL
  have H1 := Lib.hid hra
  clear H0 hra hRL hA1
  go_wp2_with fail
  refine H1.out.mono ?_
  rintro e w2 ⟨D1, A2, c2, rfl, hO2, hx2, hf2, hA2, hR2⟩
  have hr12 := hr1.fr hf2 (.inr List.not_mem_nil)
  have hF2 := hf1.trans hf2
  have hrb := rruns_any A1 c1 L w2 hr12.sl (by omega) HT.out
  rw [← HRL.out] at hrb
  have H2 := Lib.hid hrb
  have HR2 := Lib.hid hR2
  have hd1 : D1.length = RL.length := by rw [← hx2]; simp
  rw [hd1]
  have HD1 := Lib.hid hd1
  have HX2 := Lib.hid hx2
  clear H1 hrb hR2 hx2 hr1 hf1 hA2 hd1
  go_wp2_with fail
  refine H2.out.mono ?_
  rintro e w3 ⟨D2, A3, c3, rfl, hO3, hx3, hf3, hA3, hR3⟩
  have hd2 : D2.length = RL.length := by rw [← hx3]; simp
  rw [hd2]
  have HD2 := Lib.hid hd2
  have HX3 := Lib.hid hx3
  have HR3 := Lib.hid hR3
  have hr13 := hr12.fr hf3 (.inr List.not_mem_nil)
  have hO23 := hO2.fr hf3 (.inr List.not_mem_nil)
  have hF3 := hF2.trans hf3
  clear H2 hx3 hR3 hr12 hO2 hA3 hd2
  go_wp2_with fail
  go_loopw [24] (fun iv wr => ∃ i : Nat, iv = .int .i64 i ∧ i ≤ RL.length ∧ Fr [] w3 wr) (fun iv _ => RL.length - (intOf iv).toNat)
  case atStart => exact ⟨0, rfl, Nat.zero_le _, Fr.refl _ _⟩
  case round =>
    obtain ⟨i, rfl, hi, hF⟩ := hrel
    by_cases hilR : i < RL.length
    · have hil : i < D1.length := by have := HD1.out; omega
      have hil2 : i < D2.length := by have := HD2.out; omega
      obtain ⟨aa, rfl, _, ca⟩ := (hO23.fr hF (.inr List.not_mem_nil)).sl.at_ (rw_get D1 i hil)
      obtain ⟨ab, rfl, _, cb⟩ := (hO3.fr hF (.inr List.not_mem_nil)).sl.at_ (rw_get D2 i hil2)
      have hxx : D1[i].xs = D2[i].xs := by
        have h1 : (D1.map (·.xs))[i]? = some D1[i].xs := by simp [hil]
        have h2 : (D2.map (·.xs))[i]? = some D2[i].xs := by simp [hil2]
        rw [HX2.out] at h1
        rw [HX3.out, h1] at h2
        injection h2
      have hs1 : Sl w2 D1[i].A (ints D1[i].xs) := (HR2.out _ (List.getElem_mem hil)).1
      have hs2 : Sl w3 D2[i].A (ints D2[i].xs) := (HR3.out _ (List.getElem_mem _)).1
      have hln1 : D1[i].xs.length ≤ 1000000 := by
        have h1 := (runsP_flat tens L).1
        rw [← HRL.out, ← HX2.out] at h1
        have h2 : D1[i].xs.length ≤ (D1.map (·.xs)).flatten.length := by
          have := flatTo_le D1 (i + 1)
          rw [flatTo_next D1 i hil, List.length_append] at this
          omega
        rw [h1] at h2
        omega
      obtain ⟨r1, hr1⟩ : ∃ r, r = D1[i] := ⟨_, rfl⟩
      obtain ⟨r2, hr2⟩ : ∃ r, r = D2[i] := ⟨_, rfl⟩
      rw [← hr1] at ca hxx hs1 hln1
      rw [← hr2] at cb hxx hs2
      obtain ⟨B1, b1, ys⟩ := r1
      obtain ⟨B2, b2, zs⟩ := r2
      simp only at hxx hs1 hs2 hln1
      subst hxx
      have hs1' := (hs1.fr hf3 (.inr List.not_mem_nil)).fr hF (.inr List.not_mem_nil)
      have hs2' := hs2.fr hF (.inr List.not_mem_nil)
      have hq : ∀ m, Calls Try.prog 14 #[.slice B1 ys.length b1, .slice B2 ys.length b2] (wr.drewN m) fun e w' => e = .returned (.bool true) ∧ ∃ k, w' = (wr.drewN m).drewN k := fun m =>
        same_quiet B1 B2 b1 b2 ys (wr.drewN m) (hs1'.fr ((Fr.refl [] wr).drewN m) (.inr List.not_mem_nil)) (hs2'.fr ((Fr.refl [] wr).drewN m) (.inr List.not_mem_nil)) (by omega)
      clear hil hil2 hs1 hs2 hs1' hs2' hr1 hr2 hln1
      go_wp2_with fail
      go_quiet ((go_at_call 14; exact Calls.quiet_of (hq _)))
      clear hq
      go_wp2_with fail
      go_roundw
      case rel => exact ⟨i + 1, by go_num, by omega, hF.drewN _⟩
      case measure => simp [intOf]; omega
    · have hF4 := hF3.trans hF
      have hr14 := hr13.fr hF (.inr List.not_mem_nil)
      have hO24 := hO23.fr hF (.inr List.not_mem_nil)
      have hR24 : ∀ r ∈ D1, ROK w1 wr A2 r := by
        intro r hr
        obtain ⟨g1, g2, g3⟩ := HR2.out r hr
        have s1 := hf3.size
        have s2 := hF.size
        exact ⟨(g1.fr hf3 (.inr List.not_mem_nil)).fr hF (.inr List.not_mem_nil), fun j hj => ⟨(g2 j hj).1, by have := (g2 j hj).2.1; omega, (g2 j hj).2.2⟩, g3⟩
      have HR24 := Lib.hid hR24
      have HB := Lib.hid hB
      clear hR24 hO3 hr13 hO23 hf3 hF3 hF HR2 HR3 HX3 hB
      go_wp2_with fail
      go_loopw [40, 8] (fun iv ov wx => ∃ (q : Nat) (D : List Rw) (Ao : Option Addr) (co : Nat), iv = .int .i64 q ∧ ov = .slice Ao D.length co ∧ q ≤ R.length ∧ D.length ≤ 10 ∧ D.length ≤ q ∧ ORow wx 22 1 Ao co D.length (D.map Rw.cell) ∧ Fr [] wr wx ∧ Hid (∀ j, bk Ao = some j → wr.heap.size ≤ j) ∧ Hid (∀ r ∈ D, ROK wr wx Ao r) ∧ Hid (∀ r ∈ D, Good r.xs)) (fun iv _ _ => R.length - (intOf iv).toNat)
      case atStart => exact ⟨0, [], none, 0, rfl, rfl, Nat.zero_le _, by simp, by simp, ORow.nil_ _ _ _, Fr.refl _ _, (fun j hj => by cases hj), (fun r hr => by simp at hr), fun r hr => by simp at hr⟩
      case round =>
        obtain ⟨q, D, Ao, co, rfl, rfl, hq, hd10, hdq, hrow, hFx, HA, HRD, HGD⟩ := hrel
        have hF5 := hF4.trans hFx
        by_cases hlt : q < R.length
        · obtain ⟨ad, rfl, _, hcell⟩ := (HB.out.fr hF5 (.inr List.not_mem_nil)).at_ (rw_get R q hlt)
          have hrr := HRR.out R[q] (List.getElem_mem hlt)
          obtain ⟨r, hrq⟩ : ∃ r, r = R[q] := ⟨_, rfl⟩
          rw [← hrq] at hcell hrr
          obtain ⟨Ar, cr, ys⟩ := r
          simp only at hcell hrr
          by_cases h10 : q < 10
          · have hfw := few_any Ar cr ys _ (hrr.1.fr hF5 (.inr List.not_mem_nil)) hrr.2.1 (Lib.hid hrr.2.2)
            have hgood := good_few ys
            have hot := fewL_ten ys
            have hol := fewL_len ys
            obtain ⟨o, ho⟩ : ∃ o, o = fewL ys := ⟨_, rfl⟩
            rw [← ho] at hfw hgood hot hol
            have HFW := Lib.hid hfw
            have HGO := Lib.hid hgood
            have HOT := Lib.hid hot
            clear hfw hgood hot ho hrr hrq
            go_wp2_with fail
            refine HFW.out.mono ?_
            rintro e w4 ⟨A4, c4, rfl, hr4, hf4, hA4⟩
            have hso := rsort_any A4 c4 o w4 hr4.sl (by omega) HOT.out
            have hgo := HGO.out
            obtain ⟨S, hS⟩ : ∃ S, S = srt tens o := ⟨_, rfl⟩
            rw [← hS] at hso hgo
            have HSO := Lib.hid hso
            have HGS := Lib.hid hgo
            clear hso hS HFW HGO hgo hA4 hcell
            go_wp2_with fail
            refine HSO.out.mono ?_
            rintro e w5 ⟨A5, c5, rfl, hr5, hf5, hA5⟩
            have hF6 := hf4.trans hf5
            have hs4 := hf4.size
            have HA5 : Hid (∀ j, bk A5 = some j → _ ≤ j) := fun j hj => Nat.le_trans hs4 (hA5 j hj)
            have hrow5 := hrow.fr hF6 (.inr List.not_mem_nil)
            clear HSO hA5 hs4 hr4 hf4 hf5
            go_wp2_with (first | (at_builtin; go_must (
              refine wpList_app _ rfl (.tmp 47) (.tmp 51) 23 22 rfl (.slice none 0 0) 1 24 Try.underlying23 info22 rfl (by decide) Ao co D.length (D.map Rw.cell) rfl (hrow5.fr (Fr.alloc (Fr.refl [] w5) _) (.inr List.not_mem_nil)) _ 1 1 [.slice A5 S.length c5] rfl rfl (sl_new w5 _ 22) (by simp [Value.oneCell']) (by simp only [maxLen]; omega) (by omega) ?_
              intro A6 c6 w6 hr6 hg6 hb6)))
            go_roundw
            case rel =>
              obtain ⟨k1, k2, k3, k4⟩ := rows_add (r := ⟨A5, c5, S⟩) _ HRD.out HA.out hFx hF6 hrow hr5 HA5.out hr6 hg6 hb6
              exact ⟨q + 1, D ++ [(⟨A5, c5, S⟩ : Rw)], A6, c6, by go_num, by simp, by omega, by simp; omega, by simp; omega, k1, k3, Lib.hid k2, Lib.hid k4, fun r hr => by
                rcases List.mem_append.1 hr with hr | hr
                · exact HGD.out r hr
                · rw [List.mem_singleton] at hr; subst hr; exact HGS.out⟩
            case measure => simp [intOf]; omega
          · obtain ⟨i, hi⟩ : ∃ i : Int, i = (q : Int) := ⟨_, rfl⟩
            have i0 : 0 ≤ i := by omega
            have i1 : i ≤ 9223372036854775806 := by have := HRM.out; simp only [maxLen] at this; omega
            have i2 : 10 ≤ i := by omega
            have i3 : i < (R.length : Int) := by omega
            have i4 : i.toNat = q := by omega
            have HI := Lib.hid hi
            have HQ : Hid (q < R.length) := hlt
            have HDQ : Hid (D.length ≤ q) := hdq
            rw [← hi]
            clear hrr hrq hi hlt hq h10 hdq
            go_wp2_with fail
            go_roundw
            case rel => exact ⟨q + 1, D, Ao, co, by rw [HI.out]; go_num, rfl, by have := HQ.out; omega, hd10, by have := HDQ.out; omega, hrow, hFx, HA, HRD, HGD⟩
            case measure => have := HQ.out; simp [intOf]; omega
        · obtain rfl : q = R.length := by omega
          have hln2 := good_len D HGD.out
          have hin : RowsIn _ ten tens Ao D := ⟨hrow.sl, by omega, fun r hr => ⟨(HRD.out r hr).1, fun j hj => ((HRD.out r hr).2.1 j hj).2.1, (HRD.out r hr).2.2, (HGD.out r hr).1, (HGD.out r hr).2.1⟩, by omega⟩
          have hm1 := merge_any (.func (.func 12) #[] #[]) Ao co D _ ten tens (cmp12r _) hin
          have hml := srt_len (key := tens) (D.map (·.xs)).flatten
          obtain ⟨M, hM⟩ : ∃ M, M = srt tens (D.map (·.xs)).flatten := ⟨_, rfl⟩
          rw [← hM] at hm1 hml
          have HM := Lib.hid hM
          have HM1 := Lib.hid hm1
          have hml2 : M.length ≤ 2000 := by omega
          have HLN : Hid ((D.map (·.xs)).flatten.length ≤ 10000) := by show _ ≤ _; omega
          clear hm1 hM hin hln2 hml
          go_wp2_with fail
          refine HM1.out.mono ?_
          rintro e w5 ⟨A5, c5, rfl, hr5, hf5, hA5⟩
          have hm2 := rmerge_any Ao co D w5 (hrow.sl.fr hf5 (.inr List.not_mem_nil)) (by omega) (fun r hr => ⟨(HRD.out r hr).1.fr hf5 (.inr List.not_mem_nil), (HGD.out r hr).1⟩) HLN.out
          rw [← HM.out] at hm2
          have HM2 := Lib.hid hm2
          have hF6 := hF5.trans hf5
          have hO25 := (hO24.fr hFx (.inr List.not_mem_nil)).fr hf5 (.inr List.not_mem_nil)
          have hr15 := (hr14.fr hFx (.inr List.not_mem_nil)).fr hf5 (.inr List.not_mem_nil)
          have hs5 := hFx.size
          have hs6 := hf5.size
          have HR25 : Hid (∀ r ∈ D1, ROK w1 w5 A2 r) := fun r hr => by
            obtain ⟨g1, g2, g3⟩ := HR24.out r hr
            exact ⟨(g1.fr hFx (.inr List.not_mem_nil)).fr hf5 (.inr List.not_mem_nil), fun j hj => ⟨(g2 j hj).1, by have := (g2 j hj).2.1; omega, (g2 j hj).2.2⟩, g3⟩
          clear hm2 HM1 hO24 hr14 HR24 hs5 hs6 hf5 hFx hF5 hA5 hF4
          go_wp2_with fail
          refine HM2.out.mono ?_
          rintro e w6 ⟨A6, c6, rfl, hr6, hf6, hA6⟩
          have hsa := same_yes A5 A6 c5 c6 M w6 (hr5.fr hf6 (.inr List.not_mem_nil)).sl hr6.sl (by omega)
          have HSA := Lib.hid hsa
          clear hsa HM2 hA6
          go_wp2_with fail
          refine HSA.out.mono ?_
          rintro e w7 ⟨rfl, hf7⟩
          have hf67 := hf6.trans hf7
          have hF7 := hF6.trans hf67
          have hin := runs_in (dom := ten) (hO25.fr hf67 (.inr List.not_mem_nil)) (HX2.out.trans HRL.out) (fun r hr => by
            obtain ⟨g1, g2, g3⟩ := HR25.out r hr
            have s := hf67.size
            exact (⟨g1.fr hf67 (.inr List.not_mem_nil), fun j hj => ⟨(g2 j hj).1, by have := (g2 j hj).2.1; omega, (g2 j hj).2.2⟩, g3⟩ : ROK w1 w7 A2 r)) HT.out (by omega)
          have hm3 := merge_any (.func (.func 12) #[] #[]) A2 c2 D1 _ ten tens (cmp12r _) hin
          have hfl : (D1.map (·.xs)).flatten = L := by rw [HX2.out, HRL.out]; exact (runsP_flat tens L).1
          rw [hfl, HD1.out] at hm3
          have hr17 := hr15.fr hf67 (.inr List.not_mem_nil)
          have hml3 := srt_len (key := tens) L
          obtain ⟨T, hT⟩ : ∃ T, T = srt tens L := ⟨_, rfl⟩
          rw [← hT] at hm3 hml3
          have HML3 := Lib.hid hml3
          have HTT := Lib.hid hT
          have HM3 := Lib.hid hm3
          clear hm3 hml3 hT hfl hin HSA hrow HRD HGD HLN HM hcap1
          clear hf67 hf6 hf7 hF6 hO25 hr15 HR25 hr5 hr6
          go_wp2_with fail
          refine HM3.out.mono ?_
          rintro e w8 ⟨A8, c8, rfl, hr8, hf8, hA8⟩
          have hm4 := rsort_any A1 c1 L w8 (hr17.fr hf8 (.inr List.not_mem_nil)).sl (by omega) HT.out
          rw [← HTT.out] at hm4
          have HM4 := Lib.hid hm4
          clear hm4 HM3 hA8
          go_wp2_with fail
          refine HM4.out.mono ?_
          rintro e w9 ⟨A9, c9, rfl, hr9, hf9, hA9⟩
          have hsb := same_yes A8 A9 c8 c9 T w9 (hr8.fr hf9 (.inr List.not_mem_nil)).sl hr9.sl (by have := HML3.out; omega)
          have HSB := Lib.hid hsb
          have hF9 := (hF7.trans hf8).trans hf9
          clear hsb HM4 hA9 hF7 hf8 hf9 hr8 hr9 hr17
          go_wp2_with fail
          refine HSB.out.mono ?_
          rintro e wa ⟨rfl, hfa⟩
          clear HSB
          go_wp2_with fail
          refine (awake_yes wa).mono ?_
          rintro e wb ⟨rfl, hfb⟩
          go_wp2_with fail
          go_ret
          exact ⟨rfl, (hF9.trans hfa).trans hfb⟩
end Go.Proofs.Ytgmnjbnlfpopgaa
