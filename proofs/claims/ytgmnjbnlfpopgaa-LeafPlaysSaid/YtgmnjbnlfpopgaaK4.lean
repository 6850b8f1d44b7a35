import Derived.Test.YtgmnjbnlfpopgaaK3
import Derived.IntWalk
namespace Go.Proofs.Ytgmnjbnlfpopgaa
open Go.RowKit Go.Proofs.Dm

theorem info22 : (Try.prog.info? 22).map (fun i => (i.zero, i.size, i.bytes)) = some (some (.slice none 0 0), 1, 24) := by kernel_rfl
/-- A row of rows, each in memory of its own; none of them in the outer one's. -/
def ROK (w w' : World) (Ao : Option Addr) (r : Rw) : Prop := Sl w' r.A (ints r.xs) ∧ (∀ j, bk r.A = some j → w.heap.size ≤ j ∧ j < w'.heap.size ∧ bk Ao ≠ some j) ∧ r.xs.length ≤ r.c
def RowsAns (w : World) (ls : List (List Int)) (e : Ending) (w' : World) : Prop := ∃ (rws : List Rw) (A : Option Addr) (c : Nat), e = .returned (.slice A rws.length c) ∧ ORow w' 22 1 A c rws.length (rws.map Rw.cell) ∧ rws.map (·.xs) = ls ∧ Fr [] w w' ∧ (∀ j, bk A = some j → w.heap.size ≤ j) ∧ ∀ r ∈ rws, ROK w w' A r
theorem rows_one (l : List Rw) : ∀ u ∈ l.map Rw.cell, u.oneCell' = true := by
  intro u hu
  obtain ⟨r, _, rfl⟩ := List.mem_map.1 hu
  rfl
theorem drop_sl {w : World} {ad : Addr} {l : List Int} (h : Sl w (some ad) (ints l)) (k : Nat) : Sl w (some (ad.add k)) (ints (l.drop k)) := by
  rcases h with h | ⟨a, he, hc⟩
  · left; simp [ints] at h ⊢; subst h; simp
  · injection he with he
    subst he
    refine .inr ⟨_, rfl, fun j u hu => ?_⟩
    have h1 : (ad.add k).add j = ad.add (k + j) := by
      unfold Addr.add
      by_cases hk : k = 0
      · subst hk; simp
      · by_cases hj : j = 0
        · subst hj; simp [hk]
        · simp [hk, hj, Nat.add_assoc]
    rw [h1]
    refine hc (k + j) u ?_
    simpa [ints, List.getElem?_drop] using hu

set_option maxRecDepth 100000 in
set_option maxHeartbeats 3200000 in
theorem runs_any (F : Value) (A : Option Addr) (c : Nat) (l : List Int) (w : World) (dom : Int → Prop) (key : Int → Int) (hF : CmpOK F (· < w.heap.size) w dom key) (hs : Sl w A (ints l)) (hc : l.length ≤ c) (hn : l.length ≤ 100000) (hd : ∀ x ∈ l, dom x) :
    Calls Try.prog 11 #[.slice A l.length c, F] w (RowsAns w (runsP key l)) := by
  have HF := Lib.hid hF
  obtain ⟨nF, CF, rfl, hrun, hcmp⟩ := hF
  have HD := Lib.hid hd
  have HC := Lib.hid hcmp
  clear hd hcmp
  go_enter Try.func11, Try.ntmps11
  go_wp2_with fail
  go_loopw [10, 5, 6] (fun iv ov fv wr => ∃ (i frm : Nat) (rws : List Rw) (Ao : Option Addr) (co : Nat), iv = .int .i64 i ∧ fv = .int .i64 frm ∧ ov = .slice Ao rws.length co ∧ i ≤ l.length ∧ frm ≤ i ∧ rws.length ≤ i ∧ ORow wr 22 1 Ao co rws.length (rws.map Rw.cell) ∧ Hid (∀ j, bk Ao = some j → w.heap.size ≤ j) ∧ Fr [] w wr ∧ Hid (∀ r ∈ rws, ROK w wr Ao r) ∧ Hid (RInv key l i frm (rws.map (·.xs)))) (fun iv _ _ _ => l.length - (intOf iv).toNat)
  case atStart => exact ⟨0, 0, [], none, 0, rfl, rfl, rfl, Nat.zero_le _, Nat.le_refl _, Nat.le_refl _, ORow.nil_ _ _ _, (fun j hj => by cases hj), Fr.refl _ _, (fun r hr => by simp at hr), rinv_zero key l⟩
  case round =>
    obtain ⟨i, frm, rws, Ao, co, rfl, rfl, rfl, hi, hfi, hri, hrow, HA, hfr, HR, HI⟩ := hrel
    by_cases hlt : i < l.length
    · have hs' := hs.fr hfr (.inr List.not_mem_nil)
      obtain ⟨ad, rfl, hci⟩ := sl_ints hs' hlt
      have HS := Lib.hid hs'
      have hdx : dom (l.getD i 0) := HD.out _ (by rw [List.getD_eq_getElem?_getD, List.getElem?_eq_getElem hlt]; exact List.getElem_mem hlt)
      obtain ⟨x, hx⟩ : ∃ x, x = l.getD i 0 := ⟨_, rfl⟩
      rw [← hx] at hci hdx
      have HX := Lib.hid hx
      have HDX := Lib.hid hdx
      clear hs' hx hdx hs
      by_cases hl2 : i + 1 < l.length
      · obtain ⟨ad', hadd, hcj⟩ := sl_ints HS.out hl2
        injection hadd with hadd
        subst hadd
        have hdy : dom (l.getD (i + 1) 0) := HD.out _ (by rw [List.getD_eq_getElem?_getD, List.getElem?_eq_getElem hl2]; exact List.getElem_mem hl2)
        obtain ⟨y, hy⟩ : ∃ y, y = l.getD (i + 1) 0 := ⟨_, rfl⟩
        rw [← hy] at hcj hdy
        obtain ⟨sg, hsg⟩ : ∃ sg, sg = sgn (key x) (key y) := ⟨_, rfl⟩
        have hcm : ∀ m, Calls Try.prog nF (#[.int .i64 x, .int .i64 y] ++ CF) (wr.drewN m) fun e w' => e = .returned (.int .i64 sg) ∧ ∃ k, w' = (wr.drewN m).drewN k := fun m => by rw [hsg]; exact HC.out _ _ _ HDX.out hdy ((FrU.of_fr hfr).trans ((Fr.refl [] wr).drewN m))
        have HY := Lib.hid hy
        have HSG : Hid (sg ≤ 0 ↔ key x ≤ key y) := by
          show _ ↔ _
          rw [hsg]
          unfold sgn
          split
          · omega
          · split <;> omega
        clear hy hsg hdy
        go_wp2_with fail
        have s1 : IntKind.i64.wrap ((i : Int) + 1) = (i : Int) + 1 := IntWalk.i64_in _ (by omega)
        have s2 : (0 : Int) ≤ (i : Int) + 1 := by omega
        have s3 : ((i : Int) + 1).toNat = i + 1 := by omega
        have s4 : decide ((i : Int) + 1 < (l.length : Int)) = true := by simp; omega
        have s5 : (i : Int) + 1 < (l.length : Int) := by omega
        have s6 : wr.cell? ⟨ad.block, ad.off + (i + 1), none⟩ = some (.int .i64 y) := by simpa [Addr.add] using hcj
        go_quiet ((exact Calls.quiet_of (hcm _)))
        clear hcm s1 s2 s3 s4 s5 s6
        by_cases h0 : sg ≤ 0
        · have hk : key x ≤ key y := HSG.out.1 h0
          have HK := Lib.hid hk
          clear hk
          go_wp2_with fail
          go_roundw
          case rel => exact ⟨i + 1, frm, rws, Ao, co, by go_num, rfl, rfl, by omega, by omega, by omega, hrow.fr ((Fr.refl [] wr).drewN _) (.inr List.not_mem_nil), HA, hfr.drewN _, HR, rinv_on HI.out hlt ⟨hl2, by rw [← HX.out, ← HY.out]; exact HK.out⟩⟩
          case measure => simp [intOf]; omega
        · have HK : Hid (¬ (i + 1 < l.length ∧ key (l.getD i 0) ≤ key (l.getD (i + 1) 0))) := by
            show ¬ _
            rw [← HX.out, ← HY.out]
            exact fun h => h0 (HSG.out.2 h.2)
          have h0' : 0 < sg := by omega
          clear hcj h0
          have hfz : Fr [] wr (wr.drewN nq) := (Fr.refl [] wr).drewN nq
          obtain ⟨wz, hwz⟩ : ∃ wz, wz = wr.drewN nq := ⟨_, rfl⟩
          rw [← hwz] at hfz ⊢
          have hrow2 := hrow.fr hfz (.inr List.not_mem_nil)
          have hs2 := HS.out.fr hfz (.inr List.not_mem_nil)
          clear hrow hci 
          have hcf : ¬ c = frm := by omega
          have hfz2 := hfr.trans hfz
          have hcl : ((l.take (i + 1)).drop frm).length = i + 1 - frm := by simp; omega
          have hclone := clone_any (some (ad.add frm)) (c - frm) ((l.take (i + 1)).drop frm) wz (drop_sl (by rw [ints_take]; exact hs2.take (i + 1)) frm) (by omega)
          rw [hcl] at hclone
          have HCL := Lib.hid hcl
          have HCLONE := Lib.hid hclone
          clear hclone hcl hfr hwz
          go_wp2_with fail
          refine HCLONE.out.mono ?_
          rintro ee w2 ⟨A2, c2, rfl, hr2, hf2, hA2⟩
          have HA2 := Lib.hid hA2
          have hl2' : (rws.map Rw.cell).length = rws.length * 1 := by simp
          clear hA2 HCLONE
          go_wp2_with (first | (at_builtin; go_must (
            refine wpList_app _ rfl _ _ 23 22 rfl (.slice none 0 0) 1 24 Try.underlying23 info22 rfl (by decide) Ao co rws.length (rws.map Rw.cell) rfl ((hrow2.fr hf2 (.inr List.not_mem_nil)).fr (Fr.alloc (Fr.refl [] w2) _) (.inr List.not_mem_nil)) _ 1 1 [.slice A2 (i + 1 - frm) c2] rfl rfl (sl_new w2 _ 22) (by simp [Value.oneCell']) (by simp only [maxLen]; omega) (by omega) ?_
            intro A3 c3 w3 hr3 hg3 hb3)))
          go_roundw
          case rel =>
            have hf23 : Fr [bk Ao] w2 w3 := ((Fr.refl [bk Ao] w2).alloc _).trans hg3
            have hw3 : Fr [] w w3 := (hfz2.trans hf2).seq hf23 (by
              intro y hy
              simp at hy; subst hy
              cases hbk : bk Ao with
              | none => exact .inr (.inl rfl)
              | some j => exact .inr (.inr ⟨j, HA.out j hbk, rfl⟩))
            have hsz := hfz2.size
            have hsz2 := hf2.size
            have hsz3 := hf23.size
            have hb3' : bk A3 = bk Ao ∨ bk A3 = some (w2.heap.size + 1) := by simpa using hb3
            refine ⟨i + 1, i + 1, rws ++ [⟨A2, c2, (l.take (i + 1)).drop frm⟩], A3, c3, by go_num, by go_num, by simp, by omega, Nat.le_refl _, by simp; omega, ?_, ?_, hw3, ?_, ?_⟩
            · have e1 : (rws ++ [(⟨A2, c2, (l.take (i + 1)).drop frm⟩ : Rw)]).map Rw.cell = rws.map Rw.cell ++ [.slice A2 (i + 1 - frm) c2] := by simp only [List.map_append, List.map_cons, List.map_nil, Rw.cell, HCL.out]
              rw [e1, List.length_append]
              exact hr3
            · intro j hj
              rcases hb3' with h | h
              · exact HA.out j (h ▸ hj)
              · rw [h] at hj; injection hj with hj; omega
            · intro r hr
              rcases List.mem_append.1 hr with hr | hr
              · obtain ⟨g1, g2, g3⟩ := HR.out r hr
                have g4 : Sl w3 r.A (ints r.xs) := ((g1.fr hfz (.inr List.not_mem_nil)).fr hf2 (.inr List.not_mem_nil)).fr hf23 (by
                  cases hbk : bk r.A with
                  | none => exact .inl rfl
                  | some j => exact .inr (by have := (g2 j hbk).2.2; simpa using Ne.symm this))
                refine ⟨g4, fun j hj => ?_, g3⟩
                obtain ⟨k1, k2, k3⟩ := g2 j hj
                have := hfz.size
                refine ⟨k1, by omega, ?_⟩
                rcases hb3' with h | h
                · rw [h]; exact k3
                · rw [h]; simp; omega
              · rw [List.mem_singleton] at hr
                subst hr
                have hcapw := ORow.cap hr2
                have hA2' : ∀ j, bk A2 = some j → wz.heap.size ≤ j := fun j hj => by
                  rcases HA2.out with h | ⟨j', h1, h2⟩
                  · rw [h] at hj; cases hj
                  · rw [h2] at hj; injection hj with hj; omega
                have hlt2 : ∀ j, bk A2 = some j → j < w2.heap.size := fun j hj => hr2.lt hj
                have hAoz : ∀ j, bk Ao = some j → j < wz.heap.size := fun j hj => hrow2.lt hj
                refine ⟨hr2.sl.fr hf23 ?_, fun j hj => ?_, by show ((l.take (i + 1)).drop frm).length ≤ c2; exact hcapw⟩
                · cases hbk : bk A2 with
                  | none => exact .inl rfl
                  | some j =>
                    refine .inr ?_
                    simp only [List.mem_singleton]
                    intro h
                    have h1 := hA2' j hbk
                    have h2 := hAoz j h.symm
                    omega
                · have h1 := hA2' j hj
                  have h2 := hlt2 j hj
                  have := hfz.size
                  refine ⟨by omega, by omega, ?_⟩
                  rcases hb3' with h | h
                  · rw [h]
                    intro h3
                    have := hAoz j h3
                    omega
                  · rw [h]; simp; omega
            · show RInv _ _ _ _ _
              rw [List.map_append]
              exact rinv_cut HI.out hlt HK.out
          case measure => simp [intOf]; omega
      · have HK : Hid (¬ (i + 1 < l.length ∧ key (l.getD i 0) ≤ key (l.getD (i + 1) 0))) := fun h => hl2 h.1
        have hl3 : l.length ≤ i + 1 := by omega
        go_wp2_with fail
        have s1 : IntKind.i64.wrap ((i : Int) + 1) = (i : Int) + 1 := IntWalk.i64_in _ (by omega)
        have s4 : decide ((i : Int) + 1 < (l.length : Int)) = false := by simp; omega
        go_quiet (fail)
        clear s1 s4
        have hfz : Fr [] wr (wr.drewN nq) := (Fr.refl [] wr).drewN nq
        obtain ⟨wz, hwz⟩ : ∃ wz, wz = wr.drewN nq := ⟨_, rfl⟩
        rw [← hwz] at hfz ⊢
        have hrow2 := hrow.fr hfz (.inr List.not_mem_nil)
        have hs2 := HS.out.fr hfz (.inr List.not_mem_nil)
        clear hrow hci 
        have hcf : ¬ c = frm := by omega
        have hfz2 := hfr.trans hfz
        have hcl : ((l.take (i + 1)).drop frm).length = i + 1 - frm := by simp; omega
        have hclone := clone_any (some (ad.add frm)) (c - frm) ((l.take (i + 1)).drop frm) wz (drop_sl (by rw [ints_take]; exact hs2.take (i + 1)) frm) (by omega)
        rw [hcl] at hclone
        have HCL := Lib.hid hcl
        have HCLONE := Lib.hid hclone
        clear hclone hcl hfr hwz
        go_wp2_with fail
        refine HCLONE.out.mono ?_
        rintro ee w2 ⟨A2, c2, rfl, hr2, hf2, hA2⟩
        have HA2 := Lib.hid hA2
        have hl2' : (rws.map Rw.cell).length = rws.length * 1 := by simp
        clear hA2 HCLONE
        go_wp2_with (first | (at_builtin; go_must (
          refine wpList_app _ rfl _ _ 23 22 rfl (.slice none 0 0) 1 24 Try.underlying23 info22 rfl (by decide) Ao co rws.length (rws.map Rw.cell) rfl ((hrow2.fr hf2 (.inr List.not_mem_nil)).fr (Fr.alloc (Fr.refl [] w2) _) (.inr List.not_mem_nil)) _ 1 1 [.slice A2 (i + 1 - frm) c2] rfl rfl (sl_new w2 _ 22) (by simp [Value.oneCell']) (by simp only [maxLen]; omega) (by omega) ?_
          intro A3 c3 w3 hr3 hg3 hb3)))
        go_roundw
        case rel =>
          have hf23 : Fr [bk Ao] w2 w3 := ((Fr.refl [bk Ao] w2).alloc _).trans hg3
          have hw3 : Fr [] w w3 := (hfz2.trans hf2).seq hf23 (by
            intro y hy
            simp at hy; subst hy
            cases hbk : bk Ao with
            | none => exact .inr (.inl rfl)
            | some j => exact .inr (.inr ⟨j, HA.out j hbk, rfl⟩))
          have hsz := hfz2.size
          have hsz2 := hf2.size
          have hsz3 := hf23.size
          have hb3' : bk A3 = bk Ao ∨ bk A3 = some (w2.heap.size + 1) := by simpa using hb3
          refine ⟨i + 1, i + 1, rws ++ [⟨A2, c2, (l.take (i + 1)).drop frm⟩], A3, c3, by go_num, by go_num, by simp, by omega, Nat.le_refl _, by simp; omega, ?_, ?_, hw3, ?_, ?_⟩
          · have e1 : (rws ++ [(⟨A2, c2, (l.take (i + 1)).drop frm⟩ : Rw)]).map Rw.cell = rws.map Rw.cell ++ [.slice A2 (i + 1 - frm) c2] := by simp only [List.map_append, List.map_cons, List.map_nil, Rw.cell, HCL.out]
            rw [e1, List.length_append]
            exact hr3
          · intro j hj
            rcases hb3' with h | h
            · exact HA.out j (h ▸ hj)
            · rw [h] at hj; injection hj with hj; omega
          · intro r hr
            rcases List.mem_append.1 hr with hr | hr
            · obtain ⟨g1, g2, g3⟩ := HR.out r hr
              have g4 : Sl w3 r.A (ints r.xs) := ((g1.fr hfz (.inr List.not_mem_nil)).fr hf2 (.inr List.not_mem_nil)).fr hf23 (by
                cases hbk : bk r.A with
                | none => exact .inl rfl
                | some j => exact .inr (by have := (g2 j hbk).2.2; simpa using Ne.symm this))
              refine ⟨g4, fun j hj => ?_, g3⟩
              obtain ⟨k1, k2, k3⟩ := g2 j hj
              have := hfz.size
              refine ⟨k1, by omega, ?_⟩
              rcases hb3' with h | h
              · rw [h]; exact k3
              · rw [h]; simp; omega
            · rw [List.mem_singleton] at hr
              subst hr
              have hcapw := ORow.cap hr2
              have hA2' : ∀ j, bk A2 = some j → wz.heap.size ≤ j := fun j hj => by
                rcases HA2.out with h | ⟨j', h1, h2⟩
                · rw [h] at hj; cases hj
                · rw [h2] at hj; injection hj with hj; omega
              have hlt2 : ∀ j, bk A2 = some j → j < w2.heap.size := fun j hj => hr2.lt hj
              have hAoz : ∀ j, bk Ao = some j → j < wz.heap.size := fun j hj => hrow2.lt hj
              refine ⟨hr2.sl.fr hf23 ?_, fun j hj => ?_, by show ((l.take (i + 1)).drop frm).length ≤ c2; exact hcapw⟩
              · cases hbk : bk A2 with
                | none => exact .inl rfl
                | some j =>
                  refine .inr ?_
                  simp only [List.mem_singleton]
                  intro h
                  have h1 := hA2' j hbk
                  have h2 := hAoz j h.symm
                  omega
              · have h1 := hA2' j hj
                have h2 := hlt2 j hj
                have := hfz.size
                refine ⟨by omega, by omega, ?_⟩
                rcases hb3' with h | h
                · rw [h]
                  intro h3
                  have := hAoz j h3
                  omega
                · rw [h]; simp; omega
          · show RInv _ _ _ _ _
            rw [List.map_append]
            exact rinv_cut HI.out hlt HK.out
        case measure => simp [intOf]; omega
    · obtain rfl : i = l.length := by omega
      have hp := rinv_end HI.out
      have HP := Lib.hid hp
      clear hp hs
      go_wp2_with fail
      go_ret
      exact ⟨rws, Ao, co, rfl, hrow, HP.out, hfr, HA.out, HR.out⟩
end Go.Proofs.Ytgmnjbnlfpopgaa
