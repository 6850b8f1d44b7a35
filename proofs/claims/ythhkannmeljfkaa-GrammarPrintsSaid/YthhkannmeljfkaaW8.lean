import Derived.Test.YthhkannmeljfkaaW7
namespace Go.Proofs.Ythhkannmeljfkaa
open Go.RowKit Go.Proofs.Dm

set_option maxRecDepth 100000 in
set_option maxHeartbeats 3200000 in
theorem key_some (U : Nat → Prop) (w0 : World) (g : Nat) (A : Option Addr) (c : Nat) (l : List Int) (op verb count reg char digits : Int) (st : Nat) (vis rc : Bool) (k way : Int) (rec : Bool) (w : World) (hf0 : FrU U w0 w) (hg0 : ¬ U g)
    (hb : Blk w g 52 (pc ⟨op, verb, count, reg, char, digits, st, vis, rc⟩ (.slice A l.length c))) (hrow : IRow w 3 A c l) (hgA : some g ≠ bk A) (hA : ∀ j, bk A = some j → ¬ U j) (hl : l.length < 1000000)
    (hi : Inv ⟨op, verb, count, reg, char, digits, st, vis, rc⟩) (hst : st ∈ stages) (hk : k ≠ 27) (r : R3) (hr : pStep (prep ⟨op, verb, count, reg, char, digits, st, vis, rc⟩ way rec) k = r) :
    Calls Try.prog 8 #[.pointer (some ⟨g, 0, none⟩), .int .i64 k, .int .i64 way, .bool rec] w fun e w' => e = .returned (.tuple #[.agg (told r).1.toArray, .int .i64 (told r).2.1, .int .i64 (told r).2.2]) ∧ PAt U w0 w' g (left r (l ++ [k])).1 (left r (l ++ [k])).2 := by
  have hg := hb.lt
  have hgn : g ≠ w.heap.size := by omega
  have hk' : (k == 27) = false := beq_eq_false_iff_ne.2 hk
  have hok := pStep_ok _ k (show Inv (prep ⟨op, verb, count, reg, char, digits, st, vis, rc⟩ way rec) from ⟨hi.1, hi.2, hi.3, hi.4, hi.5⟩)
  have hso := pStep_st (prep ⟨op, verb, count, reg, char, digits, st, vis, rc⟩ way rec) k
  rw [hr] at hok hso
  have hip : Inv (prep ⟨op, verb, count, reg, char, digits, st, vis, rc⟩ way rec) := ⟨hi.1, hi.2, hi.3, hi.4, hi.5⟩
  have HR := Lib.hid hr
  have HI := Lib.hid hip
  have HO := Lib.hid hok
  have HS := Lib.hid hso
  clear hr hok hip hi hso hk
  have c7 : w.cell? ⟨g, 7, none⟩ = some (.func (.func st) #[] #[]) := by
    have h : st ≠ 0 := by intro h0; rw [h0] at hst; simp [stages] at hst
    have h1 := hb.cell 7
    simpa [pc, stV, h] using h1
  have he := fun w => run_eql_func_nil (P := Try.prog) w 48 _ _ _ Try.underlying48 (.func (.func st) #[] #[]) (.inr ⟨_, _, _, rfl⟩)
  simp only at he
  have c8 : w.cell? ⟨g, 8, none⟩ = some (.bool vis) := hb.cell 8
  have c9 : w.cell? ⟨g, 9, none⟩ = some (.bool rc) := hb.cell 9
  have f7 := hb.frozen 7
  have f8 := hb.frozen 8
  have f9 := hb.frozen 9
  go_enter Try.func8, Try.ntmps8
  go_upto_region 10 with fail
  go_cut [11] (fun s11 wx => s11 = .int .i64 r.2.2 ∧ Blk wx g 52 (pc (kept r) (.slice A l.length c)) ∧ Blk wx w.heap.size 26 #[.int .i64 0, .int .i64 0, .int .i64 0, .int .i64 0, .int .i64 0] ∧ Fr [some g] w wx)
  case first =>
    have hR0 := Blk.new ((w.setCell ⟨g, 8, none⟩ (.bool (way == 1))).setCell ⟨g, 9, none⟩ (.bool rec)) 26 #[.int .i64 0, .int .i64 0, .int .i64 0, .int .i64 0, .int .i64 0]
    have hF0 : Fr [some g] w _ := (((Fr.refl [some g] w).setB (g := g) (by simp) 8 (.bool (way == 1))).setB (g := g) (by simp) 9 (.bool rec)).alloc (.cells #[.int .i64 0, .int .i64 0, .int .i64 0, .int .i64 0, .int .i64 0] 26)
    simp only [stages, List.mem_cons, List.not_mem_nil, or_false] at hst
    rcases hst with rfl | rfl | rfl | rfl | rfl | rfl
    · as_aux_lemma =>
      have hB0 : Blk _ g 52 (pc (prep ⟨op, verb, count, reg, char, digits, 18, vis, rc⟩ way rec) (.slice A l.length c)) := ((hb.set_ 8 (.bool (way == 1))).set_ 9 (.bool rec)).alloc (.cells #[.int .i64 0, .int .i64 0, .int .i64 0, .int .i64 0, .int .i64 0] 26)
      rcases stV_cases r.2.1 with hv | ⟨n, hv⟩
      all_goals
        go_wp2_with (go_at_call 18; go_must (
          refine (step_any g (.slice A l.length c) _ k _ hB0 HI.out 18 rfl (by decide) r HR.out).mono ?_
          rintro e w2 ⟨rfl, hB2, hf2⟩
          rw [hv]
          have d7 : w2.cell? ⟨g, 7, none⟩ = some (stV r.1.st) := hB2.cell 7
          have e7 := hB2.frozen 7))
        go_meet
        refine ⟨rfl, ?_, ?_, ?_⟩
        · have := hB2.set_ 7 (stV r.2.1)
          rw [hv] at this
          simpa [pc, kept, hv] using this
        · have h1 := Blk.fr hR0 hf2 (by simp; omega)
          have h2 := h1.far (p := ⟨g, 7, none⟩) (Ne.symm (by simpa using hgn)) (stV r.2.1)
          rw [hv] at h2
          simpa using h2
        · exact (hF0.trans hf2).setB (g := g) (by simp) 7 _
    · as_aux_lemma =>
      have hB0 : Blk _ g 52 (pc (prep ⟨op, verb, count, reg, char, digits, 34, vis, rc⟩ way rec) (.slice A l.length c)) := ((hb.set_ 8 (.bool (way == 1))).set_ 9 (.bool rec)).alloc (.cells #[.int .i64 0, .int .i64 0, .int .i64 0, .int .i64 0, .int .i64 0] 26)
      rcases stV_cases r.2.1 with hv | ⟨n, hv⟩
      all_goals
        go_wp2_with (go_at_call 34; go_must (
          refine (step_any g (.slice A l.length c) _ k _ hB0 HI.out 34 rfl (by decide) r HR.out).mono ?_
          rintro e w2 ⟨rfl, hB2, hf2⟩
          rw [hv]
          have d7 : w2.cell? ⟨g, 7, none⟩ = some (stV r.1.st) := hB2.cell 7
          have e7 := hB2.frozen 7))
        go_meet
        refine ⟨rfl, ?_, ?_, ?_⟩
        · have := hB2.set_ 7 (stV r.2.1)
          rw [hv] at this
          simpa [pc, kept, hv] using this
        · have h1 := Blk.fr hR0 hf2 (by simp; omega)
          have h2 := h1.far (p := ⟨g, 7, none⟩) (Ne.symm (by simpa using hgn)) (stV r.2.1)
          rw [hv] at h2
          simpa using h2
        · exact (hF0.trans hf2).setB (g := g) (by simp) 7 _
    · as_aux_lemma =>
      have hB0 : Blk _ g 52 (pc (prep ⟨op, verb, count, reg, char, digits, 35, vis, rc⟩ way rec) (.slice A l.length c)) := ((hb.set_ 8 (.bool (way == 1))).set_ 9 (.bool rec)).alloc (.cells #[.int .i64 0, .int .i64 0, .int .i64 0, .int .i64 0, .int .i64 0] 26)
      rcases stV_cases r.2.1 with hv | ⟨n, hv⟩
      all_goals
        go_wp2_with (go_at_call 35; go_must (
          refine (step_any g (.slice A l.length c) _ k _ hB0 HI.out 35 rfl (by decide) r HR.out).mono ?_
          rintro e w2 ⟨rfl, hB2, hf2⟩
          rw [hv]
          have d7 : w2.cell? ⟨g, 7, none⟩ = some (stV r.1.st) := hB2.cell 7
          have e7 := hB2.frozen 7))
        go_meet
        refine ⟨rfl, ?_, ?_, ?_⟩
        · have := hB2.set_ 7 (stV r.2.1)
          rw [hv] at this
          simpa [pc, kept, hv] using this
        · have h1 := Blk.fr hR0 hf2 (by simp; omega)
          have h2 := h1.far (p := ⟨g, 7, none⟩) (Ne.symm (by simpa using hgn)) (stV r.2.1)
          rw [hv] at h2
          simpa using h2
        · exact (hF0.trans hf2).setB (g := g) (by simp) 7 _
    · as_aux_lemma =>
      have hB0 : Blk _ g 52 (pc (prep ⟨op, verb, count, reg, char, digits, 39, vis, rc⟩ way rec) (.slice A l.length c)) := ((hb.set_ 8 (.bool (way == 1))).set_ 9 (.bool rec)).alloc (.cells #[.int .i64 0, .int .i64 0, .int .i64 0, .int .i64 0, .int .i64 0] 26)
      rcases stV_cases r.2.1 with hv | ⟨n, hv⟩
      all_goals
        go_wp2_with (go_at_call 39; go_must (
          refine (step_any g (.slice A l.length c) _ k _ hB0 HI.out 39 rfl (by decide) r HR.out).mono ?_
          rintro e w2 ⟨rfl, hB2, hf2⟩
          rw [hv]
          have d7 : w2.cell? ⟨g, 7, none⟩ = some (stV r.1.st) := hB2.cell 7
          have e7 := hB2.frozen 7))
        go_meet
        refine ⟨rfl, ?_, ?_, ?_⟩
        · have := hB2.set_ 7 (stV r.2.1)
          rw [hv] at this
          simpa [pc, kept, hv] using this
        · have h1 := Blk.fr hR0 hf2 (by simp; omega)
          have h2 := h1.far (p := ⟨g, 7, none⟩) (Ne.symm (by simpa using hgn)) (stV r.2.1)
          rw [hv] at h2
          simpa using h2
        · exact (hF0.trans hf2).setB (g := g) (by simp) 7 _
    · as_aux_lemma =>
      have hB0 : Blk _ g 52 (pc (prep ⟨op, verb, count, reg, char, digits, 40, vis, rc⟩ way rec) (.slice A l.length c)) := ((hb.set_ 8 (.bool (way == 1))).set_ 9 (.bool rec)).alloc (.cells #[.int .i64 0, .int .i64 0, .int .i64 0, .int .i64 0, .int .i64 0] 26)
      rcases stV_cases r.2.1 with hv | ⟨n, hv⟩
      all_goals
        go_wp2_with (go_at_call 40; go_must (
          refine (step_any g (.slice A l.length c) _ k _ hB0 HI.out 40 rfl (by decide) r HR.out).mono ?_
          rintro e w2 ⟨rfl, hB2, hf2⟩
          rw [hv]
          have d7 : w2.cell? ⟨g, 7, none⟩ = some (stV r.1.st) := hB2.cell 7
          have e7 := hB2.frozen 7))
        go_meet
        refine ⟨rfl, ?_, ?_, ?_⟩
        · have := hB2.set_ 7 (stV r.2.1)
          rw [hv] at this
          simpa [pc, kept, hv] using this
        · have h1 := Blk.fr hR0 hf2 (by simp; omega)
          have h2 := h1.far (p := ⟨g, 7, none⟩) (Ne.symm (by simpa using hgn)) (stV r.2.1)
          rw [hv] at h2
          simpa using h2
        · exact (hF0.trans hf2).setB (g := g) (by simp) 7 _
    · as_aux_lemma =>
      have hB0 : Blk _ g 52 (pc (prep ⟨op, verb, count, reg, char, digits, 48, vis, rc⟩ way rec) (.slice A l.length c)) := ((hb.set_ 8 (.bool (way == 1))).set_ 9 (.bool rec)).alloc (.cells #[.int .i64 0, .int .i64 0, .int .i64 0, .int .i64 0, .int .i64 0] 26)
      rcases stV_cases r.2.1 with hv | ⟨n, hv⟩
      all_goals
        go_wp2_with (go_at_call 48; go_must (
          refine (step_any g (.slice A l.length c) _ k _ hB0 HI.out 48 rfl (by decide) r HR.out).mono ?_
          rintro e w2 ⟨rfl, hB2, hf2⟩
          rw [hv]
          have d7 : w2.cell? ⟨g, 7, none⟩ = some (stV r.1.st) := hB2.cell 7
          have e7 := hB2.frozen 7))
        go_meet
        refine ⟨rfl, ?_, ?_, ?_⟩
        · have := hB2.set_ 7 (stV r.2.1)
          rw [hv] at this
          simpa [pc, kept, hv] using this
        · have h1 := Blk.fr hR0 hf2 (by simp; omega)
          have h2 := h1.far (p := ⟨g, 7, none⟩) (Ne.symm (by simpa using hgn)) (stV r.2.1)
          rw [hv] at h2
          simpa using h2
        · exact (hF0.trans hf2).setB (g := g) (by simp) 7 _
  case rest =>
    obtain ⟨rfl, hB1, hR1, hf1⟩ := hcut
    have hrow0lt : ∀ j, bk A = some j → j < w.heap.size := fun j hj => hrow.lt hj
    have hrow1 := hrow.fr hf1 (.inr (by simpa using Ne.symm hgA))
    obtain ⟨Q, hQ⟩ : ∃ Q, kept r = Q := ⟨_, rfl⟩
    have HQ := Lib.hid hQ
    rw [hQ] at hB1
    clear hQ hb hrow c7 c8 c9 f7 f8 f9
    obtain ⟨op2, verb2, count2, reg2, char2, digits2, st2, vis2, rc2⟩ := Q
    have q0 : wc.cell? ⟨g, 0, none⟩ = some (.int .i64 op2) := hB1.cell 0
    have q1 : wc.cell? ⟨g, 1, none⟩ = some (.int .i64 verb2) := hB1.cell 1
    have q2 : wc.cell? ⟨g, 2, none⟩ = some (.int .i64 count2) := hB1.cell 2
    have q3 : wc.cell? ⟨g, 3, none⟩ = some (.int .i64 reg2) := hB1.cell 3
    have q4 : wc.cell? ⟨g, 4, none⟩ = some (.int .i64 char2) := hB1.cell 4
    have q6 : wc.cell? ⟨g, 6, none⟩ = some (.slice A l.length c) := hB1.cell 6
    go_wp2_with (first | (at_builtin; go_must (
      refine wpList_app _ rfl _ _ 22 3 rfl (.int .i64 0) 1 8 Try.underlying22 info3 rfl (by decide) A c l.length (ints l) rfl (hrow1.fr (Fr.alloc (Fr.refl [] wc) _) (by simp)) _ 1 1 (ints [k]) rfl rfl (sl_new wc _ 3) (ints_one _) (by simp only [maxLen]; omega) (by omega) ?_
      intro A1 ca1 w1 hr1 hg1 hb1
      have hBa := Blk.fr (hB1.alloc (.cells #[.int .i64 k] 3)) hg1 (by simpa using hgA)
      have p0 : w1.cell? ⟨g, 0, none⟩ = some (.int .i64 op2) := hBa.cell 0
      have p1 : w1.cell? ⟨g, 1, none⟩ = some (.int .i64 verb2) := hBa.cell 1
      have p2 : w1.cell? ⟨g, 2, none⟩ = some (.int .i64 count2) := hBa.cell 2
      have p3 : w1.cell? ⟨g, 3, none⟩ = some (.int .i64 reg2) := hBa.cell 3
      have p4 : w1.cell? ⟨g, 4, none⟩ = some (.int .i64 char2) := hBa.cell 4
      have p6 : w1.cell? ⟨g, 6, none⟩ = some (.slice A l.length c) := hBa.cell 6
      have pf6 := hBa.frozen 6
      have pg := hBa.lt)))
    have hL1 : (ints l ++ ints [k]).length = l.length + 1 := by simp [ints]
    have hrow3 : IRow ((w1.setCell ⟨g, 6, none⟩ (.slice A1 (l.length + 1) ca1)).alloc (.cells #[.int .i64 op2, .int .i64 verb2, .int .i64 count2, .int .i64 reg2, .int .i64 char2] 26)) 3 A1 ca1 (l ++ [k]) := by
      unfold IRow
      rw [ints_app, List.length_append]
      refine ORow.fr (S := [some g]) hr1 (((Fr.refl _ w1).setB (g := g) (by simp) 6 _).alloc _) ?_
      rcases hb1 with h | h
      · exact .inr (by rw [h]; simpa using Ne.symm hgA)
      · exact .inr (by rw [h]; have := hB1.lt; simp; omega)
    have hgA1 : some g ≠ bk A1 := by
      rcases hb1 with h | h
      · rw [h]; exact hgA
      · rw [h]; have := hB1.lt; simp; omega
    have hB3 := (hBa.set_ 6 (.slice A1 (l.length + 1) ca1)).alloc (.cells #[.int .i64 op2, .int .i64 verb2, .int .i64 count2, .int .i64 reg2, .int .i64 char2] 26)
    have hB3' : Blk ((w1.setCell ⟨g, 6, none⟩ (.slice A1 (l.length + 1) ca1)).alloc (.cells #[.int .i64 op2, .int .i64 verb2, .int .i64 count2, .int .i64 reg2, .int .i64 char2] 26)) g 52 (pc ⟨op2, verb2, count2, reg2, char2, digits2, st2, vis2, rc2⟩ (.slice A1 (l.length + 1) ca1)) := hB3
    have hnA : some w.heap.size ∉ [bk A] := by
      intro h
      simp only [List.mem_singleton] at h
      have := hrow0lt _ h.symm
      omega
    have hR3 := ((Blk.fr (hR1.alloc (.cells #[.int .i64 k] 3)) hg1 hnA).far (p := ⟨g, 6, none⟩) (Ne.symm (by simpa using hgn)) (.slice A1 (l.length + 1) ca1)).alloc (.cells #[.int .i64 op2, .int .i64 verb2, .int .i64 count2, .int .i64 reg2, .int .i64 char2] 26)
    have hC3 := Blk.new (w1.setCell ⟨g, 6, none⟩ (.slice A1 (l.length + 1) ca1)) 26 #[.int .i64 op2, .int .i64 verb2, .int .i64 count2, .int .i64 reg2, .int .i64 char2]
    have hC3' : Blk ((w1.setCell ⟨g, 6, none⟩ (.slice A1 (l.length + 1) ca1)).alloc (.cells #[.int .i64 op2, .int .i64 verb2, .int .i64 count2, .int .i64 reg2, .int .i64 char2] 26)) w1.heap.size 26 #[.int .i64 op2, .int .i64 verb2, .int .i64 count2, .int .i64 reg2, .int .i64 char2] := by simpa using hC3
    have hF3 : FrU U w0 ((w1.setCell ⟨g, 6, none⟩ (.slice A1 (l.length + 1) ca1)).alloc (.cells #[.int .i64 op2, .int .i64 verb2, .int .i64 count2, .int .i64 reg2, .int .i64 char2] 26)) := by
      have h1 := (hf0.seq hf1 (by simpa using hg0)).alloc (.cells #[.int .i64 k] 3)
      have h2 := h1.seq hg1 (by
        intro i hi
        simp only [List.mem_singleton] at hi
        exact hA i hi.symm)
      exact (h2.setB (g := g) hg0 6 _).alloc _
    have hUw : ¬ U w.heap.size := hf0.new (Nat.le_refl _)
    have hsz : w.heap.size < w1.heap.size := Nat.lt_of_lt_of_le hR1.lt (Nat.le_trans (by simp) hg1.size)
    have hA1s : bk A1 = none ∨ ∃ j, j ≠ w.heap.size ∧ bk A1 = some j := by
      rcases hb1 with h | h
      · rw [h]
        cases hbk : bk A with
        | none => exact .inl rfl
        | some j => exact .inr ⟨j, by have := hrow0lt j hbk; omega, rfl⟩
      · exact .inr ⟨_, by have := hf1.size; have := hR1.lt; simp; omega, h⟩
    have hA1 : ∀ j, bk A1 = some j → ¬ U j := by
      intro j hj
      rcases hb1 with h | h
      · exact hA j (by rw [← h]; exact hj)
      · rw [h] at hj
        injection hj with hj
        have := hf1.size
        exact hf0.new (by subst hj; simp; omega)
    have hdg : r.1.digits = digits2 := congrArg PS.digits HQ.out
    have hct : r.1.count = count2 := congrArg PS.count HQ.out
    have ho := HO.out
    unfold Ok at ho
    rw [hdg, hct] at ho
    obtain ⟨o0, o1, o2, o3⟩ := ho
    clear hdg hct hBa p0 p1 p2 p3 p4 p6 pf6 q0 q1 q2 q3 q4 q6 hr1 hB1 hR1 hC3 hB3 hf1 hg1 hrow1 hL1
    generalize hW3 : ((w1.setCell ⟨g, 6, none⟩ (.slice A1 (l.length + 1) ca1)).alloc (.cells #[.int .i64 op2, .int .i64 verb2, .int .i64 count2, .int .i64 reg2, .int .i64 char2] 26)) = w3 at *
    clear hW3
    have hgw : g ≠ w1.heap.size := by omega
    cases hov : overB ⟨op2, verb2, count2, reg2, char2, digits2, st2, vis2, rc2⟩ with
    | true =>
      have HT : Hid (told r = (Zero5, 2, 5)) := by show _ = _; unfold told; rw [HQ.out, if_pos hov]
      have HL : Hid (left r (l ++ [k]) = (P0, [])) := by show _ = _; unfold left; rw [HQ.out, if_pos (.inl hov)]
      have HV := Lib.hid hov
      clear hov
      go_wp2_with (first
        | (go_at_call 19; go_must (
            refine (over_any g _ op2 verb2 count2 reg2 char2 digits2 st2 vis2 rc2 _ hB3' o0 o1 o2 o3 true HV.out).mono ?_
            rintro e w4 ⟨rfl, hf4⟩
            have hB4 := Blk.fr hB3' hf4 (by simp)
            have hR4 := Blk.fr hR3 hf4 (by simp)
            have hC4 := Blk.fr hC3' hf4 (by simp)))
        | (go_at_call 13; go_must (
            refine (reset_any g _ rfl op2 verb2 count2 reg2 char2 digits2 st2 vis2 rc2 _ hB4).mono ?_
            rintro e w5 ⟨rfl, hB5, hf5⟩
            have hR5 := Blk.fr hR4 hf5 (by simp; omega)
            have hC5 := Blk.fr hC4 hf5 (by simp; omega)
            have d0 : w5.cell? ⟨w.heap.size, 0, none⟩ = some (.int .i64 0) := hR5.cell 0
            have e0 : w5.frozen? ⟨w.heap.size, 0, none⟩ = false := hR5.frozen 0
            have d1 : w5.cell? ⟨w.heap.size, 1, none⟩ = some (.int .i64 0) := hR5.cell 1
            have e1 : w5.frozen? ⟨w.heap.size, 1, none⟩ = false := hR5.frozen 1
            have d2 : w5.cell? ⟨w.heap.size, 2, none⟩ = some (.int .i64 0) := hR5.cell 2
            have e2 : w5.frozen? ⟨w.heap.size, 2, none⟩ = false := hR5.frozen 2
            have d3 : w5.cell? ⟨w.heap.size, 3, none⟩ = some (.int .i64 0) := hR5.cell 3
            have e3 : w5.frozen? ⟨w.heap.size, 3, none⟩ = false := hR5.frozen 3
            have d4 : w5.cell? ⟨w.heap.size, 4, none⟩ = some (.int .i64 0) := hR5.cell 4
            have e4 : w5.frozen? ⟨w.heap.size, 4, none⟩ = false := hR5.frozen 4)))
      refine bodyPost_ret (v := .tuple #[.agg #[.int .i64 0, .int .i64 0, .int .i64 0, .int .i64 0, .int .i64 0], .int .i64 2, .int .i64 5]) (by simp [results, Try.results8, go_sem, d0, d1, d2, d3, d4]) rfl ⟨by first | (rw [HT.out]; done) | (rw [HT.out]; rfl), ?_⟩
      rw [HL.out]
      exact ⟨(((((((hF3.trans hf4).seq hf5 (by simpa using hg0)).setB (g := w.heap.size) hUw 0 _).setB (g := w.heap.size) hUw 1 _).setB (g := w.heap.size) hUw 2 _).setB (g := w.heap.size) hUw 3 _).setB (g := w.heap.size) hUw 4 _), hg0, none, 0, (((((hB5.far hgn _).far hgn _).far hgn _).far hgn _).far hgn _), IRow.nil_ _ _, by simp [bk], by simp [bk]⟩
    | false =>
      have HV := Lib.hid hov
      have hso := HS.out
      by_cases hw1 : r.2.2 = 1
      · have HT : Hid (told r = ([.int .i64 op2, .int .i64 verb2, .int .i64 count2, .int .i64 reg2, .int .i64 char2], 1, 0)) := by show _ = _; unfold told; rw [HQ.out, if_neg (by rw [hov]; decide), if_pos hw1]; rfl
        have HL : Hid (left r (l ++ [k]) = (P0, [])) := by show _ = _; unfold left; rw [HQ.out, if_pos (.inr (.inl hw1))]
        have hb1 : (r.2.2 == 1) = true := beq_iff_eq.2 hw1
        clear hov hw1 hso
        go_wp2_with (first
          | (go_at_call 19; go_must (
              refine (over_any g _ op2 verb2 count2 reg2 char2 digits2 st2 vis2 rc2 _ hB3' o0 o1 o2 o3 false HV.out).mono ?_
              rintro e w4 ⟨rfl, hf4⟩
              have hB4 := Blk.fr hB3' hf4 (by simp)
              have hR4 := Blk.fr hR3 hf4 (by simp)
              have hC4 := Blk.fr hC3' hf4 (by simp)))
          | (go_at_call 13; go_must (
              refine (reset_any g _ rfl op2 verb2 count2 reg2 char2 digits2 st2 vis2 rc2 _ hB4).mono ?_
              rintro e w5 ⟨rfl, hB5, hf5⟩
              have hR5 := Blk.fr hR4 hf5 (by simp; omega)
              have hC5 := Blk.fr hC4 hf5 (by simp; omega)
              have d0 : w5.cell? ⟨w.heap.size, 0, none⟩ = some (.int .i64 0) := hR5.cell 0
              have e0 : w5.frozen? ⟨w.heap.size, 0, none⟩ = false := hR5.frozen 0
              have d1 : w5.cell? ⟨w.heap.size, 1, none⟩ = some (.int .i64 0) := hR5.cell 1
              have e1 : w5.frozen? ⟨w.heap.size, 1, none⟩ = false := hR5.frozen 1
              have d2 : w5.cell? ⟨w.heap.size, 2, none⟩ = some (.int .i64 0) := hR5.cell 2
              have e2 : w5.frozen? ⟨w.heap.size, 2, none⟩ = false := hR5.frozen 2
              have d3 : w5.cell? ⟨w.heap.size, 3, none⟩ = some (.int .i64 0) := hR5.cell 3
              have e3 : w5.frozen? ⟨w.heap.size, 3, none⟩ = false := hR5.frozen 3
              have d4 : w5.cell? ⟨w.heap.size, 4, none⟩ = some (.int .i64 0) := hR5.cell 4
              have e4 : w5.frozen? ⟨w.heap.size, 4, none⟩ = false := hR5.frozen 4
              have m0 : w5.cell? ⟨w1.heap.size, 0, none⟩ = some (.int .i64 op2) := hC5.cell 0
              have m1 : w5.cell? ⟨w1.heap.size, 1, none⟩ = some (.int .i64 verb2) := hC5.cell 1
              have m2 : w5.cell? ⟨w1.heap.size, 2, none⟩ = some (.int .i64 count2) := hC5.cell 2
              have m3 : w5.cell? ⟨w1.heap.size, 3, none⟩ = some (.int .i64 reg2) := hC5.cell 3
              have m4 : w5.cell? ⟨w1.heap.size, 4, none⟩ = some (.int .i64 char2) := hC5.cell 4)))
        refine bodyPost_ret (v := .tuple #[.agg #[.int .i64 op2, .int .i64 verb2, .int .i64 count2, .int .i64 reg2, .int .i64 char2], .int .i64 1, .int .i64 0]) (by simp [results, Try.results8, go_sem, d0, d1, d2, d3, d4]) rfl ⟨by first | (rw [HT.out]; done) | (rw [HT.out]; rfl), ?_⟩
        rw [HL.out]
        exact ⟨(((((((hF3.trans hf4).seq hf5 (by simpa using hg0)).setB (g := w.heap.size) hUw 0 _).setB (g := w.heap.size) hUw 1 _).setB (g := w.heap.size) hUw 2 _).setB (g := w.heap.size) hUw 3 _).setB (g := w.heap.size) hUw 4 _), hg0, none, 0, (((((hB5.far hgn _).far hgn _).far hgn _).far hgn _).far hgn _), IRow.nil_ _ _, by simp [bk], by simp [bk]⟩
      · have hb1 : (r.2.2 == 1) = false := beq_eq_false_iff_ne.2 hw1
        by_cases hw2 : r.2.2 = 2
        · have HT : Hid (told r = (Zero5, 2, 10)) := by show _ = _; unfold told; rw [HQ.out, if_neg (by rw [hov]; decide), if_neg hw1, if_pos hw2]
          have HL : Hid (left r (l ++ [k]) = (P0, [])) := by show _ = _; unfold left; rw [HQ.out, if_pos (.inr (.inr hw2))]
          have hb2 : (r.2.2 == 2) = true := beq_iff_eq.2 hw2
          clear hov hw1 hw2 hso
          go_wp2_with (first
            | (go_at_call 19; go_must (
                refine (over_any g _ op2 verb2 count2 reg2 char2 digits2 st2 vis2 rc2 _ hB3' o0 o1 o2 o3 false HV.out).mono ?_
                rintro e w4 ⟨rfl, hf4⟩
                have hB4 := Blk.fr hB3' hf4 (by simp)
                have hR4 := Blk.fr hR3 hf4 (by simp)
                have hC4 := Blk.fr hC3' hf4 (by simp)))
            | (go_at_call 13; go_must (
                refine (reset_any g _ rfl op2 verb2 count2 reg2 char2 digits2 st2 vis2 rc2 _ hB4).mono ?_
                rintro e w5 ⟨rfl, hB5, hf5⟩
                have hR5 := Blk.fr hR4 hf5 (by simp; omega)
                have hC5 := Blk.fr hC4 hf5 (by simp; omega)
                have d0 : w5.cell? ⟨w.heap.size, 0, none⟩ = some (.int .i64 0) := hR5.cell 0
                have e0 : w5.frozen? ⟨w.heap.size, 0, none⟩ = false := hR5.frozen 0
                have d1 : w5.cell? ⟨w.heap.size, 1, none⟩ = some (.int .i64 0) := hR5.cell 1
                have e1 : w5.frozen? ⟨w.heap.size, 1, none⟩ = false := hR5.frozen 1
                have d2 : w5.cell? ⟨w.heap.size, 2, none⟩ = some (.int .i64 0) := hR5.cell 2
                have e2 : w5.frozen? ⟨w.heap.size, 2, none⟩ = false := hR5.frozen 2
                have d3 : w5.cell? ⟨w.heap.size, 3, none⟩ = some (.int .i64 0) := hR5.cell 3
                have e3 : w5.frozen? ⟨w.heap.size, 3, none⟩ = false := hR5.frozen 3
                have d4 : w5.cell? ⟨w.heap.size, 4, none⟩ = some (.int .i64 0) := hR5.cell 4
                have e4 : w5.frozen? ⟨w.heap.size, 4, none⟩ = false := hR5.frozen 4)))
          refine bodyPost_ret (v := .tuple #[.agg #[.int .i64 0, .int .i64 0, .int .i64 0, .int .i64 0, .int .i64 0], .int .i64 2, .int .i64 10]) (by simp [results, Try.results8, go_sem, d0, d1, d2, d3, d4]) rfl ⟨by first | (rw [HT.out]; done) | (rw [HT.out]; rfl), ?_⟩
          rw [HL.out]
          exact ⟨(((((((hF3.trans hf4).seq hf5 (by simpa using hg0)).setB (g := w.heap.size) hUw 0 _).setB (g := w.heap.size) hUw 1 _).setB (g := w.heap.size) hUw 2 _).setB (g := w.heap.size) hUw 3 _).setB (g := w.heap.size) hUw 4 _), hg0, none, 0, (((((hB5.far hgn _).far hgn _).far hgn _).far hgn _).far hgn _), IRow.nil_ _ _, by simp [bk], by simp [bk]⟩
        · have HT : Hid (told r = (Zero5, 0, 0)) := by show _ = _; unfold told; rw [HQ.out, if_neg (by rw [hov]; decide), if_neg hw1, if_neg hw2]
          have HL : Hid (left r (l ++ [k]) = (⟨op2, verb2, count2, reg2, char2, digits2, st2, vis2, rc2⟩, l ++ [k])) := by show _ = _; unfold left; rw [HQ.out, if_neg (by rw [hov]; simp [hw1, hw2])]
          have hb2 : (r.2.2 == 2) = false := beq_eq_false_iff_ne.2 hw2
          clear hov hw1 hw2 hso
          go_wp2_with (first
            | (go_at_call 19; go_must (
                refine (over_any g _ op2 verb2 count2 reg2 char2 digits2 st2 vis2 rc2 _ hB3' o0 o1 o2 o3 false HV.out).mono ?_
                rintro e w4 ⟨rfl, hf4⟩
                have hB4 := Blk.fr hB3' hf4 (by simp)
                have hR4 := Blk.fr hR3 hf4 (by simp)
                have hC4 := Blk.fr hC3' hf4 (by simp)
                have d0 : w4.cell? ⟨w.heap.size, 0, none⟩ = some (.int .i64 0) := hR4.cell 0
                have e0 : w4.frozen? ⟨w.heap.size, 0, none⟩ = false := hR4.frozen 0
                have d1 : w4.cell? ⟨w.heap.size, 1, none⟩ = some (.int .i64 0) := hR4.cell 1
                have e1 : w4.frozen? ⟨w.heap.size, 1, none⟩ = false := hR4.frozen 1
                have d2 : w4.cell? ⟨w.heap.size, 2, none⟩ = some (.int .i64 0) := hR4.cell 2
                have e2 : w4.frozen? ⟨w.heap.size, 2, none⟩ = false := hR4.frozen 2
                have d3 : w4.cell? ⟨w.heap.size, 3, none⟩ = some (.int .i64 0) := hR4.cell 3
                have e3 : w4.frozen? ⟨w.heap.size, 3, none⟩ = false := hR4.frozen 3
                have d4 : w4.cell? ⟨w.heap.size, 4, none⟩ = some (.int .i64 0) := hR4.cell 4
                have e4 : w4.frozen? ⟨w.heap.size, 4, none⟩ = false := hR4.frozen 4)))
          refine bodyPost_ret (v := .tuple #[.agg #[.int .i64 0, .int .i64 0, .int .i64 0, .int .i64 0, .int .i64 0], .int .i64 0, .int .i64 0]) (by simp [results, Try.results8, go_sem, d0, d1, d2, d3, d4]) rfl ⟨by first | (rw [HT.out]; done) | (rw [HT.out]; rfl), ?_⟩
          rw [HL.out]
          refine ⟨((((((hF3.trans hf4).setB (g := w.heap.size) hUw 0 _).setB (g := w.heap.size) hUw 1 _).setB (g := w.heap.size) hUw 2 _).setB (g := w.heap.size) hUw 3 _).setB (g := w.heap.size) hUw 4 _), hg0, A1, ca1, ?_, (hrow3.fr hf4 (by simp)).fr (S := [some w.heap.size]) ((((((Fr.refl _ w4).setB (g := w.heap.size) (by simp) 0 _).setB (g := w.heap.size) (by simp) 1 _).setB (g := w.heap.size) (by simp) 2 _).setB (g := w.heap.size) (by simp) 3 _).setB (g := w.heap.size) (by simp) 4 _) ?_, hgA1, hA1⟩
          · rw [List.length_append]
            exact (((((hB4.far hgn _).far hgn _).far hgn _).far hgn _).far hgn _)
          · rcases hA1s with h | ⟨j, hj, h⟩
            · exact .inl h
            · exact .inr (by rw [h]; simp; omega)
end Go.Proofs.Ythhkannmeljfkaa
