import Derived.Test.YtgmnjbnlfpopgaaK11
import Derived.IntWalk
namespace Go.Proofs.Ytgmnjbnlfpopgaa
open Go.RowKit Go.Proofs.Dm

/-- Rows of the document's runs: the last one may grow. -/
def RRok (w wr : World) (Ao : Option Addr) (D : List Rw) (l : Rw) : Prop :=
  IRow wr 3 l.A l.c l.xs ∧ (∀ j, bk l.A = some j → w.heap.size ≤ j ∧ bk Ao ≠ some j) ∧ ∀ r ∈ D, ROK w wr Ao r ∧ (bk r.A = none ∨ bk r.A ≠ bk l.A)
theorem rows_app_cells (D : List Rw) (r : Rw) : (D ++ [r]).map Rw.cell = D.map Rw.cell ++ [r.cell] := by simp
theorem set_last (D : List Rw) (r r' : Rw) : ((D ++ [r]).map Rw.cell).set D.length r'.cell = (D ++ [r']).map Rw.cell := by simp
def nilRw : Rw := ⟨none, 0, []⟩
/-- The last row has grown by one thing, and is laid back. -/
theorem rr_next {w W0 w5 : World} {bo co n : Nat} {D : List Rw} {r : Rw} {x : Int} {A5 : Option Addr} {c5 : Nat} (hO : ORow W0 22 1 (some ⟨bo, 0, none⟩) co (D.length + 1) ((D ++ [r]).map Rw.cell)) (hR : RRok w W0 (some ⟨bo, 0, none⟩) D r) (hF : Fr [] w W0) (hbo : w.heap.size ≤ bo)
    (o : Obj) (hr5 : ORow w5 3 1 A5 c5 n (ints r.xs ++ ints [x])) (hn : n = r.xs.length + 1) (hg5 : Fr [bk r.A] (W0.alloc o) w5) (hb5 : bk A5 = bk r.A ∨ bk A5 = some (W0.alloc o).heap.size) :
    ORow (w5.setCell ⟨bo, D.length, none⟩ (.slice A5 n c5)) 22 1 (some ⟨bo, 0, none⟩) co (D.length + 1) ((D ++ [(⟨A5, c5, r.xs ++ [x]⟩ : Rw)]).map Rw.cell) ∧ RRok w (w5.setCell ⟨bo, D.length, none⟩ (.slice A5 n c5)) (some ⟨bo, 0, none⟩) D ⟨A5, c5, r.xs ++ [x]⟩ ∧ Fr [] w (w5.setCell ⟨bo, D.length, none⟩ (.slice A5 n c5)) := by
  obtain ⟨h1, h2, h3⟩ := hR
  have hbl : bo < W0.heap.size := hO.lt rfl
  have hra : bk r.A ≠ some bo := fun h => (h2 bo h).2 rfl
  have hf5 : Fr [bk r.A] W0 w5 := ((Fr.refl [bk r.A] W0).alloc o).trans hg5
  have hO5 := hO.fr hf5 (.inr (by show some bo ∉ [bk r.A]; simpa using Ne.symm hra))
  have h5o : bk A5 ≠ some bo := by
    rcases hb5 with h | h
    · rw [h]; exact hra
    · rw [h]; simp; omega
  have hFb : Fr [some bo] w5 (w5.setCell ⟨bo, D.length, none⟩ (.slice A5 n c5)) := (Fr.refl _ w5).setB (g := bo) (by simp) _ _
  have hF5 : Fr [] w w5 := hF.seq hf5 (by
    intro y hy
    simp at hy; subst hy
    cases hb : bk r.A with
    | none => exact .inr (.inl rfl)
    | some j => exact .inr (.inr ⟨j, (h2 j hb).1, rfl⟩))
  have hsz : W0.heap.size ≤ w5.heap.size := hf5.size
  have hw5 : w5.heap.size ≤ (w5.setCell ⟨bo, D.length, none⟩ (.slice A5 n c5)).heap.size := hFb.size
  have hnot : ∀ B : Option Addr, bk B ≠ some bo → bk B = none ∨ bk B ∉ [some bo] := fun B h => .inr (by simpa using h)
  refine ⟨?_, ⟨?_, ?_, ?_⟩, hF5.seq hFb (by intro y hy; simp at hy; subst hy; exact .inr (.inr ⟨_, hbo, rfl⟩))⟩
  · have := (World.ownsRow.stored hO5 D.length (.slice A5 n c5)).1
    have e := set_last D r ⟨A5, c5, r.xs ++ [x]⟩
    have e2 : (⟨A5, c5, r.xs ++ [x]⟩ : Rw).cell = .slice A5 n c5 := by simp [Rw.cell, hn]
    rw [e2] at e
    rw [e] at this
    exact this
  · have : IRow w5 3 A5 c5 (r.xs ++ [x]) := by
      subst hn
      rw [← ints_app] at hr5
      unfold IRow
      rw [List.length_append]
      exact hr5
    exact this.fr hFb (hnot _ h5o)
  · intro j hj
    rcases hb5 with h | h
    · obtain ⟨a, b⟩ := h2 j (h ▸ hj)
      exact ⟨a, b⟩
    · have hj2 := hj
      rw [h] at hj; injection hj with hj
      simp at hj
      have := hF.size
      exact ⟨by omega, by simp [bk]; omega⟩
  · intro q hq
    obtain ⟨⟨g1, g2, g3⟩, g4⟩ := h3 q hq
    have hqr : bk q.A = none ∨ bk q.A ∉ [bk r.A] := by
      rcases g4 with h | h
      · exact .inl h
      · exact .inr (by simpa using h)
    have hqo : bk q.A ≠ some bo := fun h => (g2 bo h).2.2 rfl
    refine ⟨⟨(g1.fr hf5 hqr).fr hFb (hnot _ hqo), fun j hj => ?_, g3⟩, ?_⟩
    · obtain ⟨k1, k2, k3⟩ := g2 j hj
      exact ⟨k1, by omega, k3⟩
    · show bk q.A = none ∨ bk q.A ≠ bk A5
      rcases hb5 with h | h
      · rw [h]; exact g4
      · cases hb : bk q.A with
        | none => exact .inl rfl
        | some j =>
          right
          rw [h]
          have := (g2 j hb).2.1
          simp; omega
/-- A row of nothing stands behind all. -/
theorem rr_new {w W0 w3 : World} {Ao A3 : Option Addr} {co c3 : Nat} {D : List Rw} {r : Rw} (o : Obj) (hO : ORow W0 22 1 Ao co (D.length + 1) ((D ++ [r]).map Rw.cell)) (hR : RRok w W0 Ao D r) (hF : Fr [] w W0) (hA : ∀ j, bk Ao = some j → w.heap.size ≤ j)
    (hr3 : ORow w3 22 1 A3 c3 (D.length + 1 + 1) ((D ++ [r]).map Rw.cell ++ [.slice none 0 0])) (hg3 : Fr [bk Ao] (W0.alloc o) w3) (hb3 : bk A3 = bk Ao ∨ bk A3 = some (W0.alloc o).heap.size) :
    ORow w3 22 1 A3 c3 ((D ++ [r]).length + 1) (((D ++ [r]) ++ [nilRw]).map Rw.cell) ∧ RRok w w3 A3 (D ++ [r]) nilRw ∧ Fr [] w w3 ∧ ∀ j, bk A3 = some j → w.heap.size ≤ j := by
  obtain ⟨h1, h2, h3⟩ := hR
  have hf3 : Fr [bk Ao] W0 w3 := ((Fr.refl [bk Ao] W0).alloc o).trans hg3
  have hsz : W0.heap.size ≤ w3.heap.size := hf3.size
  have hall : ∀ q ∈ D ++ [r], ROK w w3 A3 q := by
    intro q hq
    have hq1 : ROK w W0 Ao q := by
      rcases List.mem_append.1 hq with hq | hq
      · exact (h3 q hq).1
      · rw [List.mem_singleton] at hq
        subst hq
        exact ⟨h1.sl, fun j hj => ⟨(h2 j hj).1, h1.lt hj, (h2 j hj).2⟩, ORow.cap h1⟩
    obtain ⟨g1, g2, g3⟩ := hq1
    refine ⟨g1.fr hf3 ?_, fun j hj => ?_, g3⟩
    · cases hb : bk q.A with
      | none => exact .inl rfl
      | some j => exact .inr (by have := (g2 j hb).2.2; simpa using Ne.symm this)
    · obtain ⟨k1, k2, k3⟩ := g2 j hj
      refine ⟨k1, by omega, ?_⟩
      rcases hb3 with h | h
      · rw [h]; exact k3
      · rw [h]; simp; omega
  refine ⟨?_, ⟨IRow.nil_ _ _, (by intro j hj; cases hj), fun q hq => ⟨hall q hq, by cases hb : bk q.A with | none => exact .inl rfl | some j => exact .inr (by simp [nilRw, bk])⟩⟩, hF.seq hf3 ?_, ?_⟩
  · rw [rows_app_cells, List.length_append]
    exact hr3
  · intro y hy
    simp at hy; subst hy
    cases hb : bk Ao with
    | none => exact .inr (.inl rfl)
    | some j => exact .inr (.inr ⟨j, hA j hb, rfl⟩)
  · intro j hj
    rcases hb3 with h | h
    · exact hA j (h ▸ hj)
    · rw [h] at hj; injection hj with hj; simp at hj; have := hF.size; omega

set_option maxRecDepth 100000 in
set_option maxHeartbeats 3200000 in
theorem rruns_any (A : Option Addr) (c : Nat) (l : List Int) (w : World) (hs : Sl w A (ints l)) (hn : l.length ≤ 10000) (hd : ∀ y ∈ l, ten y) :
    Calls Try.prog 13 #[.slice A l.length c] w (RowsAns w (runsP tens l)) := by
  have HD := Lib.hid hd
  clear hd
  go_enter Try.func13, Try.ntmps13
  go_wp2_with fail
  go_loopw [8, 3] (fun iv ov wr => ∃ (i : Nat) (Ao : Option Addr) (co n : Nat), iv = .int .i64 i ∧ ov = .slice Ao n co ∧ i ≤ l.length ∧ n ≤ i ∧ Fr [] w wr ∧ Hid (∀ j, bk Ao = some j → w.heap.size ≤ j) ∧
    ((i = 0 ∧ n = 0 ∧ Ao = none ∧ co = 0) ∨ ∃ (D : List Rw) (r : Rw), 0 < i ∧ n = D.length + 1 ∧ ORow wr 22 1 Ao co (D.length + 1) ((D ++ [r]).map Rw.cell) ∧ Hid (RRok w wr Ao D r) ∧ Hid ((D.map (·.xs), r.xs) = runsAt tens l i))) (fun iv _ _ => l.length - (intOf iv).toNat)
  case atStart => exact ⟨0, none, 0, 0, rfl, rfl, Nat.zero_le _, Nat.le_refl _, Fr.refl _ _, (fun j hj => by cases hj), .inl ⟨rfl, rfl, rfl, rfl⟩⟩
  case round =>
    obtain ⟨i, Ao, co, n, rfl, rfl, hi, hni, hF, HA, hst⟩ := hrel
    by_cases hlt : i < l.length
    · obtain ⟨ad, rfl, hci⟩ := sl_ints (hs.fr hF (.inr List.not_mem_nil)) hlt
      have hdx : ten (l.getD i 0) := HD.out _ (by rw [List.getD_eq_getElem?_getD, List.getElem?_eq_getElem hlt]; exact List.getElem_mem hlt)
      obtain ⟨x, hx⟩ : ∃ x, x = l.getD i 0 := ⟨_, rfl⟩
      rw [← hx] at hci hdx
      rcases hst with ⟨rfl, rfl, rfl, rfl⟩ | ⟨D, r, hi0, rfl, hO, HR, HRA⟩
      · have hra1 : runsAt tens l 1 = ([], [x]) := by rw [hx]; rfl
        have HRB := Lib.hid hra1
        clear hx hdx hra1 hs
        have q4 : (0 : Int) < (l.length : Int) := by omega
        have hci0 : wr.cell? ad = some (.int .i64 x) := by simpa [Addr.add] using hci
        go_wp2_with (first | (at_builtin; (
          refine wpList_app _ rfl (.tmp 25) (.tmp 26) 23 22 rfl (.slice none 0 0) 1 24 Try.underlying23 info22 rfl (by decide) none 0 0 [] rfl (ORow.nil_ _ _ _) _ 1 1 [.slice none 0 0] rfl rfl (sl_new wr _ 22) (by simp [Value.oneCell']) (by decide) (by decide) ?_
          intro A3 c3 w3 hr3 hg3 hb3
          have hF1 : Fr [] w w3 := (hF.alloc _).seq hg3 (by intro y hy; simp [bk] at hy; exact .inr (.inl hy))
          have HA1 : Hid (∀ j, bk A3 = some j → w.heap.size ≤ j) := by
            show ∀ _, _
            intro j hj
            rcases hb3 with h | h
            · rw [h] at hj; cases hj
            · rw [h] at hj; injection hj with hj; simp at hj; have := hF.size; omega
          have hO2 : ORow w3 22 1 A3 c3 (([] : List Rw).length + 1) ((([] : List Rw) ++ [nilRw]).map Rw.cell) := hr3
          have HR1 : Hid (RRok w w3 A3 [] nilRw) := ⟨IRow.nil_ _ _, (by intro j hj; cases hj), fun q hq => by simp at hq⟩
          obtain ⟨bo, rfl⟩ := orow_some hO2 (by simp)
          have hbo : w.heap.size ≤ bo := HA1.out bo rfl
          have hco : w3.cell? ⟨bo, 0, none⟩ = some (.slice none 0 0) := by
            rw [World.ownsRow.cellAt hO2 _ (by simp)]; rfl
          have hfo : w3.frozen? ⟨bo, 0, none⟩ = false := World.ownsRow.frozenAt hO2 _
          clear hr3 hg3 hb3)) | (at_builtin; go_must (
          refine wpList_app _ rfl (.tmp 37) (.tmp 39) 22 3 rfl (.int .i64 0) 1 8 Try.underlying22 info3 rfl (by decide) none 0 0 (ints []) rfl (ORow.nil_ _ _ _) _ 1 1 (ints [x]) rfl rfl (sl_new w3 _ 3) (ints_one _) (by simp only [maxLen]; omega) (by omega) ?_
          intro A5 c5 w5 hr5 hg5 hb5
          have hg55 : Fr [bk none] w3 w5 := ((Fr.refl [bk none] w3).alloc _).trans hg5
          have hO5 := hO2.fr hg55 (.inr (by simp [bk]))
          have hco5 : w5.cell? ⟨bo, 0, none⟩ = some (.slice none 0 0) := by
            rw [World.ownsRow.cellAt hO5 _ (by simp)]; rfl
          have hfo5 : w5.frozen? ⟨bo, 0, none⟩ = false := World.ownsRow.frozenAt hO5 _
          clear hco hfo)))
        go_roundw
        case rel =>
          obtain ⟨k1, k2, k3⟩ := rr_next (n := 0 + 1) hO2 HR1.out hF1 hbo _ hr5 rfl hg5 hb5
          exact ⟨1, some ⟨bo, 0, none⟩, c3, 1, rfl, rfl, by omega, by omega, k3, HA1.out, .inr ⟨[], _, by omega, rfl, k1, k2, HRB.out.symm⟩⟩
        case measure => simp [intOf]; omega
      · obtain ⟨j, hj⟩ : ∃ j, i = j + 1 := ⟨i - 1, by omega⟩
        have hcj := sl_add (hs.fr hF (.inr List.not_mem_nil)) j (by omega)
        have hdy : ten (l.getD j 0) := HD.out _ (by rw [List.getD_eq_getElem?_getD, List.getElem?_eq_getElem (show j < l.length by omega)]; exact List.getElem_mem _)
        have hra1 : runsAt tens l (i + 1) = if tens (l.getD j 0) ≤ tens x then (D.map (·.xs), r.xs ++ [x]) else (D.map (·.xs) ++ [r.xs], [x]) := by
          show (if i = 0 then _ else _) = _
          rw [if_neg (by omega), ← HRA.out, ← hx, show i - 1 = j by omega]
        obtain ⟨y, hy⟩ : ∃ y, y = l.getD j 0 := ⟨_, rfl⟩
        rw [← hy] at hcj hdy hra1
        obtain ⟨sg, hsg⟩ : ∃ sg, sg = sgn (tens y) (tens x) := ⟨_, rfl⟩
        have hcm : ∀ w, Calls Try.prog 12 #[.int .i64 y, .int .i64 x] w fun e w' => e = .returned (.int .i64 sg) ∧ w = w' := fun w => by rw [hsg]; exact (compare_any y x w hdy.1 hdy.2 hdx.1 hdx.2).mono fun e w' ⟨a, b⟩ => ⟨a, b.symm⟩
        have HSG : Hid (0 < sg ↔ ¬ tens y ≤ tens x) := by
          show _ ↔ _
          rw [hsg]; unfold sgn
          split
          · omega
          · split <;> omega
        have q2 : (i : Int) - 1 = (j : Int) := by omega
        have q3 : ((i : Int) == 0) = false := by simp; omega
        have q4 : (j : Int) < (l.length : Int) := by omega
        have HX := Lib.hid hra1
        have HCM := Lib.hid hcm
        clear hx hy hsg hra1 hdx hdy hcm hj hs
        go_wp2_with fail
        refine (HCM.out _).mono ?_
        rintro e w1 ⟨rfl, rfl⟩
        by_cases h0 : 0 < sg
        · have hk : ¬ tens y ≤ tens x := by have := HSG.out; omega
          have hra2 : runsAt tens l (i + 1) = (D.map (·.xs) ++ [r.xs], [x]) := by rw [HX.out, if_neg hk]
          have HRB := Lib.hid hra2
          have hDl : D.length + 1 ≤ 10000 := by omega
          have H0 := Lib.hid hO
          clear hk hra2 hcj hci
          go_wp2_with (first | (at_builtin; (
            refine wpList_app _ rfl (.tmp 25) (.tmp 26) 23 22 rfl (.slice none 0 0) 1 24 Try.underlying23 info22 rfl (by decide) Ao co (D.length + 1) ((D ++ [r]).map Rw.cell) rfl (hO.fr (Fr.alloc (Fr.refl [] wr) _) (.inr List.not_mem_nil)) _ 1 1 [.slice none 0 0] rfl rfl (sl_new wr _ 22) (by simp [Value.oneCell']) (by simp only [maxLen]; omega) (by omega) ?_
            intro A3 c3 w3 hr3 hg3 hb3
            obtain ⟨hO2, hR2, hF1, hA1⟩ := rr_new _ H0.out HR.out hF HA.out hr3 hg3 hb3
            have hdl : (D ++ [r]).length = D.length + 1 := by simp
            rw [hdl] at hO2
            obtain ⟨bo, rfl⟩ := orow_some hO2 (by simp)
            have hbo : w.heap.size ≤ bo := hA1 bo rfl
            have hco : w3.cell? ⟨bo, D.length + 1, none⟩ = some (.slice none 0 0) := by
              rw [World.ownsRow.cellAt hO2 _ (by omega)]; simp [Rw.cell, nilRw]
            have hfo : w3.frozen? ⟨bo, D.length + 1, none⟩ = false := World.ownsRow.frozenAt hO2 _
            have HA1 := Lib.hid hA1
            have HR1 := Lib.hid hR2
            have HDL := Lib.hid hdl
            clear hO hr3 hg3 hb3 hA1 hR2 hdl)) | (at_builtin; go_must (
            refine wpList_app _ rfl (.tmp 37) (.tmp 39) 22 3 rfl (.int .i64 0) 1 8 Try.underlying22 info3 rfl (by decide) none 0 0 (ints []) rfl (ORow.nil_ _ _ _) _ 1 1 (ints [x]) rfl rfl (sl_new w3 _ 3) (ints_one _) (by simp only [maxLen]; omega) (by omega) ?_
            intro A5 c5 w5 hr5 hg5 hb5
            have hg55 : Fr [bk none] w3 w5 := ((Fr.refl [bk none] w3).alloc _).trans hg5
            have hO5 := hO2.fr hg55 (.inr (by simp [bk]))
            have hco5 : w5.cell? ⟨bo, D.length + 1, none⟩ = some (.slice none 0 0) := by
              rw [World.ownsRow.cellAt hO5 _ (by omega)]; simp [Rw.cell, nilRw]
            have hfo5 : w5.frozen? ⟨bo, D.length + 1, none⟩ = false := World.ownsRow.frozenAt hO5 _
            clear hco hfo)))
          go_roundw
          case rel =>
            have hO3 : ORow w3 22 1 (some ⟨bo, 0, none⟩) c3 ((D ++ [r]).length + 1) (((D ++ [r]) ++ [nilRw]).map Rw.cell) := by rw [HDL.out]; exact hO2
            obtain ⟨k1, k2, k3⟩ := rr_next (n := 0 + 1) hO3 HR1.out hF1 hbo _ hr5 rfl hg5 hb5
            rw [HDL.out] at k1 k2 k3
            refine ⟨i + 1, some ⟨bo, 0, none⟩, c3, D.length + 1 + 1, by go_num, rfl, by omega, by omega, k3, HA1.out, .inr ⟨D ++ [r], _, by omega, by rw [HDL.out], by rw [HDL.out]; exact k1, k2, ?_⟩⟩
            show _ = _
            rw [HRB.out]
            simp [nilRw]
          case measure => simp [intOf]; omega
        · have hk : tens y ≤ tens x := by
            by_cases h : tens y ≤ tens x
            · exact h
            · have := HSG.out; omega
          have hra2 : runsAt tens l (i + 1) = (D.map (·.xs), r.xs ++ [x]) := by rw [HX.out, if_pos hk]
          have HRB := Lib.hid hra2
          have h0' : sg ≤ 0 := by omega
          have HA1 := HA
          have HR1 := HR
          have hF1 := hF
          clear hk hra2 h0 hcj hci
          obtain ⟨bo, rfl⟩ := orow_some hO (by simp)
          have hbo : w.heap.size ≤ bo := HA1.out bo rfl
          have hco : wr.cell? ⟨bo, (D).length, none⟩ = some (.slice (r).A (r).xs.length (r).c) := by
            rw [World.ownsRow.cellAt hO _ (by omega)]; simp [Rw.cell]
          have hfo : wr.frozen? ⟨bo, (D).length, none⟩ = false := World.ownsRow.frozenAt hO _
          have hrl : (r).xs.length ≤ l.length := by
            have h := congrArg List.length (runsAt_inv tens l i (by omega)).1
            rw [List.length_append, List.length_take] at h
            have e2 := congrArg (fun p : List (List Int) × List Int => p.2.length) HRA.out
            simp only at e2
            omega
          have hIr := HR1.out.1
          go_wp2_with (first | (at_builtin; go_must (
            refine wpList_app _ rfl _ _ 22 3 rfl (.int .i64 0) 1 8 Try.underlying22 info3 rfl (by decide) (r).A (r).c (r).xs.length (ints (r).xs) rfl (hIr.fr (Fr.alloc (Fr.refl [] wr) _) (.inr List.not_mem_nil)) _ 1 1 (ints [x]) rfl rfl (sl_new wr _ 3) (ints_one _) (by simp only [maxLen]; omega) (by omega) ?_
            intro A5 c5 w5 hr5 hg5 hb5
            have hg55 : Fr [bk (r).A] wr w5 := ((Fr.refl [bk (r).A] wr).alloc _).trans hg5
            have hra : bk (r).A ≠ some bo := fun h => (HR1.out.2.1 bo h).2 rfl
            have hO5 := hO.fr hg55 (.inr (by show some bo ∉ [bk (r).A]; simpa using Ne.symm hra))
            have hco5 : w5.cell? ⟨bo, (D).length, none⟩ = some (.slice (r).A (r).xs.length (r).c) := by
              rw [World.ownsRow.cellAt hO5 _ (by omega)]; simp [Rw.cell]
            have hfo5 : w5.frozen? ⟨bo, (D).length, none⟩ = false := World.ownsRow.frozenAt hO5 _
            clear hco hfo)))
          go_roundw
          case rel =>
            obtain ⟨k1, k2, k3⟩ := rr_next hO HR1.out hF1 hbo _ hr5 rfl hg5 hb5
            exact ⟨i + 1, some ⟨bo, 0, none⟩, _, (D).length + 1, by go_num, rfl, by omega, by omega, k3, HA1.out, .inr ⟨D, _, by omega, rfl, k1, k2, HRB.out.symm⟩⟩
          case measure => simp [intOf]; omega
    · obtain rfl : i = l.length := by omega
      rcases hst with ⟨h0, rfl, rfl, rfl⟩ | ⟨D, r, hi0, rfl, hO, HR, HRA⟩
      · have hl0 : l = [] := List.eq_nil_of_length_eq_zero h0
        subst hl0
        clear hs
        go_wp2_with fail
        go_ret
        exact ⟨[], none, 0, rfl, ORow.nil_ _ _ _, rfl, hF, (by intro j hj; cases hj), by intro r hr; simp at hr⟩
      · have hfin : (D ++ [r]).map (·.xs) = runsP tens l := by
          unfold runsP
          rw [if_neg (by intro h; rw [h] at hi0; simp at hi0), ← HRA.out]
          simp
        have hdl : (D ++ [r]).length = D.length + 1 := by simp
        have hall : ∀ q ∈ D ++ [r], ROK w wr Ao q := by
          intro q hq
          rcases List.mem_append.1 hq with hq | hq
          · exact (HR.out.2.2 q hq).1
          · rw [List.mem_singleton] at hq
            subst hq
            exact ⟨HR.out.1.sl, fun j hj => ⟨(HR.out.2.1 j hj).1, HR.out.1.lt hj, (HR.out.2.1 j hj).2⟩, ORow.cap HR.out.1⟩
        have HFIN := Lib.hid hfin
        have HALL := Lib.hid hall
        have HDL := Lib.hid hdl
        clear hfin hall hdl hs
        go_wp2_with fail
        go_ret
        exact ⟨D ++ [r], Ao, co, by rw [HDL.out]; rfl, by rw [HDL.out]; exact hO, HFIN.out, hF, HA.out, HALL.out⟩
end Go.Proofs.Ytgmnjbnlfpopgaa
