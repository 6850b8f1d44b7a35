import Derived.Test.YtgmnjbnlfpopgaaM2
import Derived.BigRegion
import Derived.Deep.RegionLaw
namespace Go.Proofs.Ytgmnjbnlfpopgaa
open Go.RowKit Go.Proofs.Dm

theorem _root_.Go.Proofs.Dm.step_app {P : Program} {ops : Array Oper} {o : Oper} {a : Act} {w : World} {K : Act → World → Prop} {Q : Exit → Act → World → Prop} {E : Prop} (hgd : o.guard = none) (s x : Operand) (t e : TypeId)
    (ho : o.op = .call { callee := .builtin .append, args := #[s, x], argTypes := #[t, t] }) (z : Value) (sz bytes : Nat)
    (ht : P.underlying t = some (.slice e)) (hinfo : (P.info? e).map (fun i => (i.zero, i.size, i.bytes)) = some (some z, sz, bytes)) (hzs : z.cells.size = sz) (hsz : 0 < sz)
    (A : Option Addr) (c n : Nat) (cs : List Value) (hs : a.eval s = .slice A n c) (hown : ORow w e sz A c n cs) (A2 : Option Addr) (m c2 : Nat) (news : List Value) (hx : a.eval x = .slice A2 m c2)
    (hl : news.length = m * sz) (hsl : Sl w A2 news) (h1 : ∀ u ∈ news, u.oneCell' = true) (h63 : n + m ≤ maxLen) (hbytes : (n + m) * bytes ≤ 140737488355328)
    (h : ∀ A' c' w', ORow w' e sz A' c' (n + m) (cs ++ news) → Fr [bk A] w w' → (bk A' = bk A ∨ bk A' = some w.heap.size) → K (a.put o.dst (.slice A' (n + m) c')) w') :
    if Region.wanted o (yielded ops a.tmps) = true then Oper.wp P o a w K Q else E := by
  have hw : Region.wanted o (yielded ops a.tmps) = true := by simp [Region.wanted, hgd]
  rw [if_pos hw]
  exact wp_app w s x t e ho z sz bytes ht hinfo hzs hsz A c n cs hs hown A2 m c2 news hx hl hsl h1 h63 hbytes h
theorem rcells_set (L : List Rn) (i : Nat) (e : Rn) (h : i < L.length) : rcells (L.set i e) = ((rcells L).set (i * 2) (.slice e.A e.xs.length e.c)).set (i * 2 + 1) (.int .i64 e.which) := by
  induction L generalizing i with
  | nil => simp at h
  | cons a L ih =>
    cases i with
    | zero => rfl
    | succ i =>
      have := ih i (by simpa using h)
      have hp : rcells (a :: L) = .slice a.A a.xs.length a.c :: .int .i64 a.which :: rcells L := rfl
      have hq : rcells ((a :: L).set (i + 1) e) = .slice a.A a.xs.length a.c :: .int .i64 a.which :: rcells (L.set i e) := rfl
      rw [hp, hq, this]
      rw [show (i + 1) * 2 = i * 2 + 1 + 1 by omega]
      rfl
def rn0 : Rn := ⟨none, 0, [], 0⟩
theorem RAt.store {U : Nat → Prop} {w0 w : World} {g : Nat} {F : Value} {L' : List Rn} {b cap : Nat} (h1 : FrU U w0 w) (h2 : ¬ U g) (hb : ¬ U b) (hgb : g ≠ b) (hB : Blk w g 75 #[.slice (some ⟨b, 0, none⟩) L'.length cap, F])
    (hO : ORow w 77 2 (some ⟨b, 0, none⟩) cap L'.length (rcells L')) (hm : ∀ e ∈ L', Sl w0 e.A (ints e.xs) ∧ ∀ j, bk e.A = some j → U j) : RAt U w0 w g F L' :=
  ⟨h1, h2, ⟨_, _, hB, hO, by simpa [bk] using hgb, by intro j hj; simp [bk] at hj; subst hj; exact hb⟩, hm⟩

set_option maxRecDepth 100000 in
set_option maxHeartbeats 1600000 in
theorem swap_at (U : Nat → Prop) (w0 w : World) (g : Nat) (F : Value) (L : List Rn) (h : RAt U w0 w g F L) (i j : Nat) (hi : i < L.length) (hj : j < L.length) :
    Calls Try.prog 102 #[.pointer (some ⟨g, 0, none⟩), .int .i64 i, .int .i64 j] w fun e w' => e = .returned (.tuple #[]) ∧ RAt U w0 w' g F (swl rn0 L i j) := by
  obtain ⟨h1, h2, ⟨A, cap, h3, h4, h5, h6⟩, h7⟩ := h
  obtain ⟨b, rfl⟩ := orow_some h4 (rcells_ne hi)
  have hbU : ¬ U b := h6 b rfl
  have hgb : g ≠ b := by simpa [bk] using h5
  have c0 : w.cell? ⟨g, 0, none⟩ = some (.slice (some ⟨b, 0, none⟩) L.length cap) := h3.cell 0
  obtain ⟨ei1, ei2⟩ := rcells_get L i hi
  obtain ⟨ej1, ej2⟩ := rcells_get L j hj
  have hrl := rcells_len L
  have r1 : w.cell? ⟨b, i * 2, none⟩ = some (.slice L[i].A L[i].xs.length L[i].c) := by rw [World.ownsRow.cellAt h4 _ (by omega), Nat.mul_comm]; exact ei1
  have r2 : w.cell? ⟨b, i * 2 + 1, none⟩ = some (.int .i64 L[i].which) := by rw [World.ownsRow.cellAt h4 _ (by omega), Nat.mul_comm]; exact ei2
  have r3 : w.cell? ⟨b, j * 2, none⟩ = some (.slice L[j].A L[j].xs.length L[j].c) := by rw [World.ownsRow.cellAt h4 _ (by omega), Nat.mul_comm]; exact ej1
  have r4 : w.cell? ⟨b, j * 2 + 1, none⟩ = some (.int .i64 L[j].which) := by rw [World.ownsRow.cellAt h4 _ (by omega), Nat.mul_comm]; exact ej2
  have f1 : w.frozen? ⟨b, i * 2, none⟩ = false := World.ownsRow.frozenAt h4 _
  have f2 : w.frozen? ⟨b, i * 2 + 1, none⟩ = false := World.ownsRow.frozenAt h4 _
  have f3 : w.frozen? ⟨b, j * 2, none⟩ = false := World.ownsRow.frozenAt h4 _
  have f4 : w.frozen? ⟨b, j * 2 + 1, none⟩ = false := World.ownsRow.frozenAt h4 _
  have hsw : swl rn0 L i j = (L.set i L[j]).set j L[i] := by simp [swl, List.getD_eq_getElem?_getD, hi, hj]
  have hcs : rcells (swl rn0 L i j) = ((((rcells L).set (i * 2) (.slice L[j].A L[j].xs.length L[j].c)).set (i * 2 + 1) (.int .i64 L[j].which)).set (j * 2) (.slice L[i].A L[i].xs.length L[i].c)).set (j * 2 + 1) (.int .i64 L[i].which) := by
    rw [hsw, rcells_set _ j _ (by simpa using hj), rcells_set L i _ hi]
  have hml : (swl rn0 L i j).length = L.length := swl_len _ _ _ _
  have hmm : ∀ e ∈ swl rn0 L i j, Sl w0 e.A (ints e.xs) ∧ ∀ j, bk e.A = some j → U j := fun e he => h7 e ((swl_perm rn0 L i j hi hj).mem_iff.1 he)
  obtain ⟨x, hx⟩ : ∃ x, x = L[i] := ⟨_, rfl⟩
  obtain ⟨y, hy⟩ : ∃ y, y = L[j] := ⟨_, rfl⟩
  rw [← hx] at r1 r2 hcs
  rw [← hy] at r3 r4 hcs
  obtain ⟨Ax, cx, xs, wx⟩ := x
  obtain ⟨Ay, cy, ys, wy⟩ := y
  simp only at r1 r2 r3 r4 hcs
  have hgn : ∀ k : Nat, g ≠ (⟨b, k, none⟩ : Addr).block := fun _ => hgb
  have fin : RAt U w0 ((((w.setCell ⟨b, i * 2, none⟩ (.slice Ay ys.length cy)).setCell ⟨b, i * 2 + 1, none⟩ (.int .i64 wy)).setCell ⟨b, j * 2, none⟩ (.slice Ax xs.length cx)).setCell ⟨b, j * 2 + 1, none⟩ (.int .i64 wx)) g F (swl rn0 L i j) := by
    refine RAt.store (cap := cap) ((((h1.setB hbU _ _).setB hbU _ _).setB hbU _ _).setB hbU _ _) h2 hbU hgb ?_ ?_ hmm
    · rw [hml]; exact (((h3.far (hgn _) _).far (hgn _) _).far (hgn _) _).far (hgn _) _
    · rw [hml, hcs]
      exact (World.ownsRow.stored (World.ownsRow.stored (World.ownsRow.stored (World.ownsRow.stored h4 _ _).1 _ _).1 _ _).1 _ _).1
  have HFIN := Lib.hid fin
  have hgl := h3.lt
  have hbl : b < w.heap.size := World.block_lt_of_cell? w _ r1
  clear fin hmm hml hcs hsw hx hy ei1 ei2 ej1 ej2 hrl h1 h2 h3 h4 h5 h6 h7 hbU
  by_cases hij : i = j
  · subst hij
    rw [r1] at r3
    rw [r2] at r4
    injection r3 with r3
    injection r3 with r3 r3b r3c
    injection r4 with r4
    injection r4 with r4 r4b
    subst r3 r3c r4b
    rw [← r3b] at HFIN
    clear r3b f3 f4 r4
    go_enter Try.func102, Try.ntmps102
    go_region
    go_wp2
    go_end0
    exact ⟨rfl, HFIN.out.grow ((Fr.refl [] _).drew)⟩
  · go_enter Try.func102, Try.ntmps102
    go_region
    go_wp2
    go_end0
    exact ⟨rfl, HFIN.out.grow ((Fr.refl [] _).drew)⟩

theorem info77 : (Try.prog.info? 77).map (fun i => (i.zero, i.size, i.bytes)) = some (some (.agg #[.slice none 0 0, .int .i64 0]), 2, 32) := by kernel_rfl
theorem assert77 (v : Value) (w : World) : (Instr.typeAssert (.iface 77 v) 20 77 false).run Try.prog w = .ok v w := by kernel_rfl
theorem rcells_app (L M : List Rn) : rcells (L ++ M) = rcells L ++ rcells M := by simp [rcells]
theorem rcells_one (L : List Rn) : ∀ u ∈ rcells L, u.oneCell' = true := by
  intro u hu
  simp only [rcells, List.mem_flatMap, Rn.cells, List.mem_cons, List.not_mem_nil, or_false] at hu
  obtain ⟨e, _, rfl | rfl⟩ := hu <;> rfl

set_option maxRecDepth 100000 in
set_option maxHeartbeats 1600000 in
theorem push_at (U : Nat → Prop) (w0 w : World) (g : Nat) (F : Value) (L : List Rn) (h : RAt U w0 w g F L) (x : Rn) (hx : Sl w0 x.A (ints x.xs) ∧ ∀ j, bk x.A = some j → U j) (hl : L.length ≤ 1000000) :
    Calls Try.prog 101 #[.pointer (some ⟨g, 0, none⟩), .iface 77 (.agg #[.slice x.A x.xs.length x.c, .int .i64 x.which])] w fun e w' => e = .returned (.tuple #[]) ∧ RAt U w0 w' g F (L ++ [x]) := by
  obtain ⟨h1, h2, ⟨A, cap, h3, h4, h5, h6⟩, h7⟩ := h
  have c0 : w.cell? ⟨g, 0, none⟩ = some (.slice A L.length cap) := h3.cell 0
  have f0 := h3.frozen 0
  have hgl := h3.lt
  go_enter Try.func101, Try.ntmps101
  obtain ⟨W1, hW1⟩ : ∃ W1, W1 = (w.alloc (.cells #[.slice x.A x.xs.length x.c, .int .i64 x.which] 77)).drew := ⟨_, rfl⟩
  have hf1 : Fr [] w W1 := by rw [hW1]; exact ((Fr.refl [] w).alloc _).drew
  have hsz1 : W1.heap.size = w.heap.size + 1 := by rw [hW1]; simp
  have hn1 : Sl W1 (some ⟨w.heap.size, 0, none⟩) (rcells [x]) := by
    rw [hW1]
    exact blk_sl (cs := [.slice x.A x.xs.length x.c, .int .i64 x.which]) (Blk.new w 77 #[.slice x.A x.xs.length x.c, .int .i64 x.which]).drew 2
  have ho1 := h4.fr hf1 (.inr List.not_mem_nil)
  have hg1 := h3.fr hf1 (by simp)
  have HU := Lib.hid (h1.trans hf1)
  have HA := Lib.hid h6
  have HM : Hid (∀ e ∈ L ++ [x], Sl w0 e.A (ints e.xs) ∧ ∀ j, bk e.A = some j → U j) := by
    show ∀ _, _
    intro e he
    rcases List.mem_append.1 he with he | he
    · exact h7 e he
    · simp at he; subst he; exact hx
  have HSZ := Lib.hid hsz1
  clear h1 h3 h4 h6 h7 hx hsz1 hf1
  have hta := assert77 (.agg #[.slice x.A x.xs.length x.c, .int .i64 x.which])
  go_region_law (first
    | (refine step_app rfl (.tmp 8) (.tmp 11) 73 77 rfl (.agg #[.slice none 0 0, .int .i64 0]) 2 32 Try.underlying73 info77 rfl (by decide) A cap L.length (rcells L) (by simp [Act.eval]) (hW1 ▸ ho1) (some ⟨w.heap.size, 0, none⟩) 1 1 (rcells [x]) (by simp [Act.eval]) rfl (hW1 ▸ hn1) (rcells_one _) (by simp only [maxLen]; omega) (by omega) ?_
       intro A1 c1 w2 hr2 hg2 hb2
       have hg2' : Fr [bk A] W1 w2 := hW1 ▸ hg2
       have hB2 := hg1.fr hg2' (by simpa using h5)
       have d0 : w2.cell? ⟨g, 0, none⟩ = some (.slice A L.length cap) := hB2.cell 0
       have e0 : w2.frozen? ⟨g, 0, none⟩ = false := hB2.frozen 0))
  all_goals
    go_wp2
    go_end0
    have hU2 := HU.out.seq hg2' (by
      intro i hi
      simp at hi
      exact HA.out i hi.symm)
    have hb2' : bk A1 = bk A ∨ bk A1 = some (w.heap.size + 1) := by rw [← HSZ.out]; subst hW1; exact hb2
    have hg1' : some g ≠ bk A1 := by
      rcases hb2' with h | h
      · rw [h]; exact h5
      · rw [h]; simp; omega
    refine ⟨rfl, hU2.setB h2 _ _, h2, ⟨A1, c1, ?_, ?_, hg1', ?_⟩, HM.out⟩
    · have := hB2.set_ 0 (.slice A1 (L.length + 1) c1)
      simpa using this
    · rw [rcells_app]
      have hr3 : ORow w2 77 2 A1 c1 (L ++ [x]).length (rcells L ++ rcells [x]) := by simpa using hr2
      exact hr3.fr ((Fr.refl [some g] w2).setB (g := g) (by simp) 0 _) (.inr (by simpa using Ne.symm hg1'))
    · intro j hj
      rcases hb2' with h | h
      · exact HA.out j (h ▸ hj)
      · rw [h] at hj
        injection hj with hj
        exact HU.out.new (by rw [HSZ.out]; omega)
end Go.Proofs.Ytgmnjbnlfpopgaa
