import Derived.Test.YtblafakafgediaaH28
import Derived.Test.YtblafakafgediaaH42
import Derived.Test.YtblafakafgediaaH47
import Derived.Test.YtblafakafgediaaH38
namespace Go.Proofs.Ytblafakafgediaa
open Go.RowKit Go.Shelf Go.Proofs.Dm
attribute [local go_sem] Oper.semAt_some
def FuncNewB (w : World) (p : Option Addr) (i j : Nat) (en : Ending) (w' : World) : Prop :=
  ∃ bi bj bt : Nat, en = .returned (.func (.func 117) #[] #[.pointer (some ⟨bi, 0, none⟩), .pointer (some ⟨bj, 0, none⟩), .pointer (some ⟨bt, 0, none⟩)]) ∧
    w'.cell? ⟨bi, 0, none⟩ = some (.int .i64 (i : Nat)) ∧ w'.cell? ⟨bj, 0, none⟩ = some (.int .i64 (j : Nat)) ∧ w'.cell? ⟨bt, 0, none⟩ = some (.pointer p) ∧ Fr [] w w' ∧ w.heap.size ≤ bi ∧ w.heap.size ≤ bj ∧ w.heap.size ≤ bt
set_option maxHeartbeats 800000 in
theorem back_new (E : List (Option Nat)) (p : Option Addr) (xs : List RV) (w : World) (ht : TreeAt TN E w p xs) (hn : xs.length ≤ 100000) :
    Calls Try.prog 84 #[.agg #[.pointer p], .int .i64 0, .int .i64 (xs.length : Nat)] w (FuncNewB w p 0 xs.length) := by
  obtain ⟨n, hnn⟩ : ∃ n, n = xs.length := ⟨_, rfl⟩
  have HW : Hid (∀ W0, W0 = ((w.alloc (.cells #[.pointer p] 25)).alloc (.cells #[.int .i64 0] 3)).alloc (.cells #[.int .i64 (n : Nat)] 3) → Fr [] w W0 ∧ Blk W0 w.heap.size 25 #[.pointer p] ∧ Blk W0 (w.heap.size + 1) 3 #[.int .i64 0] ∧ Blk W0 (w.heap.size + 1 + 1) 3 #[.int .i64 (n : Nat)] ∧
      Calls Try.prog 73 #[.agg #[.pointer p], .int .i64 0, .int .i64 (n : Nat)] W0 fun en w' => en = .returned (.tuple #[.int .i64 0, .int .i64 (n : Nat)]) ∧ Fr [] W0 w') := by
    show ∀ _, _
    rintro W0 rfl
    have hf : Fr [] w (((w.alloc (.cells #[.pointer p] 25)).alloc (.cells #[.int .i64 0] 3)).alloc (.cells #[.int .i64 (n : Nat)] 3)) := (((Fr.refl [] w).alloc _).alloc _).alloc _
    have b1 := Blk.new (w.alloc (.cells #[.pointer p] 25)) 3 #[.int .i64 0]
    have b2 := Blk.new ((w.alloc (.cells #[.pointer p] 25)).alloc (.cells #[.int .i64 0] 3)) 3 #[.int .i64 (n : Nat)]
    refine ⟨hf, ((Blk.new w _ _).alloc _).alloc _, ?_, ?_, ?_⟩
    · have := b1.alloc (.cells #[.int .i64 (n : Nat)] 3)
      simpa using this
    · simpa using b2
    · rw [hnn]
      exact stretch_all E p xs _ (ht.fr0 (by rw [← hnn]; exact hf)) hn
  rw [← hnn]
  clear ht hn hnn
  go_enter Try.func84, Try.ntmps84
  go_wp2_with fail
  obtain ⟨W0, hW0⟩ : ∃ W0, W0 = ((w.alloc (.cells #[.pointer p] 25)).alloc (.cells #[.int .i64 0] 3)).alloc (.cells #[.int .i64 (n : Nat)] 3) := ⟨_, rfl⟩
  obtain ⟨k1, k2, k3, k4, k5⟩ := HW.out W0 hW0
  rw [← hW0]
  refine k5.mono ?_
  rintro en w1 ⟨rfl, hf⟩
  have c2 := k2.fr hf (by simp)
  have c3 := k3.fr hf (by simp)
  have c4 := k4.fr hf (by simp)
  have HF := Lib.hid (k1.trans hf)
  have HB : Hid (Blk w1 w.heap.size 25 #[.pointer p] ∧ Blk w1 (w.heap.size + 1) 3 #[.int .i64 0] ∧ Blk w1 (w.heap.size + 1 + 1) 3 #[.int .i64 (n : Nat)]) := ⟨c2, c3, c4⟩
  have d3 : w1.cell? ⟨w.heap.size + 1, 0, none⟩ = some (.int .i64 0) := c3.cell 0
  have d4 : w1.cell? ⟨w.heap.size + 1 + 1, 0, none⟩ = some (.int .i64 (n : Nat)) := c4.cell 0
  have z3 := c3.frozen 0
  have z4 := c4.frozen 0
  have l3 := c3.lt
  have l4 := c4.lt
  clear hW0 k1 k2 k3 k4 k5 hf c2 c3 c4 HW
  go_wp2_with fail
  go_ret
  obtain ⟨b2, b3, b4⟩ := HB.out
  have e3 := (b3.set_ 0 (.int .i64 0)).far (p := ⟨w.heap.size + 1 + 1, 0, none⟩) (by simp) (.int .i64 (n : Nat))
  have e4 := (b4.far (p := ⟨w.heap.size + 1, 0, none⟩) (by simp) (.int .i64 0)).set_ 0 (.int .i64 (n : Nat))
  have e2 := (b2.far (p := ⟨w.heap.size + 1, 0, none⟩) (by simp) (.int .i64 0)).far (p := ⟨w.heap.size + 1 + 1, 0, none⟩) (by simp; omega) (.int .i64 (n : Nat))
  exact ⟨_, _, _, rfl, e3.cell 0, e4.cell 0, e2.cell 0, (HF.out.setB (fun h => by omega) _ _).setB (fun h => by omega) _ _, by omega, by omega, Nat.le_refl _⟩
theorem run_makeRow0 (n : Nat) (hn : n ≤ 1000000) (W : World) : ∃ Z : Array Value, Z.size = n * 3 ∧ (Instr.makeSlice 80 (.int .i64 0) (.int .i64 (n : Int))).run Try.prog W = .ok (.slice (some ⟨W.heap.size, 0, none⟩) 0 n) (W.alloc (.cells Z TRow)) := by
  obtain ⟨i0, hi, hz0, hz1, hz2⟩ := info_parts infoRV
  have h := run_make (P := Try.prog) W 80 TRow i0 _ Try.underlying80 hi hz0 .i64 .i64 0 n (by omega) (by omega) (by rw [hz2]; omega) (by omega)
  simp only [Int.toNat_natCast] at h
  refine ⟨_, ?_, h⟩
  rw [hz1]
  simp [madeCells]
theorem flatR_app (a b : List RV) : flatR (a ++ b) = flatR a ++ flatR b := by simp [flatR]
theorem flatR_one (xs : List RV) : ∀ u ∈ flatR xs, u.oneCell' = true := by
  refine enc_one (fun x u hu => ?_) xs
  simp only [RV.cells, List.mem_cons, List.not_mem_nil, or_false] at hu
  rcases hu with rfl | rfl | rfl <;> rfl
/-- Rows that are put one behind another into a row that was made for them: OB the box, R what was made. -/
structure DVr (w2 W : World) (OB R : Nat) (C : Option Addr) (c n : Nat) (xs : List RV) : Prop where
  box : Blk W OB 80 #[.slice C n c]
  own : ORow W TRow 3 C c n (flatR xs)
  ln : n = xs.length
  fr : Fr [some OB, some R] w2 W
  ob : OB < w2.heap.size
  nw : ∀ j, bk C = some j → j = R ∨ w2.heap.size ≤ j
  ne : OB ≠ R
section
variable {w2 W W' : World} {OB R c n : Nat} {C : Option Addr} {xs : List RV}
theorem DVr.fr0 (h : DVr w2 W OB R C c n xs) (hf : Fr [] W W') : DVr w2 W' OB R C c n xs := ⟨h.box.fr hf (by simp), ORow.fr h.own hf (.inr List.not_mem_nil), h.ln, h.fr.trans hf.of_nil, h.ob, h.nw, h.ne⟩
theorem DVr.ch (h : DVr w2 W OB R C c n xs) (hc : ChI w2.heap.size W W') : DVr w2 W' OB R C c n xs := by
  refine ⟨hc.block _ _ h.box (.inl h.ob), ⟨h.own.1, ?_⟩, h.ln, ⟨hc.os.trans h.fr.os, hc.tape.trans h.fr.tape, hc.output.trans h.fr.output, Nat.le_trans h.fr.size hc.size, fun k hk hn => ?_⟩, h.ob, h.nw, h.ne⟩
  · rcases h.own.2 with h0 | ⟨g, cap, cur, he, hb, hg, rest⟩
    · exact .inl h0
    · exact .inr ⟨g, cap, cur, he, hb, hc.block _ _ hg (.inr (by simp [itT]; decide)), rest⟩
  · have hold := h.fr.block k hk hn
    have hget : w2.heap[k]? = some w2.heap[k] := Array.getElem?_eq_getElem hk
    rw [hget] at hold ⊢
    exact hc.block k _ hold (.inl hk)
theorem DVr.nob (h : DVr w2 W OB R C c n xs) : bk C ≠ some OB := fun e => by
  have h1 := h.ob
  rcases h.nw OB e with h2 | h2
  · exact h.ne h2
  · omega
/-- A row more, and the box turned. -/
theorem DVr.put {Wa W1 : World} {C1 : Option Addr} {c1 : Nat} {x : RV} (h : DVr w2 W OB R C c n xs) (hfa : Fr [] W Wa) (hr : ORow W1 TRow 3 C1 c1 (n + 1) (flatR xs ++ x.cells)) (hg : Fr [bk C] Wa W1) (hb : bk C1 = bk C ∨ bk C1 = some Wa.heap.size) :
    DVr w2 (W1.setCell ⟨OB, 0, none⟩ (.slice C1 (n + 1) c1)) OB R C1 c1 (n + 1) (xs ++ [x]) ∧ Blk W1 OB 80 #[.slice C n c] ∧ Fr [some OB, bk C] W (W1.setCell ⟨OB, 0, none⟩ (.slice C1 (n + 1) c1)) := by
  have hb1 := (h.box.fr hfa (by simp)).fr hg (fun e => by rw [List.mem_singleton] at e; exact h.nob e.symm)
  have hob := h.ob
  have hs1 := h.fr.size
  have hs2 := hfa.size
  have hset : Fr [some OB] W1 (W1.setCell ⟨OB, 0, none⟩ (.slice C1 (n + 1) c1)) := (Fr.refl _ W1).setB (by simp) 0 _
  have hn1 : ∀ j, bk C1 = some j → j = R ∨ w2.heap.size ≤ j := fun j hj => by
    rcases hb with e | e
    · exact h.nw j (e ▸ hj)
    · rw [e] at hj; injection hj with hj; exact .inr (by omega)
  refine ⟨⟨hb1.set_ 0 _, ?_, by rw [List.length_append, h.ln]; rfl, ?_, hob, hn1, h.ne⟩, hb1, ?_⟩
  · have hr2 : ORow W1 TRow 3 C1 c1 (n + 1) (flatR (xs ++ [x])) := by rw [flatR_app]; simpa [flatR] using hr
    refine ORow.fr hr2 hset ?_
    cases hB : bk C1 with
    | none => exact .inl rfl
    | some j =>
      refine .inr fun e => ?_
      rw [List.mem_singleton] at e
      injection e with e
      rcases hn1 j hB with h2 | h2
      · exact h.ne (e.symm.trans h2)
      · omega
  · refine ((h.fr.trans hfa.of_nil).seq hg fun y hy => ?_).seq hset fun y hy => ?_
    · rw [List.mem_singleton] at hy
      subst hy
      cases hB : bk C with
      | none => exact .inr (.inl rfl)
      | some j =>
        rcases h.nw j hB with h2 | h2
        · subst h2; exact .inl (List.mem_cons_of_mem _ (List.mem_singleton.2 rfl))
        · exact .inr (.inr ⟨j, h2, rfl⟩)
    · rw [List.mem_singleton] at hy; rw [hy]; exact .inl (List.mem_cons_self ..)
  · exact (hfa.of_nil.trans (hg.weaken fun i _ e => by rw [List.mem_singleton] at e; rw [e]; exact List.mem_cons_of_mem _ (List.mem_singleton.2 rfl))).trans (hset.weaken fun i _ e => by rw [List.mem_singleton] at e; rw [e]; exact List.mem_cons_self ..)
theorem DVr.keeps {b : Nat} {E : List (Option Nat)} (h : DVr w2 W OB R C c n xs) (hf : Fr [some OB, bk C] W W') (hb : b = w2.heap.size) (hE : some OB ∈ E) (hR : some R ∈ E) : KeepsI E b W W' := by
  subst hb
  refine KeepsI.of_frS hf fun k hk hlt => ?_
  rcases List.mem_cons.1 hk with e | e
  · injection e with e
    subst e
    exact ⟨.inr hE, _, h.box, by simp [itT]; decide⟩
  · rw [List.mem_singleton] at e
    refine ⟨?_, ?_⟩
    · rcases h.nw k e.symm with h2 | h2
      · rw [h2]; exact .inr hR
      · exact .inl h2
    · rcases h.own.2 with ⟨h0, _⟩ | ⟨g, cap, cur, he, hbb, hg, rest⟩
      · injection h0 with h0; subst h0; cases e
      · injection he with he
        subst he
        injection e with e
        subst e
        exact ⟨_, hg, by simp [itT]; decide⟩
end
def FDownAns (w : World) (tl : Bool) (eo : Int) (xs : List RV) (en : Ending) (w' : World) : Prop :=
  ∃ p : Option Addr, en = .returned (.agg #[.pointer p, .bool tl, .int .i64 eo]) ∧ TreeAt TN [] w' p xs.reverse ∧ Fr [] w w'
theorem downR_rows (xs : List RV) : (downR xs xs.length 0).map Prod.snd = xs.reverse := by
  unfold downR allR
  rw [List.map_reverse, List.map_map]
  congr 1
  apply List.ext_getElem
  · simp
  · intro i h1 h2
    simp
    rw [List.getElem?_eq_getElem h2]
    rfl
end Go.Proofs.Ytblafakafgediaa
namespace Go.Proofs.Ytblafakafgediaa
open Go.RowKit Go.Shelf Go.Proofs.Dm
attribute [local go_sem] Oper.semAt_some

set_option maxRecDepth 100000 in
set_option maxHeartbeats 1600000 in
theorem down_flip (w : World) (p : Option Addr) (tl : Bool) (eo : Int) (n : Nat) (xs : List RV) (ht : TreeAt TN [] w p xs) (hn : n = xs.length) (hn7 : n ≤ 700) :
    Calls Try.prog 43 #[.agg #[.pointer p, .bool tl, .int .i64 eo]] w (FDownAns w tl eo xs) := by
  have HLN : Hid (∀ w', Fr [] w w' → Calls Try.prog 13 #[.agg #[.pointer p, .bool tl, .int .i64 eo]] w' fun en w'' => en = .returned (.int .i64 (n : Nat)) ∧ Fr [] w' w'') := by
    show ∀ _, _
    intro w' hf
    have := glen_any [] p xs tl eo w' (ht.fr0 hf)
    rw [← hn] at this
    exact this
  have HRG : Hid (∀ w', Fr [] w w' → Calls Try.prog 84 #[.agg #[.pointer p], .int .i64 0, .int .i64 (n : Nat)] w' (FuncNewB w' p 0 n)) := by
    show ∀ _, _
    intro w' hf
    have := back_new [] p xs w' (ht.fr0 hf) (by omega)
    rw [← hn] at this
    exact this
  have HW : Hid (∀ W0, W0 = (w.alloc (.cells #[.pointer p, .bool tl, .int .i64 eo] TGr)).alloc (.cells #[.pointer none, .bool false, .int .i64 0] TGr) →
      Fr [] w W0 ∧ Blk W0 w.heap.size TGr #[.pointer p, .bool tl, .int .i64 eo] ∧ Blk W0 (w.heap.size + 1) TGr #[.pointer none, .bool false, .int .i64 0]) := by
    show ∀ _, _
    rintro W0 rfl
    have b1 := Blk.new (w.alloc (.cells #[.pointer p, .bool tl, .int .i64 eo] TGr)) TGr #[.pointer none, .bool false, .int .i64 0]
    refine ⟨((Fr.refl [] w).alloc _).alloc _, (Blk.new w TGr _).alloc _, by simpa using b1⟩
  have HIN : Hid (TreeAt TN [] w p xs) := ht
  have HN : Hid (n = xs.length ∧ n ≤ 700) := ⟨hn, hn7⟩
  clear ht hn hn7
  refine callsIn_wide.1 (callsIn_of_wp_marks (n := 3) Try.func43 rfl trivial (wpIn_wide.2 ?_))
  simp only [Try.ntmps43, List.size_toArray, List.length_cons, List.length_nil, Nat.reduceAdd, Nat.reduceSub, Array.replicate_succ, Array.replicate_zero, List.push_toArray, List.append_toArray, List.nil_append, List.cons_append]
  go_wp2_with fail
  obtain ⟨W0, hW0⟩ : ∃ W0, W0 = (w.alloc (.cells #[.pointer p, .bool tl, .int .i64 eo] TGr)).alloc (.cells #[.pointer none, .bool false, .int .i64 0] TGr) := ⟨_, rfl⟩
  obtain ⟨k1, k2, k3⟩ := HW.out W0 hW0
  rw [← hW0]
  obtain ⟨L, hL⟩ : ∃ L, L = w.heap.size + 1 := ⟨_, rfl⟩
  obtain ⟨GB, hGB⟩ : ∃ GB, GB = w.heap.size := ⟨_, rfl⟩
  rw [← hL] at k3 ⊢
  rw [← hGB] at k2 ⊢
  have HB0 : Hid (Fr [] w W0 ∧ Blk W0 GB TGr #[.pointer p, .bool tl, .int .i64 eo] ∧ Blk W0 L TGr #[.pointer none, .bool false, .int .i64 0]) := ⟨k1, k2, k3⟩
  have HNB : Hid (GB = w.heap.size ∧ L = w.heap.size + 1) := ⟨hGB, hL⟩
  have g0 : W0.cell? ⟨GB, 0, none⟩ = some (.pointer p) := k2.cell 0
  have g1 : W0.cell? ⟨GB, 1, none⟩ = some (.bool tl) := k2.cell 1
  have g2 : W0.cell? ⟨GB, 2, none⟩ = some (.int .i64 eo) := k2.cell 2
  clear hW0 k1 k2 k3 hL hGB HW
  refine (HLN.out W0 HB0.out.1).mono ?_
  rintro en w1 ⟨rfl, hf1⟩
  have HF1 := Lib.hid hf1
  have hnn : n ≤ 1000000 := by have := HN.out; omega
  obtain ⟨Z, hZ, hmk⟩ := run_makeRow0 n hnn w1
  have HW2 : Hid (∀ W R OB, W = (w1.alloc (.cells Z TRow)).alloc (.cells #[.slice (some ⟨w1.heap.size, 0, none⟩) 0 n] 80) → R = w1.heap.size → OB = w1.heap.size + 1 →
      Fr [] W0 W ∧ Blk W OB 80 #[.slice (some ⟨R, 0, none⟩) 0 n] ∧ ORow W TRow 3 (some ⟨R, 0, none⟩) n 0 (flatR []) ∧ w.heap.size + 2 ≤ R ∧ OB ≠ R) := by
    show ∀ _, _
    rintro W R OB rfl rfl rfl
    have hs := HB0.out.1.size
    have hs1 := HF1.out.size
    have hl := (HB0.out.2.2.fr HF1.out (by simp)).lt
    have hnb := HNB.out
    have b1 := (Blk.new w1 TRow Z).alloc (.cells #[.slice (some ⟨w1.heap.size, 0, none⟩) 0 n] 80)
    have b2 := Blk.new (w1.alloc (.cells Z TRow)) 80 #[.slice (some ⟨w1.heap.size, 0, none⟩) 0 n]
    rw [World.size_alloc] at b2
    refine ⟨(HF1.out.alloc _).alloc _, b2, ⟨rfl, .inr ⟨_, n, Z, rfl, Nat.zero_le _, b1, Nat.zero_le _, by simp only [maxLen]; omega, hZ, by simp [flatR]⟩⟩, by omega, by omega⟩
  clear hf1 hZ g0 g1 g2 hnn
  go_wp2_with fail
  obtain ⟨W2, hW2⟩ : ∃ W2, W2 = (w1.alloc (.cells Z TRow)).alloc (.cells #[.slice (some ⟨w1.heap.size, 0, none⟩) 0 n] 80) := ⟨_, rfl⟩
  rw [← hW2]
  obtain ⟨R, hR⟩ : ∃ R, R = w1.heap.size := ⟨_, rfl⟩
  obtain ⟨OB, hOB⟩ : ∃ OB, OB = w1.heap.size + 1 := ⟨_, rfl⟩
  obtain ⟨k1, k2, k3, k4, k5⟩ := HW2.out W2 R OB hW2 hR hOB
  rw [← hOB, ← hR]
  have HF2 := Lib.hid k1
  have HOW : Hid (Blk W2 OB 80 #[.slice (some ⟨R, 0, none⟩) 0 n] ∧ ORow W2 TRow 3 (some ⟨R, 0, none⟩) n 0 (flatR [])) := ⟨k2, k3⟩
  have HNE : Hid (w.heap.size + 2 ≤ R ∧ OB ≠ R ∧ w.heap.size + 2 ≤ OB) := ⟨k4, k5, by omega⟩
  have HCELL : Hid (∀ w', Fr [] W2 w' → w'.cell? ⟨GB, 0, none⟩ = some (.pointer p) ∧ w'.cell? ⟨GB, 1, none⟩ = some (.bool tl) ∧ w'.cell? ⟨GB, 2, none⟩ = some (.int .i64 eo)) := by
    show ∀ _, _
    intro w' hf
    have h := (HB0.out.2.1.fr k1 (by simp)).fr hf (by simp)
    exact ⟨h.cell 0, h.cell 1, h.cell 2⟩
  clear hW2 hR hOB k1 k2 k3 k4 k5 HW2 hmk
  obtain ⟨g0, g1, g2⟩ := HCELL.out W2 (Fr.refl _ _)
  go_region_held3 (fun w' => w'.cell? ⟨GB, 0, none⟩ = some (.pointer p) ∧ w'.cell? ⟨GB, 1, none⟩ = some (.bool tl) ∧ w'.cell? ⟨GB, 2, none⟩ = some (.int .i64 eo)) (go_keep) ((first
    | (go_at_call 13; go_must (
         refine (HLN.out _ ((HB0.out.1.trans HF2.out).drew)).mono ?_
         rintro e w4 ⟨rfl, hf4⟩
         have HF4 : Hid (Fr [] W2 w4) := (Fr.refl [] W2).drew.trans hf4
         obtain ⟨g0', g1', g2'⟩ := HCELL.out w4 HF4.out
         clear hf4))
    | (go_at_call 84; go_must (
         refine (HRG.out _ ((HB0.out.1.trans HF2.out).trans HF4.out)).mono ?_
         rintro e w5 ⟨bi, bj, bt, rfl, hbi, hbj, hbt, hf5, hx1, hx2, hx3⟩
         have HF5 : Hid (Fr [] W2 w5) := HF4.out.trans hf5
         obtain ⟨g0'', g1'', g2''⟩ := HCELL.out w5 HF5.out
         have HBB : Hid (w5.cell? ⟨bi, 0, none⟩ = some (.int .i64 (0 : Nat)) ∧ w5.cell? ⟨bj, 0, none⟩ = some (.int .i64 (n : Nat)) ∧ w5.cell? ⟨bt, 0, none⟩ = some (.pointer p)) := ⟨hbi, hbj, hbt⟩
         have HBX : Hid (W2.heap.size ≤ bi ∧ W2.heap.size ≤ bj ∧ W2.heap.size ≤ bt) := by have := HF4.out.size; exact ⟨by omega, by omega, by omega⟩
         clear hbi hbj hbt hf5 hx1 hx2 hx3))))
  go_wp2_with fail
  have HTR : Hid (TreeAt TN [some OB, some R] w5 p xs) := by
    have := HIN.out
    refine this.grow (E' := [some OB, some R]) ((HB0.out.1.trans HF2.out).trans HF5.out) fun k hk => ?_
    have h1 := HNE.out
    rcases List.mem_cons.1 hk with hk | hk
    · injection hk with hk; exact .inr (by omega)
    · rw [List.mem_singleton] at hk; injection hk with hk; exact .inr (by omega)
  have HDV0 : Hid (DVr w5 w5 OB R (some ⟨R, 0, none⟩) n 0 []) := by
    have h1 := HOW.out.1.fr HF5.out (by simp)
    exact ⟨h1, ORow.fr HOW.out.2 HF5.out (.inr List.not_mem_nil), rfl, Fr.refl _ _, h1.lt, fun j hj => (by injection hj with hj; exact .inl hj.symm), HNE.out.2.1⟩
  rw [← wpIn_wide (n := 3)]
  refine range_law (E := [some OB, some R]) (F := Fence.wide) rfl (by omega) (gf := 117) rfl trivial (enters_of Try.func117 (by kernel_rfl) rfl)
    (back_stops (3 - 1) bi bj bt 0 n w5 p xs (Nat.zero_le _) (by rw [← HN.out.1]; exact Nat.le_refl _) (by have := HN.out; omega) HTR.out HBB.out.1 HBB.out.2.1 HBB.out.2.2 ?hne) (Fr.refl _ _) (fun _ => rfl)
    (fun pre W => ∃ (C : Option Addr) (c m : Nat), Hid (DVr w5 W OB R C c m (pre.map Prod.snd))) (fun _ _ _ => False) ?hI (fun _ _ _ _ h _ => h) ?h0
    (fun x a₁ W => ∃ b, a₁ = { tmps := #[.agg #[.pointer p, .bool tl, .int .i64 eo], .pointer (some ⟨GB, 0, none⟩), .pointer (some ⟨L, 0, none⟩), .pointer (some ⟨OB, 0, none⟩), undef, .pointer (some ⟨b, 0, none⟩), .agg #[.pointer p, .bool tl, .int .i64 eo], .int .i64 (n : Nat), .slice (some ⟨R, 0, none⟩) 0 n, .pointer (some ⟨GB, 0, none⟩), .agg #[.pointer p], .agg #[.pointer p, .bool tl, .int .i64 eo], .int .i64 (n : Nat), .func (.func 117) #[] #[.pointer (some ⟨bi, 0, none⟩), .pointer (some ⟨bj, 0, none⟩), .pointer (some ⟨bt, 0, none⟩)], .int .i64 (x.1 : Nat), x.2.val, undef, undef, undef, undef, undef, undef, undef, undef], defers := [] } ∧ Blk W b TRow #[.slice x.2.A x.2.n x.2.c, .int .i64 x.2.e, .bool x.2.h]) ?hAx ?assign ?body ?done ?stop
  case hne =>
    have key : ∀ (x : Nat), W2.heap.size ≤ x → some x ∉ [some OB, some R] := fun x hx e => by
      have h1 := HOW.out.1.lt
      have h2 := ORow.lt HOW.out.2 (k := R) rfl
      rcases List.mem_cons.1 e with e | e
      · injection e with e; omega
      · rw [List.mem_singleton] at e; injection e with e; omega
    exact ⟨key bi HBX.out.1, key bj HBX.out.2.1, key bt HBX.out.2.2⟩
  case hI =>
    rintro pre W W' ⟨C, c, m, h⟩ hc
    exact ⟨C, c, m, h.out.ch hc⟩
  case h0 => exact ⟨_, _, _, HDV0.out⟩
  case hAx =>
    rintro x a₁ W l o o' hl ho ⟨b, rfl, hb⟩
    refine ⟨b, rfl, ?_⟩
    unfold Blk at hb ⊢
    rw [World.putObj_heap_other]
    · exact hb
    · intro e; subst e; rw [hb] at hl; injection hl with hl; subst hl; cases ho
  case assign =>
    intro l x W K hK
    obtain ⟨xq, ⟨rA, rn, rc, re, rh⟩⟩ := x
    simp only [encR, RV.val]
    gi_wp2
    refine hK _ _ ((Fr.refl [] W).alloc _) ⟨W.heap.size, rfl, Blk.new W TRow _⟩
  case body =>
    rintro l pre x a₁ W ⟨C, c, m, HDV⟩ hpx ⟨b, rfl, hb⟩
    obtain ⟨xq, ⟨rA, rn, rc, re, rh⟩⟩ := x
    simp only [RV.val] at hb ⊢
    have hm7 : m ≤ 700 := by
      obtain ⟨t, ht⟩ := hpx
      have h1 := congrArg List.length ht
      have h2 : (downR xs n 0).length = n := by simp [downR, allR]
      have h3 := HDV.out.ln
      rw [List.length_append, List.length_append, h2] at h1
      rw [List.length_map] at h3
      have := HN.out
      omega
    have o0 : W.cell? ⟨OB, 0, none⟩ = some (.slice C m c) := HDV.out.box.cell 0
    have b0 : W.cell? ⟨b, 0, none⟩ = some (.slice rA rn rc) := hb.cell 0
    have b1 : W.cell? ⟨b, 1, none⟩ = some (.int .i64 re) := hb.cell 1
    have b2 : W.cell? ⟨b, 2, none⟩ = some (.bool rh) := hb.cell 2
    have HM := Lib.hid hm7
    have HP : Hid ((pre ++ [(xq, (⟨rA, rn, rc, re, rh⟩ : RV))]).map Prod.snd = pre.map Prod.snd ++ [⟨rA, rn, rc, re, rh⟩]) := by show _ = _; rw [List.map_append]; rfl
    clear hb hpx hm7
    gi_wp2_with (gi_at_builtin; go_must (
      refine wpListIn_app rfl _ _ 80 TRow rfl (Value.agg #[.slice none 0 0, .int .i64 0, .bool false]) 3 40 Try.underlying80 infoRV rfl (by decide) C c m (flatR (pre.map Prod.snd)) rfl (ORow.fr HDV.out.own ((Fr.refl [] W).alloc _) (.inr List.not_mem_nil)) _ 1 1 (RV.cells ⟨rA, rn, rc, re, rh⟩) rfl rfl (blk_sl (cs := RV.cells ⟨rA, rn, rc, re, rh⟩) (Blk.new W TRow _) 3) (by have := flatR_one [⟨rA, rn, rc, re, rh⟩]; simpa [flatR] using this) (by have := HM.out; simp only [maxLen]; omega) (by have := HM.out; omega) ?_
      intro C1 c1 w7 hr7 hg7 hb7
      have hput := HDV.out.put (x := ⟨rA, rn, rc, re, rh⟩) ((Fr.refl [] W).alloc _) hr7 hg7 hb7
      have HP7 := Lib.hid hput
      have o1 : w7.cell? ⟨OB, 0, none⟩ = some (.slice C m c) := hput.2.1.cell 0
      have oz := hput.2.1.frozen 0
      have ol := hput.2.1.lt
      clear hr7 hg7 hb7 hput))
    refine ⟨HDV.out.keeps HP7.out.2.2 rfl (List.mem_cons_self ..) (List.mem_cons_of_mem _ (List.mem_singleton.2 rfl)), C1, c1, m + 1, ?_⟩
    show Hid (DVr w5 _ OB R C1 c1 (m + 1) _)
    rw [HP.out]
    exact HP7.out.1
  case done =>
    rintro D W hD ⟨C, c, m, HDV⟩ hK
    have hrows : (downR xs n 0).map Prod.snd = xs.reverse := by rw [HN.out.1]; exact downR_rows xs
    rw [hrows] at HDV
    have hm : m = n := by have := HDV.out.ln; rw [List.length_reverse] at this; have := HN.out; omega
    subst hm
    have hDl := lt_of_obj hK
    have hcell : ∀ {x : Nat} {t : TypeId} {us : Array Value}, Blk W0 x t us → x ≠ OB → x ≠ R → Blk W x t us := fun {x t us} hx h1 h2 =>
      ((hx.fr HF2.out (by simp)).fr HF5.out (by simp)).fr HDV.out.fr fun e => by
        rcases List.mem_cons.1 e with e | e
        · injection e with e; exact h1 e
        · rw [List.mem_singleton] at e; injection e with e; exact h2 e
    have hne1 := HNE.out
    have hnb1 := HNB.out
    have HBL : Hid (Blk W GB TGr #[.pointer p, .bool tl, .int .i64 eo] ∧ Blk W L TGr #[.pointer none, .bool false, .int .i64 0]) := ⟨hcell HB0.out.2.1 (by omega) (by omega), hcell HB0.out.2.2 (by omega) (by omega)⟩
    have hO : Old [some GB, some L, some D] W := fun k hk => by
      have h1 := HBL.out.1.lt
      have h2 := HBL.out.2.lt
      rcases List.mem_cons.1 hk with e | e
      · injection e with e; omega
      · rcases List.mem_cons.1 e with e | e
        · injection e with e; omega
        · rw [List.mem_singleton] at e; injection e with e; omega
    have hof := of_any [some GB, some L, some D] C c xs.reverse W hO (ORow.sl HDV.out.own) (by rw [← HDV.out.ln]; exact ORow.cap HDV.out.own) (by rw [← HDV.out.ln]; have := HN.out; omega)
    rw [← HDV.out.ln] at hof
    have HOF := Lib.hid hof
    have o0 : W.cell? ⟨OB, 0, none⟩ = some (.slice C m c) := HDV.out.box.cell 0
    have HFW : Hid (Fr [] w W) := (((HB0.out.1.trans HF2.out).trans HF5.out)).seq HDV.out.fr fun x hx => by
      rcases List.mem_cons.1 hx with e | e
      · exact .inr (.inr ⟨OB, by omega, e⟩)
      · rw [List.mem_singleton] at e; exact .inr (.inr ⟨R, by omega, e⟩)
    have HKD := Lib.hid hK
    have HDD : Hid (w.heap.size ≤ D) := by
      have := ((HB0.out.1.trans HF2.out).trans HF5.out).size
      show _ ≤ _
      omega
    clear hrows hK hD hDl hcell hO hof hne1 hnb1
    go_wp2_with fail
    refine HOF.out.mono ?_
    rintro en w8 ⟨p', rfl, ht8, hf8⟩
    have hgb := HBL.out.1.fr hf8 (by simp)
    have hlb := HBL.out.2.fr hf8 (by simp)
    have g0 : w8.cell? ⟨GB, 0, none⟩ = some (.pointer p) := hgb.cell 0
    have g1 : w8.cell? ⟨GB, 1, none⟩ = some (.bool tl) := hgb.cell 1
    have g2 : w8.cell? ⟨GB, 2, none⟩ = some (.int .i64 eo) := hgb.cell 2
    have z0 := hgb.frozen 0
    have lg := hgb.lt
    have d0 : w8.cell? ⟨L, 0, none⟩ = some (.pointer none) := hlb.cell 0
    have d1 : w8.cell? ⟨L, 1, none⟩ = some (.bool false) := hlb.cell 1
    have d2 : w8.cell? ⟨L, 2, none⟩ = some (.int .i64 0) := hlb.cell 2
    have y0 := hlb.frozen 0
    have y1 := hlb.frozen 1
    have y2 := hlb.frozen 2
    have ll := hlb.lt
    have hne : ¬ GB = L := by have := HNB.out; omega
    have hne2 : ¬ L = GB := fun e => hne e.symm
    have HFIN : Hid (∀ w', Fr [some GB, some L, some D] w8 w' → FDownAns w tl eo xs (.returned (.agg #[.pointer p', .bool tl, .int .i64 eo])) w') := by
      show ∀ _, _
      intro w' hf
      refine ⟨p', rfl, (ht8.fr hf).grow (E' := []) (Fr.refl _ _) fun k hk => by simp at hk, (HFW.out.trans hf8).seq hf fun x hx => ?_⟩
      have h3 := HNB.out
      rcases List.mem_cons.1 hx with e | e
      · exact .inr (.inr ⟨GB, by omega, e⟩)
      · rcases List.mem_cons.1 e with e | e
        · exact .inr (.inr ⟨L, by omega, e⟩)
        · rw [List.mem_singleton] at e; exact .inr (.inr ⟨D, HDD.out, e⟩)
    have HKD8 : Hid (w8.heap[D]? = some (.deferred (some [])) ∧ D ≠ GB ∧ D ≠ L) := by
      refine ⟨(hf8.block D (lt_of_obj HKD.out) (by simp)).trans HKD.out, fun e => ?_, fun e => ?_⟩
      · have h1 := HBL.out.1; have h2 := HKD.out; unfold Blk at h1; rw [e, h1] at h2; cases h2
      · have h1 := HBL.out.2; have h2 := HKD.out; unfold Blk at h1; rw [e, h1] at h2; cases h2
    have HLB8 := Lib.hid hlb
    clear ht8 hf8 hgb hlb HOF o0
    go_wp2_with fail
    obtain ⟨W9, hW9⟩ : ∃ W9, W9 = ((((w8.setCell ⟨GB, 0, none⟩ (.pointer p')).setCell ⟨L, 0, none⟩ (.pointer p')).setCell ⟨L, 1, none⟩ (.bool tl)).setCell ⟨L, 2, none⟩ (.int .i64 eo)) := ⟨_, rfl⟩
    rw [← hW9]
    have hf9 : Fr [some GB, some L] w8 W9 := by
      rw [hW9]
      exact ((((Fr.refl [some GB, some L] w8).setB (fun _ => by simp) _ _).setB (fun _ => by simp) _ _).setB (fun _ => by simp) _ _).setB (fun _ => by simp) _ _
    have hl9 : Blk W9 L TGr #[.pointer p', .bool tl, .int .i64 eo] := by
      rw [hW9]
      have h1 := (((HLB8.out.far (p := ⟨GB, 0, none⟩) hne2 (.pointer p')).set_ 0 (.pointer p')).set_ 1 (.bool tl)).set_ 2 (.int .i64 eo)
      simpa using h1
    have hD9 : W9.heap[D]? = some (.deferred (some [])) := by
      refine (hf9.block D (lt_of_obj HKD8.out.1) fun e => ?_).trans HKD8.out.1
      rcases List.mem_cons.1 e with e | e
      · injection e with e; exact HKD8.out.2.1 e
      · rw [List.mem_singleton] at e; injection e with e; exact HKD8.out.2.2 e
    refine ⟨by simp, .inl ⟨_, _, rfl, run_takeDeferred hD9, ?_⟩⟩
    obtain ⟨W10, hW10⟩ : ∃ W10, W10 = W9.putObj D (.deferred none) := ⟨_, rfl⟩
    rw [← hW10]
    have hl10 : Blk W10 L TGr #[.pointer p', .bool tl, .int .i64 eo] := by
      rw [hW10]
      unfold Blk at hl9 ⊢
      rw [World.putObj_heap_other]
      · exact hl9
      · intro e; exact HKD8.out.2.2 (by first | exact e | exact e.symm)
    have hf10 : Fr [some GB, some L, some D] w8 W10 := by
      rw [hW10]
      refine (hf9.weaken (S' := [some GB, some L, some D]) fun i _ e => ?_).trans ⟨rfl, rfl, rfl, by simp [World.putObj], fun k hk hn => ?_⟩
      · rcases List.mem_cons.1 e with e | e
        · rw [e]; exact List.mem_cons_self ..
        · rw [List.mem_singleton] at e; rw [e]; exact List.mem_cons_of_mem _ (List.mem_cons_self ..)
      · rw [World.putObj_heap_other]
        intro e
        exact hn (by first | (rw [e]; simp) | (rw [← e]; simp))
    have l0 : W10.cell? ⟨L, 0, none⟩ = some (.pointer p') := hl10.cell 0
    have l1 : W10.cell? ⟨L, 1, none⟩ = some (.bool tl) := hl10.cell 1
    have l2 : W10.cell? ⟨L, 2, none⟩ = some (.int .i64 eo) := hl10.cell 2
    clear hl10 hl9 hD9 hf9 hW10 hW9
    exact ⟨.agg #[.pointer p', .bool tl, .int .i64 eo], by simp [results, Try.results43, go_sem, *], HFIN.out W10 hf10⟩
  case stop =>
    rintro D c pre W _ h _
    exact h.elim
end Go.Proofs.Ytblafakafgediaa
namespace Go.Proofs.Ytblafakafgediaa
open Go.RowKit Go.Proofs.Dm

/-- What a row says: its end, whether it is hidden, and what its cells say. -/
abbrev VC := List Nat × Nat × Nat × Bool
abbrev VR := Int × Bool × List VC
def printV (s : List UInt8) (v : VC) : List UInt8 := if v.2.2.2 then cutP s v.2.1 v.2.2.1 else quoteP (atP s v.1)
def saveV (s : List UInt8) (n : Nat) (tl : Bool) (eo : Nat) : Nat → List VR → List UInt8
  | _, [] => []
  | i, r :: rs => pieceP (joinP (r.2.2.map (printV s))) n i tl eo r.1.toNat ++ saveV s n tl eo (i + 1) rs
theorem rowP_view (s : List UInt8) (cs : List CV) : rowP s cs = joinP ((cs.map CV.view).map (printV s)) := by
  unfold rowP
  rw [List.map_map]
  rfl
theorem saves_view (s : List UInt8) (n eo : Nat) (tl : Bool) : ∀ (rs : List RW) (i : Nat), savesP s n tl eo i (rwv rs) = saveV s n tl eo i (rs.map rview)
  | [], _ => rfl
  | r :: rs, i => by
    show pieceP (rowP s r.2) n i tl eo r.1.e.toNat ++ savesP s n tl eo (i + 1) (rwv rs) = pieceP (joinP ((r.2.map CV.view).map (printV s))) n i tl eo r.1.e.toNat ++ saveV s n tl eo (i + 1) (rs.map rview)
    rw [saves_view s n eo tl rs (i + 1), rowP_view]
/-- What may be saved. -/
def okV (v : VR) : Bool := decide (0 ≤ v.1 ∧ v.1 ≤ 3 ∧ v.2.2.length ≤ 100) && v.2.2.all fun c => c.2.2.2 || decide (c.1.length ≤ 2000)
theorem save_view (w : World) (p : Option Addr) (tl : Bool) (eo g n : Nat) (s : List UInt8) (rs : List RW) (vs : List VR) (ha : ArAt g s w) (ht : TreeAt TN [] w p (rs.map Prod.fst)) (hr : RowsAt [] w s.length rs) (hv : rs.map rview = vs) (hn : n = vs.length) (hn7 : n ≤ 700) (hok : vs.all okV = true) (heo : eo ≤ 3) (hs : s.length ≤ 5000) :
    Calls Try.prog 14 #[.agg #[.pointer p, .bool tl, .int .i64 (eo : Nat)], .pointer (some ⟨g, 0, none⟩)] w (BytesAns w (saveV s n tl eo 0 vs)) := by
  have key : ∀ r ∈ rs, 0 ≤ r.1.e ∧ r.1.e ≤ 3 ∧ r.2.length ≤ 100 ∧ ∀ c ∈ r.2, Short c := by
    intro r hr
    have h1 : rview r ∈ vs := by rw [← hv]; exact List.mem_map.2 ⟨r, hr, rfl⟩
    have h2 := List.all_eq_true.1 hok _ h1
    unfold okV at h2
    rw [Bool.and_eq_true, decide_eq_true_eq] at h2
    obtain ⟨⟨h3, h4, h5⟩, h6⟩ := h2
    refine ⟨h3, h4, by simpa [rview] using h5, fun c hc => ?_⟩
    have h7 := List.all_eq_true.1 h6 (CV.view c) (List.mem_map.2 ⟨c, hc, rfl⟩)
    rw [Bool.or_eq_true, decide_eq_true_eq] at h7
    exact h7
  have h := save_any w p tl eo g n s rs ha ht hr (by rw [hn, ← hv, List.length_map]) hn7 (fun r hr => (key r hr).2.2.2) (fun r hr => ⟨r.1.e.toNat, by have := (key r hr).1; omega, by have := (key r hr).2.1; omega⟩) heo hs (fun r hr => (key r hr).2.2.1)
  rw [saves_view s n eo tl rs 0, hv] at h
  exact h
def zeroV : VC := ([], 0, 0, false)
/-- Rows for columns, in what they say. -/
def overV (n : Nat) (vs : List VR) : List VR := (List.range n).map fun c => (((vs[c]?).map (·.1)).getD 0, false, vs.map fun r => (r.2.2[c]?).getD zeroV)
theorem over_view (rs ys : List RW) (h : ys.map rww = overR rs) : ys.map rview = overV (widthP (rs.map Prod.fst)) (rs.map rview) := by
  have h1 : ys.map rview = (ys.map rww).map fun y => (y.1, y.2.1, y.2.2.map CV.view) := by rw [List.map_map]; rfl
  rw [h1, h]
  unfold overR overV
  rw [List.map_map]
  apply List.map_congr_left
  intro c _
  simp only [Function.comp_apply]
  refine Prod.ext ?_ (Prod.ext rfl ?_)
  · show endRP (rs.map Prod.fst) c = _
    unfold endRP
    rw [List.getElem?_map, List.getElem?_map]
    cases rs[c]? with
    | none => rfl
    | some x => rfl
  · show (colR rs c).map CV.view = _
    unfold colR
    rw [List.map_map, List.map_map]
    apply List.map_congr_left
    intro r _
    simp only [Function.comp_apply]
    rw [atC_nat]
    show CV.view _ = ((r.2.map CV.view)[c]?).getD zeroV
    rw [List.getElem?_map]
    cases r.2[c]? with
    | none => rfl
    | some x => rfl
/-- The chapter's example. -/
def e14 : List UInt8 := [97, 44, 98, 10, 99, 10]
def v14 : List VR := (allLines e14).map lview
theorem e14_err : loadErrP e14 = 0 := by decide
theorem e14_tail : tailP ((allLines e14).map (·.e)) = true := by decide
theorem e14_eol : eolP ((allLines e14).map (·.e)) = 1 := by decide
theorem e14_len : v14.length = 2 := by decide
theorem e14_flds : v14.map (·.2.2.length) = [2, 1] := by decide
theorem e14_over : saveV e14 2 true 1 0 (overV 2 v14) = [97, 44, 99, 10, 98, 44, 10] := by decide
theorem e14_down : saveV e14 2 true 1 0 v14.reverse = [99, 10, 97, 44, 98, 10] := by decide
theorem e14_ok : (overV 2 v14).all okV = true ∧ v14.reverse.all okV = true := by decide
end Go.Proofs.Ytblafakafgediaa
