import Derived.Test.YtblafakafgediaaH44
import Derived.Test.YtblafakafgediaaH39
namespace Go.Proofs.Ytblafakafgediaa
open Go.RowKit Go.Proofs.Dm

set_option maxRecDepth 100000 in
set_option maxHeartbeats 800000 in
theorem grow_no (p : Option Addr) (xs : List RV) (tl : Bool) (eo : Int) (i : Int) (w : World) (ht : TreeAt TN [] w p xs) (hi : ¬ (0 ≤ i ∧ i < (xs.length : Nat))) :
    Calls Try.prog 35 #[.agg #[.pointer p, .bool tl, .int .i64 eo], .int .i64 i] w fun e w' => e = .returned (.tuple #[.agg #[.slice none 0 0, .int .i64 0, .bool false], .bool false]) ∧ Fr [] w w' := by
  have HC : Hid (∀ w', Fr [] w w' → Calls Try.prog 71 #[.agg #[.pointer p], .int .i64 i] w' fun e w'' => e = .returned (.tuple #[.agg #[.slice none 0 0, .int .i64 0, .bool false], .bool false]) ∧ Fr [] w' w'') := by
    show ∀ _, _
    intro w' hf
    exact at_no (E := []) p xs i w' (ht.fr0 hf) hi
  obtain ⟨W1, hW1⟩ : ∃ W1, W1 = (w.alloc (.cells #[.pointer p, .bool tl, .int .i64 eo] TGr)).alloc (.cells #[.slice none 0 0, .int .i64 0, .bool false] TRow) := ⟨_, rfl⟩
  have HW : Hid (Fr [] w W1 ∧ Blk W1 (w.heap.size + 1) TRow #[.slice none 0 0, .int .i64 0, .bool false]) := by
    have b2 := Blk.new (w.alloc (.cells #[.pointer p, .bool tl, .int .i64 eo] TGr)) TRow #[.slice none 0 0, .int .i64 0, .bool false]
    rw [World.size_alloc, ← hW1] at b2
    exact ⟨by rw [hW1]; exact ((Fr.refl [] w).alloc _).alloc _, b2⟩
  have HW1 := Lib.hid hW1
  clear ht hi hW1
  go_enter Try.func35, Try.ntmps35
  go_wp2_with fail
  rw [← HW1.out]
  refine (HC.out _ HW.out.1).mono ?_
  rintro en w2 ⟨rfl, hf2⟩
  have hb := HW.out.2.fr hf2 (by simp)
  have l0 : w2.cell? ⟨w.heap.size + 1, 0, none⟩ = some (.slice none 0 0) := hb.cell 0
  have l1 : w2.cell? ⟨w.heap.size + 1, 1, none⟩ = some (.int .i64 0) := hb.cell 1
  have l2 : w2.cell? ⟨w.heap.size + 1, 2, none⟩ = some (.bool false) := hb.cell 2
  have z0 := hb.frozen 0
  have z1 := hb.frozen 1
  have z2 := hb.frozen 2
  have ll := hb.lt
  have HF := Lib.hid (HW.out.1.trans hf2)
  clear hb hf2
  go_wp2_with fail
  refine bodyPost_ret (v := .tuple #[.agg #[.slice none 0 0, .int .i64 0, .bool false], .bool false]) (by simp [results, Try.results35, go_sem, *]) rfl ?_
  have hx : w.heap.size + 1 < w.heap.size → some (w.heap.size + 1) ∈ ([] : List (Option Nat)) := fun h => absurd h (by omega)
  exact ⟨rfl, ((HF.out.setB hx _ _).setB hx _ _).setB hx _ _⟩

/-- How the row of a number ends; 0: there is none. -/
def endRP (xs : List RV) (i : Nat) : Int := ((xs[i]?).map RV.e).getD 0
set_option maxRecDepth 100000 in
set_option maxHeartbeats 800000 in
theorem ending_any (p : Option Addr) (xs : List RV) (tl : Bool) (eo : Int) (i : Nat) (w : World) (ht : TreeAt TN [] w p xs) (hn : xs.length ≤ 100000) :
    Calls Try.prog 45 #[.agg #[.pointer p, .bool tl, .int .i64 eo], .int .i64 (i : Nat)] w fun e w' => e = .returned (.int .i64 (endRP xs i)) ∧ Fr [] w w' := by
  have HF : Hid (Fr [] w (w.alloc (.cells #[.pointer p, .bool tl, .int .i64 eo] TGr))) := (Fr.refl [] w).alloc _
  have HTR : Hid (TreeAt TN [] (w.alloc (.cells #[.pointer p, .bool tl, .int .i64 eo] TGr)) p xs) := ht.fr0 HF.out
  rcases hi : xs[i]? with _ | r
  · have HR := grow_no p xs tl eo (i : Int) _ HTR.out (fun h => by rw [List.getElem?_eq_none_iff] at hi; omega)
    have HE : Hid (endRP xs i = 0) := by show _ = _; unfold endRP; rw [hi]; rfl
    have HR2 := Lib.hid HR
    clear HR hi ht hn HTR
    go_enter Try.func45, Try.ntmps45
    go_wp2_with fail
    refine HR2.out.mono ?_
    rintro en w2 ⟨rfl, hf2⟩
    have HF2 : Hid (Fr [] w w2) := HF.out.trans hf2
    clear hf2
    go_wp2_with fail
    go_ret
    exact ⟨by rw [HE.out]; rfl, HF2.out.alloc _⟩
  · have HR := grow_any p xs tl eo i r _ HTR.out hi hn
    have HE : Hid (endRP xs i = r.e) := by show _ = _; unfold endRP; rw [hi]; rfl
    obtain ⟨A, n, c, e, h⟩ := r
    have HR2 := Lib.hid HR
    clear HR hi ht hn HTR
    go_enter Try.func45, Try.ntmps45
    go_wp2_with fail
    refine HR2.out.mono ?_
    rintro en w2 ⟨rfl, hf2⟩
    have HF2 : Hid (Fr [] w w2) := HF.out.trans hf2
    clear hf2
    go_wp2_with fail
    go_ret
    exact ⟨by rw [HE.out]; rfl, HF2.out.alloc _⟩
set_option maxHeartbeats 800000 in
theorem rowhas_any (w : World) (A : Option Addr) (n c : Nat) (e i : Int) (h : Bool) :
    Calls Try.prog 119 #[.agg #[.slice A n c, .int .i64 e, .bool h], .int .i64 i] w fun en w' => en = .returned (.bool (decide (0 ≤ i ∧ i < (n : Int)))) ∧ Fr [] w w' := by
  by_cases h0 : 0 ≤ i
  · by_cases h1 : i < (n : Int)
    · rw [show decide (0 ≤ i ∧ i < (n : Int)) = true from decide_eq_true ⟨h0, h1⟩]
      go_enter Try.func119, Try.ntmps119
      go_wp2_with fail
      go_ret
      exact ⟨rfl, (Fr.refl [] w).alloc _⟩
    · rw [show decide (0 ≤ i ∧ i < (n : Int)) = false from decide_eq_false fun h => h1 h.2]
      go_enter Try.func119, Try.ntmps119
      go_wp2_with fail
      go_ret
      exact ⟨rfl, (Fr.refl [] w).alloc _⟩
  · rw [show decide (0 ≤ i ∧ i < (n : Int)) = false from decide_eq_false fun h => h0 h.1]
    go_enter Try.func119, Try.ntmps119
    go_wp2_with fail
    go_ret
    exact ⟨rfl, (Fr.refl [] w).alloc _⟩
/-- A row's cell of a number. -/
def atC (cs : List CV) (i : Int) : Option CV := if 0 ≤ i then cs[i.toNat]? else none
def RAtAns (cs : List CV) (i : Int) (w : World) (en : Ending) (w' : World) : Prop :=
  ∃ (B : Option Addr) (m d q a n : Nat) (k : Bool) (sp : List (Nat × Nat)), en = .returned (.tuple #[.agg #[.slice B m d, .int .i64 (q : Nat), .int .i64 (a : Nat), .int .i64 (n : Nat), .bool k], .bool (atC cs i).isSome]) ∧ (atC cs i).getD CV.zero = ⟨B, m, d, sp, q, a, n, k⟩ ∧ Fr [] w w'
set_option maxRecDepth 100000 in
set_option maxHeartbeats 1600000 in
theorem rowat_any (w : World) (A : Option Addr) (n c : Nat) (e i : Int) (h : Bool) (cs : List CV) (hA : Sl w A (cvc cs)) (hn : n = cs.length) (h6 : n ≤ 1000000) :
    Calls Try.prog 85 #[.agg #[.slice A n c, .int .i64 e, .bool h], .int .i64 i] w (RAtAns cs i w) := by
  obtain ⟨W1, hW1⟩ : ∃ W1, W1 = (w.alloc (.cells #[.slice A n c, .int .i64 e, .bool h] TRow)).alloc (.cells #[.slice none 0 0, .int .i64 0, .int .i64 0, .int .i64 0, .bool false] TCl) := ⟨_, rfl⟩
  have HW : Hid (Fr [] w W1 ∧ Blk W1 (w.heap.size + 1) TCl #[.slice none 0 0, .int .i64 0, .int .i64 0, .int .i64 0, .bool false] ∧ Blk W1 w.heap.size TRow #[.slice A n c, .int .i64 e, .bool h]) := by
    have b2 := Blk.new (w.alloc (.cells #[.slice A n c, .int .i64 e, .bool h] TRow)) TCl #[.slice none 0 0, .int .i64 0, .int .i64 0, .int .i64 0, .bool false]
    rw [World.size_alloc, ← hW1] at b2
    exact ⟨by rw [hW1]; exact ((Fr.refl [] w).alloc _).alloc _, b2, by rw [hW1]; exact (Blk.new w TRow _).alloc _⟩
  have HW1 := Lib.hid hW1
  obtain ⟨hb, hhb⟩ : ∃ hb, hb = decide (0 ≤ i ∧ i < (n : Int)) := ⟨_, rfl⟩
  have HH : Hid (∀ w', Calls Try.prog 119 #[.agg #[.slice A n c, .int .i64 e, .bool h], .int .i64 i] w' fun en w'' => en = .returned (.bool hb) ∧ Fr [] w' w'') := by
    show ∀ _, _
    intro w'
    rw [hhb]
    exact rowhas_any w' A n c e i h
  have HL : Hid (∀ (w' : World) (u0 u1 u2 u3 u4 : Value), Fr [] W1 w' → Fr [] w (((((w'.setCell ⟨w.heap.size + 1, 0, none⟩ u0).setCell ⟨w.heap.size + 1, 1, none⟩ u1).setCell ⟨w.heap.size + 1, 2, none⟩ u2).setCell ⟨w.heap.size + 1, 3, none⟩ u3).setCell ⟨w.heap.size + 1, 4, none⟩ u4)) := by
    show ∀ _, _
    intro w' u0 u1 u2 u3 u4 hf
    have hx : w.heap.size + 1 < w.heap.size → some (w.heap.size + 1) ∈ ([] : List (Option Nat)) := fun h => absurd h (by omega)
    exact (((((HW.out.1.trans hf).setB hx _ _).setB hx _ _).setB hx _ _).setB hx _ _).setB hx _ _
  by_cases hi : 0 ≤ i ∧ i < (n : Int)
  · obtain ⟨j, rfl⟩ : ∃ j : Nat, i = (j : Int) := ⟨i.toNat, by omega⟩
    have hhb2 : hb = true := by rw [hhb]; exact decide_eq_true hi
    subst hhb2
    have hj : j < cs.length := by omega
    obtain ⟨bx, rfl, e0, e1⟩ := sl_elem (f := CV.cells) (sz := 5) (fun _ => rfl) hA hj (by omega)
    obtain ⟨x, hx⟩ : ∃ x, x = cs[j] := ⟨_, rfl⟩
    rw [← hx] at e0 e1
    have HD : Hid (atC cs (j : Int) = some x) := by
      show _ = _
      unfold atC
      rw [if_pos hi.1, Int.toNat_natCast, List.getElem?_eq_getElem hj, hx]
    obtain ⟨B, m, d, sp, q, a, k, kp⟩ := x
    have HXC : Hid (∀ w', Fr [] w w' → w'.cell? (bx.add (j * 5)) = some (.slice B m d) ∧ w'.cell? ⟨(bx.add (j * 5)).block, (bx.add (j * 5)).off + 1, none⟩ = some (.int .i64 (q : Nat)) ∧ w'.cell? ⟨(bx.add (j * 5)).block, (bx.add (j * 5)).off + 2, none⟩ = some (.int .i64 (a : Nat)) ∧ w'.cell? ⟨(bx.add (j * 5)).block, (bx.add (j * 5)).off + 3, none⟩ = some (.int .i64 (k : Nat)) ∧ w'.cell? ⟨(bx.add (j * 5)).block, (bx.add (j * 5)).off + 4, none⟩ = some (.bool kp)) := by
      show ∀ _, _
      intro w' hf
      have hkp : ∀ p u, w.cell? p = some u → w'.cell? p = some u := fun p u h => by
        rw [hf.cell (World.block_lt_of_cell? w p h) List.not_mem_nil]; exact h
      exact ⟨hkp _ _ (e0 _ rfl), hkp _ _ (e1 0 _ rfl), hkp _ _ (e1 1 _ rfl), hkp _ _ (e1 2 _ rfl), hkp _ _ (e1 3 _ rfl)⟩
    have r0 : (0 : Int) ≤ (j : Int) := hi.1
    have r1 : (j : Int) < (n : Int) := hi.2
    clear e0 e1 hx hi hj hA hn h6 hhb hW1
    go_enter Try.func85, Try.ntmps85
    go_wp2_with fail
    rw [← HW1.out]
    refine (HH.out W1).mono ?_
    rintro en w2 ⟨rfl, hf2⟩
    have hb2 := HW.out.2.1.fr hf2 (by simp)
    have gb2 := HW.out.2.2.fr hf2 (by simp)
    have g0 : w2.cell? ⟨w.heap.size, 0, none⟩ = some (.slice (some bx) n c) := gb2.cell 0
    obtain ⟨d0, d1, d2, d3, d4⟩ := HXC.out w2 (HW.out.1.trans hf2)
    have l0 : w2.cell? ⟨w.heap.size + 1, 0, none⟩ = some (.slice none 0 0) := hb2.cell 0
    have l1 : w2.cell? ⟨w.heap.size + 1, 1, none⟩ = some (.int .i64 0) := hb2.cell 1
    have l2 : w2.cell? ⟨w.heap.size + 1, 2, none⟩ = some (.int .i64 0) := hb2.cell 2
    have l3 : w2.cell? ⟨w.heap.size + 1, 3, none⟩ = some (.int .i64 0) := hb2.cell 3
    have l4 : w2.cell? ⟨w.heap.size + 1, 4, none⟩ = some (.bool false) := hb2.cell 4
    have z0 := hb2.frozen 0
    have z1 := hb2.frozen 1
    have z2 := hb2.frozen 2
    have z3 := hb2.frozen 3
    have z4 := hb2.frozen 4
    have ll := hb2.lt
    have HF2 := Lib.hid hf2
    clear hb2 gb2 hf2
    go_wp2_with fail
    refine bodyPost_ret (v := .tuple #[.agg #[.slice B m d, .int .i64 (q : Nat), .int .i64 (a : Nat), .int .i64 (k : Nat), .bool kp], .bool true]) (by simp [results, Try.results85, go_sem, *]) rfl ?_
    exact ⟨B, m, d, q, a, k, kp, sp, by rw [HD.out]; rfl, by rw [HD.out]; rfl, HL.out _ _ _ _ _ _ HF2.out⟩
  · have hhb2 : hb = false := by rw [hhb]; exact decide_eq_false hi
    subst hhb2
    have HD : Hid (atC cs i = none) := by
      show _ = _
      unfold atC
      split
      · rw [List.getElem?_eq_none (by omega)]
      · rfl
    clear hi hA hn h6 hhb hW1
    go_enter Try.func85, Try.ntmps85
    go_wp2_with fail
    rw [← HW1.out]
    refine (HH.out W1).mono ?_
    rintro en w2 ⟨rfl, hf2⟩
    have hb2 := HW.out.2.1.fr hf2 (by simp)
    have l0 : w2.cell? ⟨w.heap.size + 1, 0, none⟩ = some (.slice none 0 0) := hb2.cell 0
    have l1 : w2.cell? ⟨w.heap.size + 1, 1, none⟩ = some (.int .i64 0) := hb2.cell 1
    have l2 : w2.cell? ⟨w.heap.size + 1, 2, none⟩ = some (.int .i64 0) := hb2.cell 2
    have l3 : w2.cell? ⟨w.heap.size + 1, 3, none⟩ = some (.int .i64 0) := hb2.cell 3
    have l4 : w2.cell? ⟨w.heap.size + 1, 4, none⟩ = some (.bool false) := hb2.cell 4
    have z0 := hb2.frozen 0
    have z1 := hb2.frozen 1
    have z2 := hb2.frozen 2
    have z3 := hb2.frozen 3
    have z4 := hb2.frozen 4
    have ll := hb2.lt
    have HF2 := Lib.hid hf2
    clear hb2 hf2
    go_wp2_with fail
    refine bodyPost_ret (v := .tuple #[.agg #[.slice none 0 0, .int .i64 0, .int .i64 0, .int .i64 0, .bool false], .bool false]) (by simp [results, Try.results85, go_sem, *]) rfl ?_
    exact ⟨none, 0, 0, 0, 0, 0, false, [], by rw [HD.out]; rfl, by rw [HD.out]; rfl, HL.out _ _ _ _ _ _ HF2.out⟩
end Go.Proofs.Ytblafakafgediaa
namespace Go.Proofs.Ytblafakafgediaa
open Go.RowKit Go.Proofs.Dm

/-- A column's cells; which rows have it. -/
def colR (rs : List RW) (c : Nat) : List CV := rs.map fun r => (atC r.2 (c : Nat)).getD CV.zero
def hasR (rs : List RW) (c : Nat) : List Value := rs.map fun r => Value.bool (atC r.2 (c : Nat)).isSome
theorem colR_len (rs : List RW) (c : Nat) : (colR rs c).length = rs.length := by unfold colR; rw [List.length_map]
theorem hasR_len (rs : List RW) (c : Nat) : (hasR rs c).length = rs.length := by unfold hasR; rw [List.length_map]
theorem cellAt_zero (N : Nat) (w : World) : CellAt N CV.zero w := ⟨.inl rfl, rfl, rfl, fun y hy => by simp [CV.zero] at hy, Nat.zero_le _⟩
theorem atC_nat (cs : List CV) (c : Nat) : atC cs (c : Nat) = cs[c]? := by
  unfold atC
  rw [if_pos (by omega), Int.toNat_natCast]
theorem ccell_zero (s : List UInt8) : ccell s CV.zero = DC.none := rfl
theorem colR_pic (s : List UInt8) (rs : List RW) (c : Nat) : (colR rs c).map (ccell s) = colP (rs.map (rpic s)) c := by
  unfold colR colP
  rw [List.map_map, List.map_map]
  apply List.map_congr_left
  intro r _
  simp only [Function.comp_apply]
  rw [atC_nat]
  show ccell s _ = ((r.2.map (ccell s))[c]?).getD DC.none
  rw [List.getElem?_map]
  cases r.2[c]? with
  | none => rfl
  | some x => rfl
theorem endR_pic (s : List UInt8) (rs : List RW) (c : Nat) : endRP (rs.map Prod.fst) c = endAt (rs.map (rpic s)) c := by
  unfold endRP endAt
  rw [List.getElem?_map, List.getElem?_map]
  cases rs[c]? with
  | none => rfl
  | some x => rfl
theorem widR_pic (s : List UInt8) (rs : List RW) (h : ∀ r ∈ rs, r.1.n = r.2.length) : widthP (rs.map Prod.fst) = picWid (rs.map (rpic s)) := by
  unfold widthP picWid
  rw [List.map_map, List.map_map]
  congr 1
  apply List.map_congr_left
  intro r hr
  show r.1.n = (r.2.map (ccell s)).length
  rw [List.length_map]
  exact h r hr
/-- What a row of the turned grid is. -/
def rww (y : RW) : Int × Bool × List CV := (y.1.e, y.1.h, y.2)
def overR (rs : List RW) : List (Int × Bool × List CV) := (List.range (widthP (rs.map Prod.fst))).map fun c => (endRP (rs.map Prod.fst) c, false, colR rs c)
theorem overR_pic (s : List UInt8) (rs ys : List RW) (h : ∀ r ∈ rs, r.1.n = r.2.length) (hy : ys.map rww = overR rs) : ys.map (rpic s) = overP (rs.map (rpic s)) := by
  have h1 : ys.map (rpic s) = (ys.map rww).map fun v => (v.2.2.map (ccell s), v.1, v.2.1) := by rw [List.map_map]; rfl
  rw [h1, hy]
  unfold overR overP
  rw [List.map_map, widR_pic s rs h]
  apply List.map_congr_left
  intro c _
  simp only [Function.comp_apply]
  rw [colR_pic, endR_pic s]
/-- What 'Cells' answers. -/
def CellsAns (E : List (Option Nat)) (w : World) (N n c : Nat) (rs : List RW) (en : Ending) (w' : World) : Prop :=
  ∃ A B : Nat, en = .returned (.tuple #[.slice (some ⟨A, 0, none⟩) n n, .slice (some ⟨B, 0, none⟩) n n]) ∧ Kp E w' (RowAt N (some ⟨A, 0, none⟩) (colR rs c)) ∧ Kp E w' (fun w => Sl w (some ⟨B, 0, none⟩) (hasR rs c)) ∧ Fr [] w w'
/-- What holds between two rounds of 'Cells': LB, HB the boxes, A, B the rows. -/
structure CL (w2 W : World) (LB HB A B n : Nat) (cs : List CV) (bs : List Value) (j : Nat) : Prop where
  lb : Blk W LB 56 #[.slice (some ⟨A, 0, none⟩) n n]
  hb : Blk W HB 110 #[.slice (some ⟨B, 0, none⟩) n n]
  ab : Blk W A TCl (cvc (cs ++ List.replicate (n - j) CV.zero)).toArray
  bb : Blk W B 4 (bs ++ List.replicate (n - j) (Value.bool false)).toArray
  cl : cs.length = j
  bl : bs.length = j
  fr : Fr [some A, some B] w2 W
  lt : LB < w2.heap.size ∧ HB < w2.heap.size ∧ A < w2.heap.size ∧ B < w2.heap.size
  ne : A ≠ B ∧ LB ≠ A ∧ LB ≠ B ∧ HB ≠ A ∧ HB ≠ B
section
variable {w2 W W' : World} {LB HB A B n j : Nat} {cs : List CV} {bs : List Value}
theorem CL.fr0 (h : CL w2 W LB HB A B n cs bs j) (hf : Fr [] W W') : CL w2 W' LB HB A B n cs bs j :=
  ⟨h.lb.fr hf (by simp), h.hb.fr hf (by simp), h.ab.fr hf (by simp), h.bb.fr hf (by simp), h.cl, h.bl, h.fr.trans hf.of_nil, h.lt, h.ne⟩
theorem CL.ch (h : CL w2 W LB HB A B n cs bs j) (hc : ChI w2.heap.size W W') : CL w2 W' LB HB A B n cs bs j := by
  obtain ⟨l1, l2, l3, l4⟩ := h.lt
  refine ⟨hc.block _ _ h.lb (.inl l1), hc.block _ _ h.hb (.inl l2), hc.block _ _ h.ab (.inl l3), hc.block _ _ h.bb (.inl l4), h.cl, h.bl, ⟨hc.os.trans h.fr.os, hc.tape.trans h.fr.tape, hc.output.trans h.fr.output, Nat.le_trans h.fr.size hc.size, fun k hk hn => ?_⟩, h.lt, h.ne⟩
  have hold := h.fr.block k hk hn
  have hget : w2.heap[k]? = some w2.heap[k] := Array.getElem?_eq_getElem hk
  rw [hget] at hold ⊢
  exact hc.block k _ hold (.inl hk)
theorem CL.keeps {b : Nat} {E : List (Option Nat)} (h : CL w2 W LB HB A B n cs bs j) (hf : Fr [some A, some B] W W') (hb : b = w2.heap.size) (hA : some A ∈ E) (hB : some B ∈ E) : KeepsI E b W W' := by
  subst hb
  refine KeepsI.of_frS hf fun k hk hlt => ?_
  rcases List.mem_cons.1 hk with e | e
  · injection e with e
    subst e
    exact ⟨.inr hA, _, h.ab, by simp [itT]; decide⟩
  · rw [List.mem_singleton] at e
    injection e with e
    subst e
    exact ⟨.inr hB, _, h.bb, by simp [itT]; decide⟩
theorem bools_fit (hc : bs.length = j) (hj : j < n) : j < (bs ++ List.replicate (n - j) (Value.bool false)).length := by
  rw [List.length_append, List.length_replicate]; omega
theorem bools_next (hc : bs.length = j) (hj : j < n) (b : Bool) : (bs ++ List.replicate (n - j) (Value.bool false)).set j (Value.bool b) = (bs ++ [Value.bool b]) ++ List.replicate (n - (j + 1)) (Value.bool false) := by
  rw [List.set_append_right _ _ (by omega), hc, Nat.sub_self, show n - j = (n - (j + 1)) + 1 by omega, List.replicate_succ, List.append_assoc]
  rfl
end
/-- What holds while the columns are made rows: R the rows. -/
structure GV (E : List (Option Nat)) (w0 w : World) (N R n : Nat) (rs : List RW) (j : Nat) (ys : List RW) : Prop where
  rb : Blk w R TRow (flatR (ys.map Prod.fst ++ List.replicate (n - j) RV.none)).toArray
  ln : ys.length = j
  rv : ys.map rww = (List.range j).map fun c => (endRP (rs.map Prod.fst) c, false, colR rs c)
  ok : RowsAt (some R :: E) w N ys
  fr : Fr [] w0 w
  rn : w0.heap.size ≤ R
  jn : j ≤ n
  old : Old E w0
section
variable {E : List (Option Nat)} {w0 w w' : World} {N R n j : Nat} {rs ys : List RW}
theorem GV.fr0 (h : GV E w0 w N R n rs j ys) (hf : Fr [] w w') : GV E w0 w' N R n rs j ys :=
  ⟨h.rb.fr hf (by simp), h.ln, h.rv, h.ok.grow hf.of_nil (fun k hk => .inl hk), h.fr.trans hf, h.rn, h.jn, h.old⟩
theorem GV.oldE (h : GV E w0 w N R n rs j ys) (hf : Fr [] w w') : Old (some R :: E) w' := fun k hk => by
  have h1 := h.rb.lt
  have h3 := hf.size
  have h4 := h.fr.size
  rcases List.mem_cons.1 hk with e | e
  · injection e with e; omega
  · have := h.old k e; omega
theorem GV.step {w1 w5 : World} {A : Option Addr} {m c : Nat} {e : Int} {cs : List CV} (h : GV E w0 w N R n rs j ys) (hj : j < n) (he : e = endRP (rs.map Prod.fst) j) (hcs : cs = colR rs j) (h1 : Fr [] w w1)
    (x1 : m = cs.length) (x2 : m ≤ c) (x3 : Kp (some R :: E) w1 (RowAt N A cs))
    (h5 : Fr [some R] w1 w5) (hR : Blk w5 R TRow ((flatR (ys.map Prod.fst ++ List.replicate (n - j) RV.none)).take (j * 3) ++ ([.slice A m c, .int .i64 e, Value.bool false] : List Value) ++ (flatR (ys.map Prod.fst ++ List.replicate (n - j) RV.none)).drop (j * 3 + 3)).toArray) :
    GV E w0 w5 N R n rs (j + 1) (ys ++ [(⟨A, m, c, e, false⟩, cs)]) := by
  have hf5 : Fr (some R :: E) w1 w5 := h5.weaken fun i _ e => by rw [List.mem_singleton] at e; rw [e]; exact List.mem_cons_self ..
  have hn := rows_next ys (⟨A, m, c, e, false⟩, cs) j n h.ln hj
  refine ⟨by rw [← hn]; exact hR, by simp [h.ln], ?_, ?_, ?_, h.rn, hj, h.old⟩
  · rw [List.map_append, h.rv, List.range_succ, List.map_append]
    congr 1
    simp only [List.map_cons, List.map_nil, rww, he, hcs]
  · intro r hr
    rcases List.mem_append.1 hr with hr | hr
    · have := h.ok r hr
      exact ⟨this.1, this.2.1, (this.2.2.fr0 h1).fr hf5⟩
    · rw [List.mem_singleton] at hr
      subst hr
      exact ⟨x1, x2, x3.fr hf5⟩
  · exact (h.fr.trans h1).seq h5 fun x hx => by rw [List.mem_singleton] at hx; exact .inr (.inr ⟨R, h.rn, hx⟩)
end
def OverAns (w : World) (N : Nat) (tl : Bool) (eo : Int) (rs : List RW) (en : Ending) (w' : World) : Prop :=
  (overErr rs.length ≠ 0 ∧ en = .returned (.tuple #[.agg #[.pointer none, .bool false, .int .i64 0], .int .i64 (overErr rs.length : Nat)]) ∧ Fr [] w w') ∨
  (overErr rs.length = 0 ∧ ∃ (p : Option Addr) (ys : List RW), en = .returned (.tuple #[.agg #[.pointer p, .bool tl, .int .i64 eo], .int .i64 0]) ∧ TreeAt TN [] w' p (ys.map Prod.fst) ∧ RowsAt [] w' N ys ∧ ys.map rww = overR rs ∧ Fr [] w w')
end Go.Proofs.Ytblafakafgediaa
namespace Go.Proofs.Ytblafakafgediaa
open Go.RowKit Go.Proofs.Dm

theorem blk_ne {w : World} {g g' : Nat} {t t' : TypeId} {cs cs' : Array Value} (h : Blk w g t cs) (h' : Blk w g' t' cs') (ht : t ≠ t') : g ≠ g' := fun e => by
  subst e
  unfold Blk at h h'
  rw [h] at h'
  injection h' with h'
  injection h' with _ h'
  exact ht h'
/-- What holds while the two rows are made. -/
structure R1c (W1 : World) (n : Nat) (G : Value) (f : Nat → Bool) (u6 u7 u10 u11 u12 u13 u14 u15 : Value) (w : World) : Prop where
  fr : Fr [] W1 w
  o8 : f 8 = true → f 2 = true ∧ f 6 = true
  o9 : f 9 = true → f 5 = true ∧ f 7 = true
  s0 : f 0 = true → u10 = G
  s1 : f 1 = true → u11 = .int .i64 (n : Nat)
  s2 : f 2 = true → ∃ A, u12 = .slice (some ⟨A, 0, none⟩) n n ∧ Blk w A TCl (cvc (List.replicate n CV.zero)).toArray ∧ W1.heap.size ≤ A
  s3 : f 3 = true → u13 = G
  s4 : f 4 = true → u14 = .int .i64 (n : Nat)
  s5 : f 5 = true → ∃ B, u15 = .slice (some ⟨B, 0, none⟩) n n ∧ Blk w B 4 (List.replicate n (Value.bool false)).toArray ∧ W1.heap.size ≤ B
  s6 : f 6 = true → ∃ L v, u6 = .pointer (some ⟨L, 0, none⟩) ∧ Blk w L 56 #[v] ∧ W1.heap.size ≤ L ∧ (f 8 = true → v = u12)
  s7 : f 7 = true → ∃ L v, u7 = .pointer (some ⟨L, 0, none⟩) ∧ Blk w L 110 #[v] ∧ W1.heap.size ≤ L ∧ (f 9 = true → v = u15)
section
variable {W1 w : World} {n : Nat} {G : Value} {f : Nat → Bool} {u6 u7 u10 u11 u12 u13 u14 u15 : Value}
theorem R1c.p0 (h : R1c W1 n G f u6 u7 u10 u11 u12 u13 u14 u15 w) : R1c W1 n G (addB f 0) u6 u7 (G) u11 u12 u13 u14 u15 w := by
  exact ⟨h.fr,
    (fun hh => ⟨addB_of _ (h.o8 ((addB_ne (by decide)).symm.trans hh)).1, addB_of _ (h.o8 ((addB_ne (by decide)).symm.trans hh)).2⟩),
    (fun hh => ⟨addB_of _ (h.o9 ((addB_ne (by decide)).symm.trans hh)).1, addB_of _ (h.o9 ((addB_ne (by decide)).symm.trans hh)).2⟩),
    (fun _ => rfl),
    (fun hh => h.s1 ((addB_ne (by decide)).symm.trans hh)),
    (fun hh => by obtain ⟨A, a1, a2, a3⟩ := h.s2 ((addB_ne (by decide)).symm.trans hh); exact ⟨A, a1, a2, a3⟩),
    (fun hh => h.s3 ((addB_ne (by decide)).symm.trans hh)),
    (fun hh => h.s4 ((addB_ne (by decide)).symm.trans hh)),
    (fun hh => by obtain ⟨A, a1, a2, a3⟩ := h.s5 ((addB_ne (by decide)).symm.trans hh); exact ⟨A, a1, a2, a3⟩),
    (fun hh => by obtain ⟨L, v, a1, a2, a3, a4⟩ := h.s6 ((addB_ne (by decide)).symm.trans hh); exact ⟨L, v, a1, a2, a3, (fun h8 => a4 ((addB_ne (by decide)).symm.trans h8))⟩),
    (fun hh => by obtain ⟨L, v, a1, a2, a3, a4⟩ := h.s7 ((addB_ne (by decide)).symm.trans hh); exact ⟨L, v, a1, a2, a3, (fun h8 => a4 ((addB_ne (by decide)).symm.trans h8))⟩)⟩
theorem R1c.p3 (h : R1c W1 n G f u6 u7 u10 u11 u12 u13 u14 u15 w) : R1c W1 n G (addB f 3) u6 u7 u10 u11 u12 (G) u14 u15 w := by
  exact ⟨h.fr,
    (fun hh => ⟨addB_of _ (h.o8 ((addB_ne (by decide)).symm.trans hh)).1, addB_of _ (h.o8 ((addB_ne (by decide)).symm.trans hh)).2⟩),
    (fun hh => ⟨addB_of _ (h.o9 ((addB_ne (by decide)).symm.trans hh)).1, addB_of _ (h.o9 ((addB_ne (by decide)).symm.trans hh)).2⟩),
    (fun hh => h.s0 ((addB_ne (by decide)).symm.trans hh)),
    (fun hh => h.s1 ((addB_ne (by decide)).symm.trans hh)),
    (fun hh => by obtain ⟨A, a1, a2, a3⟩ := h.s2 ((addB_ne (by decide)).symm.trans hh); exact ⟨A, a1, a2, a3⟩),
    (fun _ => rfl),
    (fun hh => h.s4 ((addB_ne (by decide)).symm.trans hh)),
    (fun hh => by obtain ⟨A, a1, a2, a3⟩ := h.s5 ((addB_ne (by decide)).symm.trans hh); exact ⟨A, a1, a2, a3⟩),
    (fun hh => by obtain ⟨L, v, a1, a2, a3, a4⟩ := h.s6 ((addB_ne (by decide)).symm.trans hh); exact ⟨L, v, a1, a2, a3, (fun h8 => a4 ((addB_ne (by decide)).symm.trans h8))⟩),
    (fun hh => by obtain ⟨L, v, a1, a2, a3, a4⟩ := h.s7 ((addB_ne (by decide)).symm.trans hh); exact ⟨L, v, a1, a2, a3, (fun h8 => a4 ((addB_ne (by decide)).symm.trans h8))⟩)⟩
theorem R1c.p1 {w2 : World} (hf : Fr [] w w2) (h : R1c W1 n G f u6 u7 u10 u11 u12 u13 u14 u15 w) : R1c W1 n G (addB f 1) u6 u7 u10 (.int .i64 (n : Nat)) u12 u13 u14 u15 w2 := by
  exact ⟨h.fr.trans hf,
    (fun hh => ⟨addB_of _ (h.o8 ((addB_ne (by decide)).symm.trans hh)).1, addB_of _ (h.o8 ((addB_ne (by decide)).symm.trans hh)).2⟩),
    (fun hh => ⟨addB_of _ (h.o9 ((addB_ne (by decide)).symm.trans hh)).1, addB_of _ (h.o9 ((addB_ne (by decide)).symm.trans hh)).2⟩),
    (fun hh => h.s0 ((addB_ne (by decide)).symm.trans hh)),
    (fun _ => rfl),
    (fun hh => by obtain ⟨A, a1, a2, a3⟩ := h.s2 ((addB_ne (by decide)).symm.trans hh); exact ⟨A, a1, a2.fr hf (by simp), a3⟩),
    (fun hh => h.s3 ((addB_ne (by decide)).symm.trans hh)),
    (fun hh => h.s4 ((addB_ne (by decide)).symm.trans hh)),
    (fun hh => by obtain ⟨A, a1, a2, a3⟩ := h.s5 ((addB_ne (by decide)).symm.trans hh); exact ⟨A, a1, a2.fr hf (by simp), a3⟩),
    (fun hh => by obtain ⟨L, v, a1, a2, a3, a4⟩ := h.s6 ((addB_ne (by decide)).symm.trans hh); exact ⟨L, v, a1, a2.fr hf (by simp), a3, (fun h8 => a4 ((addB_ne (by decide)).symm.trans h8))⟩),
    (fun hh => by obtain ⟨L, v, a1, a2, a3, a4⟩ := h.s7 ((addB_ne (by decide)).symm.trans hh); exact ⟨L, v, a1, a2.fr hf (by simp), a3, (fun h8 => a4 ((addB_ne (by decide)).symm.trans h8))⟩)⟩
theorem R1c.p4 {w2 : World} (hf : Fr [] w w2) (h : R1c W1 n G f u6 u7 u10 u11 u12 u13 u14 u15 w) : R1c W1 n G (addB f 4) u6 u7 u10 u11 u12 u13 (.int .i64 (n : Nat)) u15 w2 := by
  exact ⟨h.fr.trans hf,
    (fun hh => ⟨addB_of _ (h.o8 ((addB_ne (by decide)).symm.trans hh)).1, addB_of _ (h.o8 ((addB_ne (by decide)).symm.trans hh)).2⟩),
    (fun hh => ⟨addB_of _ (h.o9 ((addB_ne (by decide)).symm.trans hh)).1, addB_of _ (h.o9 ((addB_ne (by decide)).symm.trans hh)).2⟩),
    (fun hh => h.s0 ((addB_ne (by decide)).symm.trans hh)),
    (fun hh => h.s1 ((addB_ne (by decide)).symm.trans hh)),
    (fun hh => by obtain ⟨A, a1, a2, a3⟩ := h.s2 ((addB_ne (by decide)).symm.trans hh); exact ⟨A, a1, a2.fr hf (by simp), a3⟩),
    (fun hh => h.s3 ((addB_ne (by decide)).symm.trans hh)),
    (fun _ => rfl),
    (fun hh => by obtain ⟨A, a1, a2, a3⟩ := h.s5 ((addB_ne (by decide)).symm.trans hh); exact ⟨A, a1, a2.fr hf (by simp), a3⟩),
    (fun hh => by obtain ⟨L, v, a1, a2, a3, a4⟩ := h.s6 ((addB_ne (by decide)).symm.trans hh); exact ⟨L, v, a1, a2.fr hf (by simp), a3, (fun h8 => a4 ((addB_ne (by decide)).symm.trans h8))⟩),
    (fun hh => by obtain ⟨L, v, a1, a2, a3, a4⟩ := h.s7 ((addB_ne (by decide)).symm.trans hh); exact ⟨L, v, a1, a2.fr hf (by simp), a3, (fun h8 => a4 ((addB_ne (by decide)).symm.trans h8))⟩)⟩
theorem R1c.p2 (hfi : f 2 = false) (h : R1c W1 n G f u6 u7 u10 u11 u12 u13 u14 u15 w) : R1c W1 n G (addB f 2) u6 u7 u10 u11 (.slice (some ⟨w.heap.size, 0, none⟩) n n) u13 u14 u15 (w.alloc (.cells (cvc (List.replicate n CV.zero)).toArray TCl)) := by
  exact ⟨h.fr.alloc _,
    (fun hh => ⟨addB_of _ (h.o8 ((addB_ne (by decide)).symm.trans hh)).1, addB_of _ (h.o8 ((addB_ne (by decide)).symm.trans hh)).2⟩),
    (fun hh => ⟨addB_of _ (h.o9 ((addB_ne (by decide)).symm.trans hh)).1, addB_of _ (h.o9 ((addB_ne (by decide)).symm.trans hh)).2⟩),
    (fun hh => h.s0 ((addB_ne (by decide)).symm.trans hh)),
    (fun hh => h.s1 ((addB_ne (by decide)).symm.trans hh)),
    (fun _ => ⟨_, rfl, Blk.new w _ _, h.fr.size⟩),
    (fun hh => h.s3 ((addB_ne (by decide)).symm.trans hh)),
    (fun hh => h.s4 ((addB_ne (by decide)).symm.trans hh)),
    (fun hh => by obtain ⟨A, a1, a2, a3⟩ := h.s5 ((addB_ne (by decide)).symm.trans hh); exact ⟨A, a1, a2.alloc _, a3⟩),
    (fun hh => by obtain ⟨L, v, a1, a2, a3, a4⟩ := h.s6 ((addB_ne (by decide)).symm.trans hh); exact ⟨L, v, a1, a2.alloc _, a3, fun h8 => absurd ((addB_ne (by decide)).symm.trans h8) (fun e8 => by rw [(h.o8 e8).1] at hfi; cases hfi)⟩),
    (fun hh => by obtain ⟨L, v, a1, a2, a3, a4⟩ := h.s7 ((addB_ne (by decide)).symm.trans hh); exact ⟨L, v, a1, a2.alloc _, a3, (fun h8 => a4 ((addB_ne (by decide)).symm.trans h8))⟩)⟩
theorem R1c.p5 (hfi : f 5 = false) (h : R1c W1 n G f u6 u7 u10 u11 u12 u13 u14 u15 w) : R1c W1 n G (addB f 5) u6 u7 u10 u11 u12 u13 u14 (.slice (some ⟨w.heap.size, 0, none⟩) n n) (w.alloc (.cells (List.replicate n (Value.bool false)).toArray 4)) := by
  exact ⟨h.fr.alloc _,
    (fun hh => ⟨addB_of _ (h.o8 ((addB_ne (by decide)).symm.trans hh)).1, addB_of _ (h.o8 ((addB_ne (by decide)).symm.trans hh)).2⟩),
    (fun hh => ⟨addB_of _ (h.o9 ((addB_ne (by decide)).symm.trans hh)).1, addB_of _ (h.o9 ((addB_ne (by decide)).symm.trans hh)).2⟩),
    (fun hh => h.s0 ((addB_ne (by decide)).symm.trans hh)),
    (fun hh => h.s1 ((addB_ne (by decide)).symm.trans hh)),
    (fun hh => by obtain ⟨A, a1, a2, a3⟩ := h.s2 ((addB_ne (by decide)).symm.trans hh); exact ⟨A, a1, a2.alloc _, a3⟩),
    (fun hh => h.s3 ((addB_ne (by decide)).symm.trans hh)),
    (fun hh => h.s4 ((addB_ne (by decide)).symm.trans hh)),
    (fun _ => ⟨_, rfl, Blk.new w _ _, h.fr.size⟩),
    (fun hh => by obtain ⟨L, v, a1, a2, a3, a4⟩ := h.s6 ((addB_ne (by decide)).symm.trans hh); exact ⟨L, v, a1, a2.alloc _, a3, (fun h8 => a4 ((addB_ne (by decide)).symm.trans h8))⟩),
    (fun hh => by obtain ⟨L, v, a1, a2, a3, a4⟩ := h.s7 ((addB_ne (by decide)).symm.trans hh); exact ⟨L, v, a1, a2.alloc _, a3, fun h8 => absurd ((addB_ne (by decide)).symm.trans h8) (fun e8 => by rw [(h.o9 e8).1] at hfi; cases hfi)⟩)⟩
theorem R1c.p6 (hfi : f 6 = false) (h : R1c W1 n G f u6 u7 u10 u11 u12 u13 u14 u15 w) : R1c W1 n G (addB f 6) (.pointer (some ⟨w.heap.size, 0, none⟩)) u7 u10 u11 u12 u13 u14 u15 (w.alloc (.cells #[.slice none 0 0] 56)) := by
  exact ⟨h.fr.alloc _,
    (fun hh => ⟨addB_of _ (h.o8 ((addB_ne (by decide)).symm.trans hh)).1, addB_of _ (h.o8 ((addB_ne (by decide)).symm.trans hh)).2⟩),
    (fun hh => ⟨addB_of _ (h.o9 ((addB_ne (by decide)).symm.trans hh)).1, addB_of _ (h.o9 ((addB_ne (by decide)).symm.trans hh)).2⟩),
    (fun hh => h.s0 ((addB_ne (by decide)).symm.trans hh)),
    (fun hh => h.s1 ((addB_ne (by decide)).symm.trans hh)),
    (fun hh => by obtain ⟨A, a1, a2, a3⟩ := h.s2 ((addB_ne (by decide)).symm.trans hh); exact ⟨A, a1, a2.alloc _, a3⟩),
    (fun hh => h.s3 ((addB_ne (by decide)).symm.trans hh)),
    (fun hh => h.s4 ((addB_ne (by decide)).symm.trans hh)),
    (fun hh => by obtain ⟨A, a1, a2, a3⟩ := h.s5 ((addB_ne (by decide)).symm.trans hh); exact ⟨A, a1, a2.alloc _, a3⟩),
    (fun _ => ⟨_, _, rfl, Blk.new w _ _, h.fr.size, fun h8 => absurd ((addB_ne (by decide)).symm.trans h8) (fun e8 => by rw [(h.o8 e8).2] at hfi; cases hfi)⟩),
    (fun hh => by obtain ⟨L, v, a1, a2, a3, a4⟩ := h.s7 ((addB_ne (by decide)).symm.trans hh); exact ⟨L, v, a1, a2.alloc _, a3, (fun h8 => a4 ((addB_ne (by decide)).symm.trans h8))⟩)⟩
theorem R1c.p7 (hfi : f 7 = false) (h : R1c W1 n G f u6 u7 u10 u11 u12 u13 u14 u15 w) : R1c W1 n G (addB f 7) u6 (.pointer (some ⟨w.heap.size, 0, none⟩)) u10 u11 u12 u13 u14 u15 (w.alloc (.cells #[.slice none 0 0] 110)) := by
  exact ⟨h.fr.alloc _,
    (fun hh => ⟨addB_of _ (h.o8 ((addB_ne (by decide)).symm.trans hh)).1, addB_of _ (h.o8 ((addB_ne (by decide)).symm.trans hh)).2⟩),
    (fun hh => ⟨addB_of _ (h.o9 ((addB_ne (by decide)).symm.trans hh)).1, addB_of _ (h.o9 ((addB_ne (by decide)).symm.trans hh)).2⟩),
    (fun hh => h.s0 ((addB_ne (by decide)).symm.trans hh)),
    (fun hh => h.s1 ((addB_ne (by decide)).symm.trans hh)),
    (fun hh => by obtain ⟨A, a1, a2, a3⟩ := h.s2 ((addB_ne (by decide)).symm.trans hh); exact ⟨A, a1, a2.alloc _, a3⟩),
    (fun hh => h.s3 ((addB_ne (by decide)).symm.trans hh)),
    (fun hh => h.s4 ((addB_ne (by decide)).symm.trans hh)),
    (fun hh => by obtain ⟨A, a1, a2, a3⟩ := h.s5 ((addB_ne (by decide)).symm.trans hh); exact ⟨A, a1, a2.alloc _, a3⟩),
    (fun hh => by obtain ⟨L, v, a1, a2, a3, a4⟩ := h.s6 ((addB_ne (by decide)).symm.trans hh); exact ⟨L, v, a1, a2.alloc _, a3, (fun h8 => a4 ((addB_ne (by decide)).symm.trans h8))⟩),
    (fun _ => ⟨_, _, rfl, Blk.new w _ _, h.fr.size, fun h8 => absurd ((addB_ne (by decide)).symm.trans h8) (fun e8 => by rw [(h.o9 e8).2] at hfi; cases hfi)⟩)⟩
theorem R1c.p8 (d1 : f 2 = true) (d2 : f 6 = true) {L : Nat} {v0 : Value} (b1 : u6 = .pointer (some ⟨L, 0, none⟩)) (b2 : Blk w L 56 #[v0]) (b3 : W1.heap.size ≤ L) (h : R1c W1 n G f u6 u7 u10 u11 u12 u13 u14 u15 w) : R1c W1 n G (addB f 8) u6 u7 u10 u11 u12 u13 u14 u15 (w.setCell ⟨L, 0, none⟩ u12) := by
  exact ⟨h.fr.setB (fun e => by omega) 0 _,
    (fun _ => ⟨addB_of _ d1, addB_of _ d2⟩),
    (fun hh => ⟨addB_of _ (h.o9 ((addB_ne (by decide)).symm.trans hh)).1, addB_of _ (h.o9 ((addB_ne (by decide)).symm.trans hh)).2⟩),
    (fun hh => h.s0 ((addB_ne (by decide)).symm.trans hh)),
    (fun hh => h.s1 ((addB_ne (by decide)).symm.trans hh)),
    (fun hh => by obtain ⟨A, a1, a2, a3⟩ := h.s2 ((addB_ne (by decide)).symm.trans hh); exact ⟨A, a1, a2.far (blk_ne a2 b2 (by decide)) _, a3⟩),
    (fun hh => h.s3 ((addB_ne (by decide)).symm.trans hh)),
    (fun hh => h.s4 ((addB_ne (by decide)).symm.trans hh)),
    (fun hh => by obtain ⟨A, a1, a2, a3⟩ := h.s5 ((addB_ne (by decide)).symm.trans hh); exact ⟨A, a1, a2.far (blk_ne a2 b2 (by decide)) _, a3⟩),
    (fun hh => ⟨L, u12, b1, b2.set_ 0 _, b3, fun _ => rfl⟩),
    (fun hh => by obtain ⟨L2, v, a1, a2, a3, a4⟩ := h.s7 ((addB_ne (by decide)).symm.trans hh); exact ⟨L2, v, a1, a2.far (blk_ne a2 b2 (by decide)) _, a3, (fun h8 => a4 ((addB_ne (by decide)).symm.trans h8))⟩)⟩
theorem R1c.p9 (d1 : f 5 = true) (d2 : f 7 = true) {L : Nat} {v0 : Value} (b1 : u7 = .pointer (some ⟨L, 0, none⟩)) (b2 : Blk w L 110 #[v0]) (b3 : W1.heap.size ≤ L) (h : R1c W1 n G f u6 u7 u10 u11 u12 u13 u14 u15 w) : R1c W1 n G (addB f 9) u6 u7 u10 u11 u12 u13 u14 u15 (w.setCell ⟨L, 0, none⟩ u15) := by
  exact ⟨h.fr.setB (fun e => by omega) 0 _,
    (fun hh => ⟨addB_of _ (h.o8 ((addB_ne (by decide)).symm.trans hh)).1, addB_of _ (h.o8 ((addB_ne (by decide)).symm.trans hh)).2⟩),
    (fun _ => ⟨addB_of _ d1, addB_of _ d2⟩),
    (fun hh => h.s0 ((addB_ne (by decide)).symm.trans hh)),
    (fun hh => h.s1 ((addB_ne (by decide)).symm.trans hh)),
    (fun hh => by obtain ⟨A, a1, a2, a3⟩ := h.s2 ((addB_ne (by decide)).symm.trans hh); exact ⟨A, a1, a2.far (blk_ne a2 b2 (by decide)) _, a3⟩),
    (fun hh => h.s3 ((addB_ne (by decide)).symm.trans hh)),
    (fun hh => h.s4 ((addB_ne (by decide)).symm.trans hh)),
    (fun hh => by obtain ⟨A, a1, a2, a3⟩ := h.s5 ((addB_ne (by decide)).symm.trans hh); exact ⟨A, a1, a2.far (blk_ne a2 b2 (by decide)) _, a3⟩),
    (fun hh => by obtain ⟨L2, v, a1, a2, a3, a4⟩ := h.s6 ((addB_ne (by decide)).symm.trans hh); exact ⟨L2, v, a1, a2.far (blk_ne a2 b2 (by decide)) _, a3, (fun h8 => a4 ((addB_ne (by decide)).symm.trans h8))⟩),
    (fun hh => ⟨L, u15, b1, b2.set_ 0 _, b3, fun _ => rfl⟩)⟩
theorem R1c.done (h : R1c W1 n G f u6 u7 u10 u11 u12 u13 u14 u15 w) (hall : ∀ i, i < 10 → f i = true) :
    ∃ L H A B, u6 = .pointer (some ⟨L, 0, none⟩) ∧ u7 = .pointer (some ⟨H, 0, none⟩) ∧ u10 = G ∧ u11 = .int .i64 (n : Nat) ∧ u12 = .slice (some ⟨A, 0, none⟩) n n ∧ u13 = G ∧ u14 = .int .i64 (n : Nat) ∧ u15 = .slice (some ⟨B, 0, none⟩) n n ∧
      CL w w L H A B n [] [] 0 ∧ Fr [] W1 w ∧ W1.heap.size ≤ L ∧ W1.heap.size ≤ H ∧ W1.heap.size ≤ A ∧ W1.heap.size ≤ B := by
  obtain ⟨A, a1, a2, a3⟩ := h.s2 (hall 2 (by decide))
  obtain ⟨B, b1, b2, b3⟩ := h.s5 (hall 5 (by decide))
  obtain ⟨L, v, l1, l2, l3, l4⟩ := h.s6 (hall 6 (by decide))
  obtain ⟨H, v', h1, h2, h3, h4⟩ := h.s7 (hall 7 (by decide))
  have l5 := l4 (hall 8 (by decide))
  have h5 := h4 (hall 9 (by decide))
  subst l5 h5
  rw [a1] at l2
  rw [b1] at h2
  exact ⟨L, H, A, B, l1, h1, h.s0 (hall 0 (by decide)), h.s1 (hall 1 (by decide)), a1, h.s3 (hall 3 (by decide)), h.s4 (hall 4 (by decide)), b1,
    ⟨l2, h2, by simpa using a2, by simpa using b2, rfl, rfl, Fr.refl _ _, ⟨l2.lt, h2.lt, a2.lt, b2.lt⟩, blk_ne a2 b2 (by decide), blk_ne l2 a2 (by decide), blk_ne l2 b2 (by decide), blk_ne h2 a2 (by decide), blk_ne h2 b2 (by decide)⟩, h.fr, l3, h3, a3, b3⟩
end
/-- What holds while a round's two are stored. -/
structure R5c (W0 : World) (A B : Nat) (adA adB : Addr) (n i c : Nat) (G X : Value) (b : Bool) (ca cb ba bb : List Value) (f : Nat → Bool) (u23 u24 u25 u26 u27 u28 u29 u30 u31 u32 u33 u34 : Value) (w : World) : Prop where
  fr : Fr [some A, some B] W0 w
  a0 : f 11 = false → Blk w A TCl ca.toArray
  a1 : f 11 = true → Blk w A TCl cb.toArray
  b0 : f 13 = false → Blk w B 4 ba.toArray
  b1 : f 13 = true → Blk w B 4 bb.toArray
  s0 : f 0 = true → u24 = .slice (some adA) n n
  s1 : f 1 = true → u25 = .int .i64 (i : Nat)
  s2 : f 2 = true → u26 = .slice (some adB) n n
  s3 : f 3 = true → u27 = .int .i64 (i : Nat)
  s4 : f 4 = true → u28 = G
  s5 : f 5 = true → u29 = .int .i64 (c : Nat)
  s6 : f 6 = true → u30 = .tuple #[X, .bool b]
  s7 : f 7 = true → u23 = .tuple #[X, .bool b]
  s8 : f 8 = true → u31 = X
  s9 : f 9 = true → u32 = .bool b
  s10 : f 10 = true → u33 = .pointer (some (adA.add (i * 5)))
  s12 : f 12 = true → u34 = .pointer (some (adB.add i))
section
variable {W0 w w2 : World} {A B n i c : Nat} {adA adB : Addr} {G X : Value} {b : Bool} {ca cb ba bb : List Value} {f : Nat → Bool} {u23 u24 u25 u26 u27 u28 u29 u30 u31 u32 u33 u34 : Value}
theorem R5c.p0 (h : R5c W0 A B adA adB n i c G X b ca cb ba bb f u23 u24 u25 u26 u27 u28 u29 u30 u31 u32 u33 u34 w) : R5c W0 A B adA adB n i c G X b ca cb ba bb (addB f 0) u23 (.slice (some adA) n n) u25 u26 u27 u28 u29 u30 u31 u32 u33 u34 w := by
  exact ⟨h.fr,
    (fun hh => h.a0 ((addB_ne (by decide)).symm.trans hh)),
    (fun hh => h.a1 ((addB_ne (by decide)).symm.trans hh)),
    (fun hh => h.b0 ((addB_ne (by decide)).symm.trans hh)),
    (fun hh => h.b1 ((addB_ne (by decide)).symm.trans hh)),
    (fun _ => rfl),
    (fun hh => h.s1 ((addB_ne (by decide)).symm.trans hh)),
    (fun hh => h.s2 ((addB_ne (by decide)).symm.trans hh)),
    (fun hh => h.s3 ((addB_ne (by decide)).symm.trans hh)),
    (fun hh => h.s4 ((addB_ne (by decide)).symm.trans hh)),
    (fun hh => h.s5 ((addB_ne (by decide)).symm.trans hh)),
    (fun hh => h.s6 ((addB_ne (by decide)).symm.trans hh)),
    (fun hh => h.s7 ((addB_ne (by decide)).symm.trans hh)),
    (fun hh => h.s8 ((addB_ne (by decide)).symm.trans hh)),
    (fun hh => h.s9 ((addB_ne (by decide)).symm.trans hh)),
    (fun hh => h.s10 ((addB_ne (by decide)).symm.trans hh)),
    (fun hh => h.s12 ((addB_ne (by decide)).symm.trans hh))⟩
theorem R5c.p1 (h : R5c W0 A B adA adB n i c G X b ca cb ba bb f u23 u24 u25 u26 u27 u28 u29 u30 u31 u32 u33 u34 w) : R5c W0 A B adA adB n i c G X b ca cb ba bb (addB f 1) u23 u24 (.int .i64 (i : Nat)) u26 u27 u28 u29 u30 u31 u32 u33 u34 w := by
  exact ⟨h.fr,
    (fun hh => h.a0 ((addB_ne (by decide)).symm.trans hh)),
    (fun hh => h.a1 ((addB_ne (by decide)).symm.trans hh)),
    (fun hh => h.b0 ((addB_ne (by decide)).symm.trans hh)),
    (fun hh => h.b1 ((addB_ne (by decide)).symm.trans hh)),
    (fun hh => h.s0 ((addB_ne (by decide)).symm.trans hh)),
    (fun _ => rfl),
    (fun hh => h.s2 ((addB_ne (by decide)).symm.trans hh)),
    (fun hh => h.s3 ((addB_ne (by decide)).symm.trans hh)),
    (fun hh => h.s4 ((addB_ne (by decide)).symm.trans hh)),
    (fun hh => h.s5 ((addB_ne (by decide)).symm.trans hh)),
    (fun hh => h.s6 ((addB_ne (by decide)).symm.trans hh)),
    (fun hh => h.s7 ((addB_ne (by decide)).symm.trans hh)),
    (fun hh => h.s8 ((addB_ne (by decide)).symm.trans hh)),
    (fun hh => h.s9 ((addB_ne (by decide)).symm.trans hh)),
    (fun hh => h.s10 ((addB_ne (by decide)).symm.trans hh)),
    (fun hh => h.s12 ((addB_ne (by decide)).symm.trans hh))⟩
theorem R5c.p2 (h : R5c W0 A B adA adB n i c G X b ca cb ba bb f u23 u24 u25 u26 u27 u28 u29 u30 u31 u32 u33 u34 w) : R5c W0 A B adA adB n i c G X b ca cb ba bb (addB f 2) u23 u24 u25 (.slice (some adB) n n) u27 u28 u29 u30 u31 u32 u33 u34 w := by
  exact ⟨h.fr,
    (fun hh => h.a0 ((addB_ne (by decide)).symm.trans hh)),
    (fun hh => h.a1 ((addB_ne (by decide)).symm.trans hh)),
    (fun hh => h.b0 ((addB_ne (by decide)).symm.trans hh)),
    (fun hh => h.b1 ((addB_ne (by decide)).symm.trans hh)),
    (fun hh => h.s0 ((addB_ne (by decide)).symm.trans hh)),
    (fun hh => h.s1 ((addB_ne (by decide)).symm.trans hh)),
    (fun _ => rfl),
    (fun hh => h.s3 ((addB_ne (by decide)).symm.trans hh)),
    (fun hh => h.s4 ((addB_ne (by decide)).symm.trans hh)),
    (fun hh => h.s5 ((addB_ne (by decide)).symm.trans hh)),
    (fun hh => h.s6 ((addB_ne (by decide)).symm.trans hh)),
    (fun hh => h.s7 ((addB_ne (by decide)).symm.trans hh)),
    (fun hh => h.s8 ((addB_ne (by decide)).symm.trans hh)),
    (fun hh => h.s9 ((addB_ne (by decide)).symm.trans hh)),
    (fun hh => h.s10 ((addB_ne (by decide)).symm.trans hh)),
    (fun hh => h.s12 ((addB_ne (by decide)).symm.trans hh))⟩
theorem R5c.p3 (h : R5c W0 A B adA adB n i c G X b ca cb ba bb f u23 u24 u25 u26 u27 u28 u29 u30 u31 u32 u33 u34 w) : R5c W0 A B adA adB n i c G X b ca cb ba bb (addB f 3) u23 u24 u25 u26 (.int .i64 (i : Nat)) u28 u29 u30 u31 u32 u33 u34 w := by
  exact ⟨h.fr,
    (fun hh => h.a0 ((addB_ne (by decide)).symm.trans hh)),
    (fun hh => h.a1 ((addB_ne (by decide)).symm.trans hh)),
    (fun hh => h.b0 ((addB_ne (by decide)).symm.trans hh)),
    (fun hh => h.b1 ((addB_ne (by decide)).symm.trans hh)),
    (fun hh => h.s0 ((addB_ne (by decide)).symm.trans hh)),
    (fun hh => h.s1 ((addB_ne (by decide)).symm.trans hh)),
    (fun hh => h.s2 ((addB_ne (by decide)).symm.trans hh)),
    (fun _ => rfl),
    (fun hh => h.s4 ((addB_ne (by decide)).symm.trans hh)),
    (fun hh => h.s5 ((addB_ne (by decide)).symm.trans hh)),
    (fun hh => h.s6 ((addB_ne (by decide)).symm.trans hh)),
    (fun hh => h.s7 ((addB_ne (by decide)).symm.trans hh)),
    (fun hh => h.s8 ((addB_ne (by decide)).symm.trans hh)),
    (fun hh => h.s9 ((addB_ne (by decide)).symm.trans hh)),
    (fun hh => h.s10 ((addB_ne (by decide)).symm.trans hh)),
    (fun hh => h.s12 ((addB_ne (by decide)).symm.trans hh))⟩
theorem R5c.p4 (h : R5c W0 A B adA adB n i c G X b ca cb ba bb f u23 u24 u25 u26 u27 u28 u29 u30 u31 u32 u33 u34 w) : R5c W0 A B adA adB n i c G X b ca cb ba bb (addB f 4) u23 u24 u25 u26 u27 (G) u29 u30 u31 u32 u33 u34 w := by
  exact ⟨h.fr,
    (fun hh => h.a0 ((addB_ne (by decide)).symm.trans hh)),
    (fun hh => h.a1 ((addB_ne (by decide)).symm.trans hh)),
    (fun hh => h.b0 ((addB_ne (by decide)).symm.trans hh)),
    (fun hh => h.b1 ((addB_ne (by decide)).symm.trans hh)),
    (fun hh => h.s0 ((addB_ne (by decide)).symm.trans hh)),
    (fun hh => h.s1 ((addB_ne (by decide)).symm.trans hh)),
    (fun hh => h.s2 ((addB_ne (by decide)).symm.trans hh)),
    (fun hh => h.s3 ((addB_ne (by decide)).symm.trans hh)),
    (fun _ => rfl),
    (fun hh => h.s5 ((addB_ne (by decide)).symm.trans hh)),
    (fun hh => h.s6 ((addB_ne (by decide)).symm.trans hh)),
    (fun hh => h.s7 ((addB_ne (by decide)).symm.trans hh)),
    (fun hh => h.s8 ((addB_ne (by decide)).symm.trans hh)),
    (fun hh => h.s9 ((addB_ne (by decide)).symm.trans hh)),
    (fun hh => h.s10 ((addB_ne (by decide)).symm.trans hh)),
    (fun hh => h.s12 ((addB_ne (by decide)).symm.trans hh))⟩
theorem R5c.p5 (h : R5c W0 A B adA adB n i c G X b ca cb ba bb f u23 u24 u25 u26 u27 u28 u29 u30 u31 u32 u33 u34 w) : R5c W0 A B adA adB n i c G X b ca cb ba bb (addB f 5) u23 u24 u25 u26 u27 u28 (.int .i64 (c : Nat)) u30 u31 u32 u33 u34 w := by
  exact ⟨h.fr,
    (fun hh => h.a0 ((addB_ne (by decide)).symm.trans hh)),
    (fun hh => h.a1 ((addB_ne (by decide)).symm.trans hh)),
    (fun hh => h.b0 ((addB_ne (by decide)).symm.trans hh)),
    (fun hh => h.b1 ((addB_ne (by decide)).symm.trans hh)),
    (fun hh => h.s0 ((addB_ne (by decide)).symm.trans hh)),
    (fun hh => h.s1 ((addB_ne (by decide)).symm.trans hh)),
    (fun hh => h.s2 ((addB_ne (by decide)).symm.trans hh)),
    (fun hh => h.s3 ((addB_ne (by decide)).symm.trans hh)),
    (fun hh => h.s4 ((addB_ne (by decide)).symm.trans hh)),
    (fun _ => rfl),
    (fun hh => h.s6 ((addB_ne (by decide)).symm.trans hh)),
    (fun hh => h.s7 ((addB_ne (by decide)).symm.trans hh)),
    (fun hh => h.s8 ((addB_ne (by decide)).symm.trans hh)),
    (fun hh => h.s9 ((addB_ne (by decide)).symm.trans hh)),
    (fun hh => h.s10 ((addB_ne (by decide)).symm.trans hh)),
    (fun hh => h.s12 ((addB_ne (by decide)).symm.trans hh))⟩
theorem R5c.p6 (hf : Fr [] w w2) (h : R5c W0 A B adA adB n i c G X b ca cb ba bb f u23 u24 u25 u26 u27 u28 u29 u30 u31 u32 u33 u34 w) : R5c W0 A B adA adB n i c G X b ca cb ba bb (addB f 6) u23 u24 u25 u26 u27 u28 u29 (.tuple #[X, .bool b]) u31 u32 u33 u34 w2 := by
  exact ⟨h.fr.trans hf.of_nil,
    (fun hh => (h.a0 ((addB_ne (by decide)).symm.trans hh)).fr hf (by simp)),
    (fun hh => (h.a1 ((addB_ne (by decide)).symm.trans hh)).fr hf (by simp)),
    (fun hh => (h.b0 ((addB_ne (by decide)).symm.trans hh)).fr hf (by simp)),
    (fun hh => (h.b1 ((addB_ne (by decide)).symm.trans hh)).fr hf (by simp)),
    (fun hh => h.s0 ((addB_ne (by decide)).symm.trans hh)),
    (fun hh => h.s1 ((addB_ne (by decide)).symm.trans hh)),
    (fun hh => h.s2 ((addB_ne (by decide)).symm.trans hh)),
    (fun hh => h.s3 ((addB_ne (by decide)).symm.trans hh)),
    (fun hh => h.s4 ((addB_ne (by decide)).symm.trans hh)),
    (fun hh => h.s5 ((addB_ne (by decide)).symm.trans hh)),
    (fun _ => rfl),
    (fun hh => h.s7 ((addB_ne (by decide)).symm.trans hh)),
    (fun hh => h.s8 ((addB_ne (by decide)).symm.trans hh)),
    (fun hh => h.s9 ((addB_ne (by decide)).symm.trans hh)),
    (fun hh => h.s10 ((addB_ne (by decide)).symm.trans hh)),
    (fun hh => h.s12 ((addB_ne (by decide)).symm.trans hh))⟩
theorem R5c.p7 (h : R5c W0 A B adA adB n i c G X b ca cb ba bb f u23 u24 u25 u26 u27 u28 u29 u30 u31 u32 u33 u34 w) : R5c W0 A B adA adB n i c G X b ca cb ba bb (addB f 7) (.tuple #[X, .bool b]) u24 u25 u26 u27 u28 u29 u30 u31 u32 u33 u34 w := by
  exact ⟨h.fr,
    (fun hh => h.a0 ((addB_ne (by decide)).symm.trans hh)),
    (fun hh => h.a1 ((addB_ne (by decide)).symm.trans hh)),
    (fun hh => h.b0 ((addB_ne (by decide)).symm.trans hh)),
    (fun hh => h.b1 ((addB_ne (by decide)).symm.trans hh)),
    (fun hh => h.s0 ((addB_ne (by decide)).symm.trans hh)),
    (fun hh => h.s1 ((addB_ne (by decide)).symm.trans hh)),
    (fun hh => h.s2 ((addB_ne (by decide)).symm.trans hh)),
    (fun hh => h.s3 ((addB_ne (by decide)).symm.trans hh)),
    (fun hh => h.s4 ((addB_ne (by decide)).symm.trans hh)),
    (fun hh => h.s5 ((addB_ne (by decide)).symm.trans hh)),
    (fun hh => h.s6 ((addB_ne (by decide)).symm.trans hh)),
    (fun _ => rfl),
    (fun hh => h.s8 ((addB_ne (by decide)).symm.trans hh)),
    (fun hh => h.s9 ((addB_ne (by decide)).symm.trans hh)),
    (fun hh => h.s10 ((addB_ne (by decide)).symm.trans hh)),
    (fun hh => h.s12 ((addB_ne (by decide)).symm.trans hh))⟩
theorem R5c.p8 (h : R5c W0 A B adA adB n i c G X b ca cb ba bb f u23 u24 u25 u26 u27 u28 u29 u30 u31 u32 u33 u34 w) : R5c W0 A B adA adB n i c G X b ca cb ba bb (addB f 8) u23 u24 u25 u26 u27 u28 u29 u30 (X) u32 u33 u34 w := by
  exact ⟨h.fr,
    (fun hh => h.a0 ((addB_ne (by decide)).symm.trans hh)),
    (fun hh => h.a1 ((addB_ne (by decide)).symm.trans hh)),
    (fun hh => h.b0 ((addB_ne (by decide)).symm.trans hh)),
    (fun hh => h.b1 ((addB_ne (by decide)).symm.trans hh)),
    (fun hh => h.s0 ((addB_ne (by decide)).symm.trans hh)),
    (fun hh => h.s1 ((addB_ne (by decide)).symm.trans hh)),
    (fun hh => h.s2 ((addB_ne (by decide)).symm.trans hh)),
    (fun hh => h.s3 ((addB_ne (by decide)).symm.trans hh)),
    (fun hh => h.s4 ((addB_ne (by decide)).symm.trans hh)),
    (fun hh => h.s5 ((addB_ne (by decide)).symm.trans hh)),
    (fun hh => h.s6 ((addB_ne (by decide)).symm.trans hh)),
    (fun hh => h.s7 ((addB_ne (by decide)).symm.trans hh)),
    (fun _ => rfl),
    (fun hh => h.s9 ((addB_ne (by decide)).symm.trans hh)),
    (fun hh => h.s10 ((addB_ne (by decide)).symm.trans hh)),
    (fun hh => h.s12 ((addB_ne (by decide)).symm.trans hh))⟩
theorem R5c.p9 (h : R5c W0 A B adA adB n i c G X b ca cb ba bb f u23 u24 u25 u26 u27 u28 u29 u30 u31 u32 u33 u34 w) : R5c W0 A B adA adB n i c G X b ca cb ba bb (addB f 9) u23 u24 u25 u26 u27 u28 u29 u30 u31 (.bool b) u33 u34 w := by
  exact ⟨h.fr,
    (fun hh => h.a0 ((addB_ne (by decide)).symm.trans hh)),
    (fun hh => h.a1 ((addB_ne (by decide)).symm.trans hh)),
    (fun hh => h.b0 ((addB_ne (by decide)).symm.trans hh)),
    (fun hh => h.b1 ((addB_ne (by decide)).symm.trans hh)),
    (fun hh => h.s0 ((addB_ne (by decide)).symm.trans hh)),
    (fun hh => h.s1 ((addB_ne (by decide)).symm.trans hh)),
    (fun hh => h.s2 ((addB_ne (by decide)).symm.trans hh)),
    (fun hh => h.s3 ((addB_ne (by decide)).symm.trans hh)),
    (fun hh => h.s4 ((addB_ne (by decide)).symm.trans hh)),
    (fun hh => h.s5 ((addB_ne (by decide)).symm.trans hh)),
    (fun hh => h.s6 ((addB_ne (by decide)).symm.trans hh)),
    (fun hh => h.s7 ((addB_ne (by decide)).symm.trans hh)),
    (fun hh => h.s8 ((addB_ne (by decide)).symm.trans hh)),
    (fun _ => rfl),
    (fun hh => h.s10 ((addB_ne (by decide)).symm.trans hh)),
    (fun hh => h.s12 ((addB_ne (by decide)).symm.trans hh))⟩
theorem R5c.p10 (h : R5c W0 A B adA adB n i c G X b ca cb ba bb f u23 u24 u25 u26 u27 u28 u29 u30 u31 u32 u33 u34 w) : R5c W0 A B adA adB n i c G X b ca cb ba bb (addB f 10) u23 u24 u25 u26 u27 u28 u29 u30 u31 u32 (.pointer (some (adA.add (i * 5)))) u34 w := by
  exact ⟨h.fr,
    (fun hh => h.a0 ((addB_ne (by decide)).symm.trans hh)),
    (fun hh => h.a1 ((addB_ne (by decide)).symm.trans hh)),
    (fun hh => h.b0 ((addB_ne (by decide)).symm.trans hh)),
    (fun hh => h.b1 ((addB_ne (by decide)).symm.trans hh)),
    (fun hh => h.s0 ((addB_ne (by decide)).symm.trans hh)),
    (fun hh => h.s1 ((addB_ne (by decide)).symm.trans hh)),
    (fun hh => h.s2 ((addB_ne (by decide)).symm.trans hh)),
    (fun hh => h.s3 ((addB_ne (by decide)).symm.trans hh)),
    (fun hh => h.s4 ((addB_ne (by decide)).symm.trans hh)),
    (fun hh => h.s5 ((addB_ne (by decide)).symm.trans hh)),
    (fun hh => h.s6 ((addB_ne (by decide)).symm.trans hh)),
    (fun hh => h.s7 ((addB_ne (by decide)).symm.trans hh)),
    (fun hh => h.s8 ((addB_ne (by decide)).symm.trans hh)),
    (fun hh => h.s9 ((addB_ne (by decide)).symm.trans hh)),
    (fun _ => rfl),
    (fun hh => h.s12 ((addB_ne (by decide)).symm.trans hh))⟩
theorem R5c.p12 (h : R5c W0 A B adA adB n i c G X b ca cb ba bb f u23 u24 u25 u26 u27 u28 u29 u30 u31 u32 u33 u34 w) : R5c W0 A B adA adB n i c G X b ca cb ba bb (addB f 12) u23 u24 u25 u26 u27 u28 u29 u30 u31 u32 u33 (.pointer (some (adB.add i))) w := by
  exact ⟨h.fr,
    (fun hh => h.a0 ((addB_ne (by decide)).symm.trans hh)),
    (fun hh => h.a1 ((addB_ne (by decide)).symm.trans hh)),
    (fun hh => h.b0 ((addB_ne (by decide)).symm.trans hh)),
    (fun hh => h.b1 ((addB_ne (by decide)).symm.trans hh)),
    (fun hh => h.s0 ((addB_ne (by decide)).symm.trans hh)),
    (fun hh => h.s1 ((addB_ne (by decide)).symm.trans hh)),
    (fun hh => h.s2 ((addB_ne (by decide)).symm.trans hh)),
    (fun hh => h.s3 ((addB_ne (by decide)).symm.trans hh)),
    (fun hh => h.s4 ((addB_ne (by decide)).symm.trans hh)),
    (fun hh => h.s5 ((addB_ne (by decide)).symm.trans hh)),
    (fun hh => h.s6 ((addB_ne (by decide)).symm.trans hh)),
    (fun hh => h.s7 ((addB_ne (by decide)).symm.trans hh)),
    (fun hh => h.s8 ((addB_ne (by decide)).symm.trans hh)),
    (fun hh => h.s9 ((addB_ne (by decide)).symm.trans hh)),
    (fun hh => h.s10 ((addB_ne (by decide)).symm.trans hh)),
    (fun _ => rfl)⟩
theorem R5c.p11 (hb : Blk w2 A TCl cb.toArray) (hg9 : Fr [some A] w w2) (hne : A ≠ B) (h : R5c W0 A B adA adB n i c G X b ca cb ba bb f u23 u24 u25 u26 u27 u28 u29 u30 u31 u32 u33 u34 w) : R5c W0 A B adA adB n i c G X b ca cb ba bb (addB f 11) u23 u24 u25 u26 u27 u28 u29 u30 u31 u32 u33 u34 w2 := by
  have hg : Fr [some A, some B] w w2 := hg9.weaken fun i _ e => by rw [List.mem_singleton] at e; rw [e]; exact List.mem_cons_self ..
  have hn : some B ∉ [some A] := fun e => by rw [List.mem_singleton] at e; injection e with e; exact hne e.symm
  exact ⟨h.fr.trans hg,
    (fun hh => by rw [addB_self] at hh; cases hh),
    (fun _ => hb),
    (fun hh => (h.b0 ((addB_ne (by decide)).symm.trans hh)).fr hg9 hn),
    (fun hh => (h.b1 ((addB_ne (by decide)).symm.trans hh)).fr hg9 hn),
    (fun hh => h.s0 ((addB_ne (by decide)).symm.trans hh)),
    (fun hh => h.s1 ((addB_ne (by decide)).symm.trans hh)),
    (fun hh => h.s2 ((addB_ne (by decide)).symm.trans hh)),
    (fun hh => h.s3 ((addB_ne (by decide)).symm.trans hh)),
    (fun hh => h.s4 ((addB_ne (by decide)).symm.trans hh)),
    (fun hh => h.s5 ((addB_ne (by decide)).symm.trans hh)),
    (fun hh => h.s6 ((addB_ne (by decide)).symm.trans hh)),
    (fun hh => h.s7 ((addB_ne (by decide)).symm.trans hh)),
    (fun hh => h.s8 ((addB_ne (by decide)).symm.trans hh)),
    (fun hh => h.s9 ((addB_ne (by decide)).symm.trans hh)),
    (fun hh => h.s10 ((addB_ne (by decide)).symm.trans hh)),
    (fun hh => h.s12 ((addB_ne (by decide)).symm.trans hh))⟩
theorem R5c.p13 (hb : Blk w2 B 4 bb.toArray) (hg9 : Fr [some B] w w2) (hne : A ≠ B) (h : R5c W0 A B adA adB n i c G X b ca cb ba bb f u23 u24 u25 u26 u27 u28 u29 u30 u31 u32 u33 u34 w) : R5c W0 A B adA adB n i c G X b ca cb ba bb (addB f 13) u23 u24 u25 u26 u27 u28 u29 u30 u31 u32 u33 u34 w2 := by
  have hg : Fr [some A, some B] w w2 := hg9.weaken fun i _ e => by rw [List.mem_singleton] at e; rw [e]; exact List.mem_cons_of_mem _ (List.mem_singleton.2 rfl)
  have hn : some A ∉ [some B] := fun e => by rw [List.mem_singleton] at e; injection e with e; exact hne e
  exact ⟨h.fr.trans hg,
    (fun hh => (h.a0 ((addB_ne (by decide)).symm.trans hh)).fr hg9 hn),
    (fun hh => (h.a1 ((addB_ne (by decide)).symm.trans hh)).fr hg9 hn),
    (fun hh => by rw [addB_self] at hh; cases hh),
    (fun _ => hb),
    (fun hh => h.s0 ((addB_ne (by decide)).symm.trans hh)),
    (fun hh => h.s1 ((addB_ne (by decide)).symm.trans hh)),
    (fun hh => h.s2 ((addB_ne (by decide)).symm.trans hh)),
    (fun hh => h.s3 ((addB_ne (by decide)).symm.trans hh)),
    (fun hh => h.s4 ((addB_ne (by decide)).symm.trans hh)),
    (fun hh => h.s5 ((addB_ne (by decide)).symm.trans hh)),
    (fun hh => h.s6 ((addB_ne (by decide)).symm.trans hh)),
    (fun hh => h.s7 ((addB_ne (by decide)).symm.trans hh)),
    (fun hh => h.s8 ((addB_ne (by decide)).symm.trans hh)),
    (fun hh => h.s9 ((addB_ne (by decide)).symm.trans hh)),
    (fun hh => h.s10 ((addB_ne (by decide)).symm.trans hh)),
    (fun hh => h.s12 ((addB_ne (by decide)).symm.trans hh))⟩
end
theorem CL.base {w2 W : World} {LB HB A B n j : Nat} {cs : List CV} {bs : List Value} (h : CL w2 W LB HB A B n cs bs j) : CL W W LB HB A B n cs bs j :=
  ⟨h.lb, h.hb, h.ab, h.bb, h.cl, h.bl, Fr.refl _ _, ⟨h.lb.lt, h.hb.lt, h.ab.lt, h.bb.lt⟩, h.ne⟩
theorem cells_nextx (cs : List CV) (x : CV) (j m : Nat) (hc : cs.length = j) (hj : j < m) : (cvc (cs ++ List.replicate (m - j) CV.zero)).take (j * 5) ++ x.cells ++ (cvc (cs ++ List.replicate (m - j) CV.zero)).drop (j * 5 + 5) = cvc (cs ++ [x] ++ List.replicate (m - (j + 1)) CV.zero) := by
  have h := flat_set (f := CV.cells) (sz := 5) (fun _ => rfl) (cs ++ List.replicate (m - j) CV.zero) j x (by simp; omega)
  unfold cvc
  rw [← h]
  congr 1
  rw [List.set_append_right _ _ (by omega), hc, Nat.sub_self, show m - j = (m - (j + 1)) + 1 by omega, List.replicate_succ, List.append_assoc]
  rfl
theorem CL.next {w2 W W' : World} {LB HB A B n j : Nat} {cs : List CV} {bs : List Value} {x : CV} {b : Bool} (h : CL w2 W LB HB A B n cs bs j) (hj : j < n) (hf : Fr [some A, some B] W W')
    (ha : Blk W' A TCl (cvc (cs ++ [x] ++ List.replicate (n - (j + 1)) CV.zero)).toArray) (hb : Blk W' B 4 ((bs ++ [Value.bool b]) ++ List.replicate (n - (j + 1)) (Value.bool false)).toArray) :
    CL w2 W' LB HB A B n (cs ++ [x]) (bs ++ [Value.bool b]) (j + 1) := by
  obtain ⟨n1, n2, n3, n4, n5⟩ := h.ne
  have key : ∀ k, k ≠ A → k ≠ B → some k ∉ [some A, some B] := fun k h1 h2 e => by
    rcases List.mem_cons.1 e with e | e
    · injection e with e; exact h1 e
    · rw [List.mem_singleton] at e; injection e with e; exact h2 e
  exact ⟨h.lb.fr hf (key _ n2 n3), h.hb.fr hf (key _ n4 n5), ha, hb, by simp [h.cl], by simp [h.bl], h.fr.trans hf, h.lt, h.ne⟩
/-- A bool, stored into a row's element. -/
theorem store1 {v : World} {R i : Nat} {t : TypeId} {cs : List Value} {ad : Addr} (had : ad = ⟨R, 0, none⟩) (hb : Blk v R t cs.toArray) (hi : i < cs.length) (u : Value) :
    (∃ o, v.cell? (ad.add i) = some o) ∧ v.frozen? (ad.add i) = false ∧ (ad.add i).block < v.heap.size ∧ Blk (v.setCell (ad.add i) u) R t (cs.set i u).toArray ∧ Fr [some R] v (v.setCell (ad.add i) u) := by
  subst had
  rw [add_lit]
  refine ⟨⟨cs[i], ?_⟩, hb.frozen _, hb.lt, ?_, (Fr.refl [some R] v).setB (by simp) _ _⟩
  · rw [hb.cell]; simp [hi]
  · have := hb.set_ i u
    simpa using this
end Go.Proofs.Ytblafakafgediaa
