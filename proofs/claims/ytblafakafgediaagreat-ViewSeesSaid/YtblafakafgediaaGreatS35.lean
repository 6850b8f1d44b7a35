import Derived.Test.YtblafakafgediaaGreatS25
import Derived.Test.YtblafakafgediaaGreatS34
import Derived.Test.YtblafakafgediaaGreatS30
import Derived.IntWalk
import Derived.Deep.LoopGhost
namespace Go.Proofs.YtblafakafgediaaGreat
open Go.RowKit Go.Shelf Go.Proofs.Dm
attribute [local go_sem] Oper.semAt_some
def FuncNewB (w : World) (p : Option Addr) (i j : Nat) (en : Ending) (w' : World) : Prop :=
  ∃ bi bj bt : Nat, en = .returned (.func (.func 159) #[] #[.pointer (some ⟨bi, 0, none⟩), .pointer (some ⟨bj, 0, none⟩), .pointer (some ⟨bt, 0, none⟩)]) ∧
    w'.cell? ⟨bi, 0, none⟩ = some (.int .i64 (i : Nat)) ∧ w'.cell? ⟨bj, 0, none⟩ = some (.int .i64 (j : Nat)) ∧ w'.cell? ⟨bt, 0, none⟩ = some (.pointer p) ∧ Fr [] w w' ∧ w.heap.size ≤ bi ∧ w.heap.size ≤ bj ∧ w.heap.size ≤ bt
end Go.Proofs.YtblafakafgediaaGreat
namespace Go.Proofs.YtblafakafgediaaGreat
open Go.RowKit Go.Proofs.Dm

set_option maxHeartbeats 800000 in
theorem dhas_any (w : World) (B : Option Addr) (m d : Nat) (t : Bool) (e i : Int) :
    Calls Tryz.prog 115 #[.agg #[.slice B m d, .bool t, .int .i64 e], .int .i64 i] w fun en w' => en = .returned (.bool (decide (0 ≤ i ∧ i < (m : Int)))) ∧ Fr [] w w' := by
  by_cases h0 : 0 ≤ i
  · by_cases h1 : i < (m : Int)
    · rw [show decide (0 ≤ i ∧ i < (m : Int)) = true from decide_eq_true ⟨h0, h1⟩]
      go_enter Tryz.func115, Tryz.ntmps115
      go_wp2_with fail
      go_ret
      exact ⟨rfl, (Fr.refl [] w).alloc _⟩
    · rw [show decide (0 ≤ i ∧ i < (m : Int)) = false from decide_eq_false fun h => h1 h.2]
      go_enter Tryz.func115, Tryz.ntmps115
      go_wp2_with fail
      go_ret
      exact ⟨rfl, (Fr.refl [] w).alloc _⟩
  · rw [show decide (0 ≤ i ∧ i < (m : Int)) = false from decide_eq_false fun h => h0 h.1]
    go_enter Tryz.func115, Tryz.ntmps115
    go_wp2_with fail
    go_ret
    exact ⟨rfl, (Fr.refl [] w).alloc _⟩
def dwidP (xs : List RD) : Nat := (xs.map (·.cs.length)).foldl max 0
set_option maxRecDepth 100000 in
set_option maxHeartbeats 1600000 in
theorem dwidth_any (w : World) (x : GD) (hx : GDAt x w) (h6 : x.m ≤ 100000) (h7 : ∀ r ∈ x.rs, r.m ≤ 1000000) :
    Calls Tryz.prog 52 #[.agg #[.slice x.B x.m x.d, .bool x.t, .int .i64 x.e]] w fun en w' => en = .returned (.int .i64 (dwidP x.rs : Nat)) ∧ Fr [] w w' := by
  obtain ⟨A, n, c, xs, xt, xen⟩ := x
  obtain ⟨W1, hW1⟩ : ∃ W1, W1 = w.alloc (.cells #[.slice A n c, .bool xt, .int .i64 xen] TD11) := ⟨_, rfl⟩
  have HF : Hid (Fr [] w W1) := by show Fr _ _ _; rw [hW1]; exact (Fr.refl [] w).alloc _
  have HA : Hid (Sl w A (rdc xs) ∧ n = xs.length ∧ (∀ r ∈ xs, RDAt r w) ∧ ∀ r ∈ xs, r.m ≤ 1000000) := ⟨hx.1, hx.2.1, hx.2.2, h7⟩
  have HW1 := Lib.hid hW1
  simp only at h6
  have n6 : (n : Int) ≤ 100000 := by omega
  clear hx h6 h7 hW1
  go_enter Tryz.func52, Tryz.ntmps52
  go_wp2_with fail
  rw [← HW1.out]
  go_loopw [9, 3] (fun iv ov wr => ∃ (j k : Nat), iv = .int .i64 j ∧ ov = .int .i64 k ∧ j ≤ n ∧ Hid (k = dwidP (xs.take j) ∧ Fr [] w wr)) (fun iv _ _ => n - (intOf iv).toNat)
  case atStart => exact ⟨0, 0, rfl, rfl, Nat.zero_le _, rfl, HF.out⟩
  case round =>
    obtain ⟨j, k, rfl, rfl, hj, HJ⟩ := hrel
    by_cases hlt : j < n
    · have hx1 : j < xs.length := by rw [← HA.out.2.1]; exact hlt
      obtain ⟨bx, rfl, e0, e1⟩ := sl_elem (f := RD.cells) (sz := 3) (fun _ => rfl) (HA.out.1.fr HJ.out.2 (.inr List.not_mem_nil)) hx1 (by omega)
      obtain ⟨x, hx⟩ : ∃ x, x = xs[j] := ⟨_, rfl⟩
      rw [← hx] at e0 e1
      have hxm : x ∈ xs := by rw [hx]; exact List.getElem_mem hx1
      have HT : Hid (dwidP (xs.take (j + 1)) = max k x.m) := by
        show _ = _
        rw [List.take_succ_eq_append_getElem hx1, ← hx, HJ.out.1, (HA.out.2.2.1 x hxm).2]
        simp [dwidP]
      have hm6 := HA.out.2.2.2 x hxm
      obtain ⟨xB, xm, xd, xcs, xe, xh⟩ := x
      simp only at HT hm6
      have c0 : wr.cell? (bx.add (j * 3)) = some (.slice xB xm xd) := e0 _ rfl
      have c1 : wr.cell? ⟨(bx.add (j * 3)).block, (bx.add (j * 3)).off + 1, none⟩ = some (.int .i64 xe) := e1 0 _ rfl
      have c2 : wr.cell? ⟨(bx.add (j * 3)).block, (bx.add (j * 3)).off + 2, none⟩ = some (.bool xh) := e1 1 _ rfl
      have HF2 : Hid (Fr [] w (wr.alloc (.cells #[.slice xB xm xd, .int .i64 xe, .bool xh] TD8))) := HJ.out.2.alloc _
      have i0 : (0 : Int) ≤ (j : Int) := by omega
      have i1 : (j : Int) < (n : Int) := by omega
      clear e0 e1 hx hx1 hxm
      rcases Nat.lt_or_ge k xm with hkm | hkm
      · have h1 : (k : Int) < (xm : Int) := by omega
        have HT2 : Hid (xm = dwidP (xs.take (j + 1))) := by show _ = _; rw [HT.out]; omega
        clear hkm hm6
        go_wp2_with fail
        go_roundw
        case rel => exact ⟨j + 1, xm, by go_num, rfl, by omega, HT2.out, HF2.out⟩
        case measure => simp [intOf]; omega
      · have h1 : ¬ (k : Int) < (xm : Int) := by omega
        have HT2 : Hid (k = dwidP (xs.take (j + 1))) := by show _ = _; rw [HT.out]; omega
        clear hkm hm6
        go_wp2_with fail
        go_roundw
        case rel => exact ⟨j + 1, k, by go_num, rfl, by omega, HT2.out, HF2.out⟩
        case measure => simp [intOf]; omega
    · obtain rfl : j = n := by omega
      have HE : Hid (k = dwidP xs ∧ Fr [] w wr) := by
        have := HJ.out.1
        rw [List.take_of_length_le (by have := HA.out.2.1; omega)] at this
        exact ⟨this, HJ.out.2⟩
      clear HJ
      go_wp2_with fail
      go_ret
      exact ⟨by rw [HE.out.1]; rfl, HE.out.2⟩
def datP (xs : List RD) (r c : Int) : Option DC := if 0 ≤ r ∧ 0 ≤ c then (xs[r.toNat]?).bind fun x => x.cs[c.toNat]? else none
def DC.none : DC := ⟨[], [], false⟩
def DAtAns (xs : List RD) (r c : Int) (w : World) (en : Ending) (w' : World) : Prop :=
  ∃ (S R : List UInt8) (k : Bool), en = .returned (.tuple #[.agg #[.string ⟨S.toArray⟩, .string ⟨R.toArray⟩, .bool k], .bool (datP xs r c).isSome]) ∧ (datP xs r c).getD DC.none = ⟨S, R, k⟩ ∧ Fr [] w w'
set_option maxRecDepth 100000 in
set_option maxHeartbeats 1600000 in
theorem dat_any (w : World) (x : GD) (r c : Int) (hx : GDAt x w) (h6 : x.m ≤ 100000) (h7 : ∀ r ∈ x.rs, r.m ≤ 1000000) :
    Calls Tryz.prog 56 #[.agg #[.slice x.B x.m x.d, .bool x.t, .int .i64 x.e], .int .i64 r, .int .i64 c] w (DAtAns x.rs r c w) := by
  obtain ⟨A, n, cc, xs, xt, xen⟩ := x
  obtain ⟨W1, hW1⟩ : ∃ W1, W1 = (w.alloc (.cells #[.slice A n cc, .bool xt, .int .i64 xen] TD11)).alloc (.cells #[.string ⟨#[]⟩, .string ⟨#[]⟩, .bool false] TDc) := ⟨_, rfl⟩
  have HW : Hid (Fr [] w W1 ∧ Blk W1 (w.heap.size + 1) TDc #[.string ⟨#[]⟩, .string ⟨#[]⟩, .bool false] ∧ Blk W1 w.heap.size TD11 #[.slice A n cc, .bool xt, .int .i64 xen]) := by
    have b2 := Blk.new (w.alloc (.cells #[.slice A n cc, .bool xt, .int .i64 xen] TD11)) TDc #[.string ⟨#[]⟩, .string ⟨#[]⟩, .bool false]
    rw [World.size_alloc, ← hW1] at b2
    exact ⟨by rw [hW1]; exact ((Fr.refl [] w).alloc _).alloc _, b2, by rw [hW1]; exact (Blk.new w TD11 _).alloc _⟩
  have HA : Hid (Sl w A (rdc xs) ∧ n = xs.length ∧ (∀ r ∈ xs, RDAt r w) ∧ ∀ r ∈ xs, r.m ≤ 1000000) := ⟨hx.1, hx.2.1, hx.2.2, h7⟩
  have HW1 := Lib.hid hW1
  obtain ⟨hb, hhb⟩ : ∃ hb, hb = decide (0 ≤ r ∧ r < (n : Int)) := ⟨_, rfl⟩
  have HH : Hid (∀ w', Calls Tryz.prog 115 #[.agg #[.slice A n cc, .bool xt, .int .i64 xen], .int .i64 r] w' fun en w'' => en = .returned (.bool hb) ∧ Fr [] w' w'') := by
    show ∀ _, _
    intro w'
    rw [hhb]
    exact dhas_any w' A n cc xt xen r
  have hL : w.heap.size + 1 < w.heap.size → some (w.heap.size + 1) ∈ ([] : List (Option Nat)) := fun h => absurd h (by omega)
  have HNO : Hid (∀ w', Fr [] W1 w' → datP xs r c = none → DAtAns xs r c w (.returned (.tuple #[.agg #[.string ⟨#[]⟩, .string ⟨#[]⟩, .bool false], .bool false])) (((w'.setCell ⟨w.heap.size + 1, 0, none⟩ (.string ⟨#[]⟩)).setCell ⟨w.heap.size + 1, 1, none⟩ (.string ⟨#[]⟩)).setCell ⟨w.heap.size + 1, 2, none⟩ (.bool false))) := by
    show ∀ _, _
    intro w' hf hno
    exact ⟨[], [], false, by rw [hno]; rfl, by rw [hno]; rfl, (((HW.out.1.trans hf).setB hL _ _).setB hL _ _).setB hL _ _⟩
  clear hx h6 h7 hW1 hL
  by_cases hr : 0 ≤ r ∧ r < (n : Int)
  · obtain ⟨i, rfl⟩ : ∃ i : Nat, r = (i : Int) := ⟨r.toNat, by omega⟩
    have hhb2 : hb = true := by rw [hhb]; exact decide_eq_true hr
    subst hhb2
    have hi : i < xs.length := by have := HA.out.2.1; omega
    obtain ⟨bx, rfl, e0, e1⟩ := sl_elem (f := RD.cells) (sz := 3) (fun _ => rfl) (HA.out.1) hi (by omega)
    obtain ⟨x, hx⟩ : ∃ x, x = xs[i] := ⟨_, rfl⟩
    rw [← hx] at e0 e1
    have hxm : x ∈ xs := by rw [hx]; exact List.getElem_mem hi
    have hxg : xs[i]? = some x := by rw [List.getElem?_eq_getElem hi, hx]
    obtain ⟨q1, q2⟩ := HA.out.2.2.1 x hxm
    obtain ⟨xB, xm, xd, xcs, xe, xh⟩ := x
    simp only at q1 q2
    have HXC : Hid (∀ w', Fr [] w w' → w'.cell? (bx.add (i * 3)) = some (.slice xB xm xd)) := by
      show ∀ _, _
      intro w' hf
      have c0 : w.cell? (bx.add (i * 3)) = some (.slice xB xm xd) := e0 _ rfl
      rw [hf.cell (World.block_lt_of_cell? w _ c0) List.not_mem_nil]
      exact c0
    have HX : Hid (Sl w xB (dcc xcs) ∧ xm = xcs.length ∧ xs[i]? = some ⟨xB, xm, xd, xcs, xe, xh⟩) := ⟨q1, q2, hxg⟩
    have r0 : (0 : Int) ≤ (i : Int) := hr.1
    have r1 : (i : Int) < (n : Int) := hr.2
    clear e0 e1 hx hxm hxg q1 q2 hi hr hhb
    by_cases hc : 0 ≤ c ∧ c < (xm : Int)
    · obtain ⟨k, rfl⟩ : ∃ k : Nat, c = (k : Int) := ⟨c.toNat, by omega⟩
      have hk : k < xcs.length := by have := HX.out.2.1; omega
      obtain ⟨bc, rfl, e0, e1⟩ := sl_elem (f := DC.cells) (sz := 3) (fun _ => rfl) (HX.out.1) hk (by omega)
      obtain ⟨y, hy⟩ : ∃ y, y = xcs[k] := ⟨_, rfl⟩
      rw [← hy] at e0 e1
      have HD : Hid (datP xs (i : Int) (k : Int) = some y) := by
        show _ = _
        unfold datP
        rw [if_pos ⟨hc.1 |> fun _ => by omega, by omega⟩, Int.toNat_natCast, HX.out.2.2, Int.toNat_natCast]
        show xcs[k]? = _
        rw [List.getElem?_eq_getElem hk, hy]
      obtain ⟨yS, yR, yk⟩ := y
      have HYC : Hid (∀ w', Fr [] w w' → w'.cell? (bc.add (k * 3)) = some (.string ⟨yS.toArray⟩) ∧ w'.cell? ⟨(bc.add (k * 3)).block, (bc.add (k * 3)).off + 1, none⟩ = some (.string ⟨yR.toArray⟩) ∧ w'.cell? ⟨(bc.add (k * 3)).block, (bc.add (k * 3)).off + 2, none⟩ = some (.bool yk)) := by
        show ∀ _, _
        intro w' hf
        have hkp : ∀ p u, w.cell? p = some u → w'.cell? p = some u := fun p u h => by
          rw [hf.cell (World.block_lt_of_cell? w p h) List.not_mem_nil]; exact h
        exact ⟨hkp _ _ (e0 _ rfl), hkp _ _ (e1 0 _ rfl), hkp _ _ (e1 1 _ rfl)⟩
      have HOK : Hid (∀ w', Fr [] W1 w' → DAtAns xs (i : Int) (k : Int) w (.returned (.tuple #[.agg #[.string ⟨yS.toArray⟩, .string ⟨yR.toArray⟩, .bool yk], .bool true])) (((w'.setCell ⟨w.heap.size + 1, 0, none⟩ (.string ⟨yS.toArray⟩)).setCell ⟨w.heap.size + 1, 1, none⟩ (.string ⟨yR.toArray⟩)).setCell ⟨w.heap.size + 1, 2, none⟩ (.bool yk))) := by
        show ∀ _, _
        intro w' hf
        have hL : w.heap.size + 1 < w.heap.size → some (w.heap.size + 1) ∈ ([] : List (Option Nat)) := fun h => absurd h (by omega)
        exact ⟨yS, yR, yk, by rw [HD.out]; rfl, by rw [HD.out]; rfl, (((HW.out.1.trans hf).setB hL _ _).setB hL _ _).setB hL _ _⟩
      have k0 : (0 : Int) ≤ (k : Int) := hc.1
      have k1 : (k : Int) < (xm : Int) := hc.2
      have k2 : ¬ (k : Int) < 0 := by omega
      have k3 : ¬ (xm : Int) ≤ (k : Int) := by omega
      clear e0 e1 hy hk hc HNO HD
      go_enter Tryz.func56, Tryz.ntmps56
      go_wp2_with fail
      rw [← HW1.out]
      refine (HH.out W1).mono ?_
      rintro en w2 ⟨rfl, hf2⟩
      have hb2 := HW.out.2.1.fr hf2 (by simp)
      have gb2 := HW.out.2.2.fr hf2 (by simp)
      have g0 : w2.cell? ⟨w.heap.size, 0, none⟩ = some (.slice (some bx) n cc) := gb2.cell 0
      have c0 := HXC.out w2 (HW.out.1.trans hf2)
      obtain ⟨d0, d1, d2⟩ := HYC.out w2 (HW.out.1.trans hf2)
      have l0 : w2.cell? ⟨w.heap.size + 1, 0, none⟩ = some (.string ⟨#[]⟩) := hb2.cell 0
      have l1 : w2.cell? ⟨w.heap.size + 1, 1, none⟩ = some (.string ⟨#[]⟩) := hb2.cell 1
      have l2 : w2.cell? ⟨w.heap.size + 1, 2, none⟩ = some (.bool false) := hb2.cell 2
      have z0 := hb2.frozen 0
      have z1 := hb2.frozen 1
      have z2 := hb2.frozen 2
      have ll := hb2.lt
      have HEND := Lib.hid (HOK.out w2 hf2)
      clear hb2 gb2 hf2
      go_wp2_with fail
      refine bodyPost_ret (v := .tuple #[.agg #[.string ⟨yS.toArray⟩, .string ⟨yR.toArray⟩, .bool yk], .bool true]) (by simp [results, Tryz.results56, go_sem, *]) rfl ?_
      exact HEND.out
    · have HD : Hid (datP xs (i : Int) c = none) := by
        show _ = _
        unfold datP
        split
        · rename_i h
          rw [Int.toNat_natCast, HX.out.2.2]
          show xcs[c.toNat]? = none
          rw [List.getElem?_eq_none (by have := HX.out.2.1; omega)]
        · rfl
      by_cases hc0 : c < 0
      · clear hc
        go_enter Tryz.func56, Tryz.ntmps56
        go_wp2_with fail
        rw [← HW1.out]
        refine (HH.out W1).mono ?_
        rintro en w2 ⟨rfl, hf2⟩
        have hb2 := HW.out.2.1.fr hf2 (by simp)
        have l0 : w2.cell? ⟨w.heap.size + 1, 0, none⟩ = some (.string ⟨#[]⟩) := hb2.cell 0
        have l1 : w2.cell? ⟨w.heap.size + 1, 1, none⟩ = some (.string ⟨#[]⟩) := hb2.cell 1
        have l2 : w2.cell? ⟨w.heap.size + 1, 2, none⟩ = some (.bool false) := hb2.cell 2
        have z0 := hb2.frozen 0
        have z1 := hb2.frozen 1
        have z2 := hb2.frozen 2
        have ll := hb2.lt
        have HEND := Lib.hid (HNO.out w2 hf2 HD.out)
        clear hb2 hf2
        go_wp2_with fail
        refine bodyPost_ret (v := .tuple #[.agg #[.string ⟨#[]⟩, .string ⟨#[]⟩, .bool false], .bool false]) (by simp [results, Tryz.results56, go_sem, *]) rfl ?_
        exact HEND.out
      · have k2 : (xm : Int) ≤ c := by omega
        clear hc
        go_enter Tryz.func56, Tryz.ntmps56
        go_wp2_with fail
        rw [← HW1.out]
        refine (HH.out W1).mono ?_
        rintro en w2 ⟨rfl, hf2⟩
        have gb2 := HW.out.2.2.fr hf2 (by simp)
        have g0 : w2.cell? ⟨w.heap.size, 0, none⟩ = some (.slice (some bx) n cc) := gb2.cell 0
        have c0 := HXC.out w2 (HW.out.1.trans hf2)
        have hb2 := HW.out.2.1.fr hf2 (by simp)
        have l0 : w2.cell? ⟨w.heap.size + 1, 0, none⟩ = some (.string ⟨#[]⟩) := hb2.cell 0
        have l1 : w2.cell? ⟨w.heap.size + 1, 1, none⟩ = some (.string ⟨#[]⟩) := hb2.cell 1
        have l2 : w2.cell? ⟨w.heap.size + 1, 2, none⟩ = some (.bool false) := hb2.cell 2
        have z0 := hb2.frozen 0
        have z1 := hb2.frozen 1
        have z2 := hb2.frozen 2
        have ll := hb2.lt
        have HEND := Lib.hid (HNO.out w2 hf2 HD.out)
        clear hb2 hf2 gb2
        go_wp2_with fail
        refine bodyPost_ret (v := .tuple #[.agg #[.string ⟨#[]⟩, .string ⟨#[]⟩, .bool false], .bool false]) (by simp [results, Tryz.results56, go_sem, *]) rfl ?_
        exact HEND.out
  · have hhb2 : hb = false := by rw [hhb]; exact decide_eq_false hr
    have HD : Hid (datP xs r c = none) := by
      show _ = _
      unfold datP
      split
      · rename_i h
        rw [List.getElem?_eq_none (by have := HA.out.2.1; omega)]
        rfl
      · rfl
    subst hhb2
    clear hr hhb
    go_enter Tryz.func56, Tryz.ntmps56
    go_wp2_with fail
    rw [← HW1.out]
    refine (HH.out W1).mono ?_
    rintro en w2 ⟨rfl, hf2⟩
    have hb2 := HW.out.2.1.fr hf2 (by simp)
    have l0 : w2.cell? ⟨w.heap.size + 1, 0, none⟩ = some (.string ⟨#[]⟩) := hb2.cell 0
    have l1 : w2.cell? ⟨w.heap.size + 1, 1, none⟩ = some (.string ⟨#[]⟩) := hb2.cell 1
    have l2 : w2.cell? ⟨w.heap.size + 1, 2, none⟩ = some (.bool false) := hb2.cell 2
    have z0 := hb2.frozen 0
    have z1 := hb2.frozen 1
    have z2 := hb2.frozen 2
    have ll := hb2.lt
    have HEND := Lib.hid (HNO.out w2 hf2 HD.out)
    clear hb2 hf2
    go_wp2_with fail
    refine bodyPost_ret (v := .tuple #[.agg #[.string ⟨#[]⟩, .string ⟨#[]⟩, .bool false], .bool false]) (by simp [results, Tryz.results56, go_sem, *]) rfl ?_
    exact HEND.out
end Go.Proofs.YtblafakafgediaaGreat
