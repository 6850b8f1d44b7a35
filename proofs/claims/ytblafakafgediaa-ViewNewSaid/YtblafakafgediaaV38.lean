import Derived.Test.YtblafakafgediaaV37
import Derived.Test.YtblafakafgediaaV35
import Derived.Test.YtblafakafgediaaV19
namespace Go.Proofs.Ytblafakafgediaa
open Go.RowKit Go.Proofs.Dm

/-- Rows of texts that grow. -/
structure TXs (w0 W : World) (C : Option Addr) (c n : Nat) (ps : List Part) : Prop where
  own : ORow W 128 1 C c n (partV ps)
  b : ∀ p ∈ ps, ORow W 9 1 p.A p.c p.n p.cs
  fr : Fr [] w0 W
  nw : ∀ j, bk C = some j → w0.heap.size ≤ j
section
variable {w0 w w' : World} {C : Option Addr} {c n : Nat} {ps : List Part}
theorem TXs.fr0 (h : TXs w0 w C c n ps) (hf : Fr [] w w') : TXs w0 w' C c n ps :=
  ⟨ORow.fr h.own hf (.inr List.not_mem_nil), fun p hp => ORow.fr (h.b p hp) hf (.inr List.not_mem_nil), h.fr.trans hf, h.nw⟩
theorem TXs.app {wa w5 : World} {C2 : Option Addr} {c2 : Nat} {p : Part} (h : TXs w0 w C c n ps) (hfa : Fr [] w wa) (hp : ORow wa 9 1 p.A p.c p.n p.cs)
    (hr : ORow w5 128 1 C2 c2 (n + 1) (partV ps ++ [p.val])) (hg : Fr [bk C] wa w5) (hb : bk C2 = bk C ∨ bk C2 = some wa.heap.size) : TXs w0 w5 C2 c2 (n + 1) (ps ++ [p]) := by
  have hs := h.fr.size
  have hsa := hfa.size
  have key : ∀ q : Part, ORow wa 9 1 q.A q.c q.n q.cs → ORow w5 9 1 q.A q.c q.n q.cs := fun q hq => by
    refine ORow.fr hq hg ?_
    cases hB : bk q.A with
    | none => exact .inl rfl
    | some j =>
      refine .inr fun e => ?_
      rw [List.mem_singleton] at e
      rcases hq.2 with ⟨h0, _⟩ | ⟨g, cap, cur, he, _, hgg, _⟩
      · injection h0 with h0; rw [h0] at hB; cases hB
      · injection he with he
        rw [he] at hB
        injection hB with hB
        subst hB
        rcases ORow.neB (ORow.fr h.own hfa (.inr List.not_mem_nil)) (show Blk wa g 9 cur from hgg) (by decide) with z | z
        · rw [z] at e; cases e
        · exact z e.symm
  refine ⟨?_, fun q hq => ?_, (h.fr.trans hfa).seq hg fun x hx => ?_, fun j hj => ?_⟩
  · unfold partV at hr ⊢
    rw [List.map_append]
    exact hr
  · rcases List.mem_append.1 hq with hq | hq
    · exact key q (ORow.fr (h.b q hq) hfa (.inr List.not_mem_nil))
    · rw [List.mem_singleton] at hq; rw [hq]; exact key p hp
  · rw [List.mem_singleton] at hx
    subst hx
    cases hB : bk C with
    | none => exact .inr (.inl rfl)
    | some j => exact .inr (.inr ⟨j, h.nw j hB, rfl⟩)
  · rcases hb with e | e
    · exact h.nw j (e ▸ hj)
    · rw [e] at hj; injection hj with hj; omega
end
def TextsV (w : World) (ls : List (List (List UInt8))) (en : Ending) (w' : World) : Prop :=
  ∃ (C : Option Addr) (n c : Nat) (ps : List Part), en = .returned (.slice C n c) ∧ n = ps.length ∧ ps.map (·.cs) = ls.map strV ∧ (∀ p ∈ ps, p.n = p.cs.length) ∧ Sl w' C (partV ps) ∧ (∀ p ∈ ps, Sl w' p.A p.cs) ∧ Fr [] w w'
theorem strV_one (l : List (List UInt8)) : ∀ u ∈ strV l, u.oneCell' = true := by
  intro u hu
  obtain ⟨x, _, rfl⟩ := List.mem_map.1 hu
  rfl
/-- One row's texts, taken and put together. -/
def OneTx (w : World) (ts : List (List UInt8)) (m : Nat) (en : Ending) (w' : World) : Prop :=
  ∃ (A : Option Addr) (c : Nat), en = .returned (.slice A m c) ∧ ORow w' 9 1 A c m (strV ts) ∧ Fr [] w w'
theorem concat_one (w : World) (B : Option Addr) (d n m : Nat) (l : List (Nat × List (List UInt8))) (ts : List (List UInt8)) (hl : l.map (·.2) = [ts]) (hn : n = l.length) (hB : Sl w B (tvs m l)) (hb : ∀ x ∈ l, Blk w x.1 9 (strV x.2).toArray) (hm : ts.length = m) (h6 : m ≤ 1000000) :
    Calls Try.prog 90 #[.slice B n d] w (OneTx w ts m) := by
  match l, hl, hn, hB, hb with
  | [], hl, _, _, _ => simp at hl
  | _ :: _ :: _, hl, _, _, _ => simp at hl
  | [(R, t)], hl, hn, hB, hb =>
    simp only [List.map_cons, List.map_nil, List.cons.injEq, and_true] at hl
    subst hl
    have hbk := hb (R, t) (List.mem_singleton.2 rfl)
    have hsl : Sl w (some ⟨R, 0, none⟩) (strV t) := by
      have := blk_sl hbk (strV t).length
      rwa [List.take_length] at this
    have h := concat_S B d [⟨some ⟨R, 0, none⟩, m, m, strV t⟩] w hB (fun p hp => by
      rw [List.mem_singleton] at hp
      subst hp
      exact ⟨by rw [strV_len, hm, Nat.mul_one], hsl, strV_one t⟩) (by simp [partN]; exact h6) (by simp)
    subst hn
    refine h.mono ?_
    rintro en w' ⟨A, c, he, ho, hf, _⟩
    have e1 : partN [⟨some ⟨R, 0, none⟩, m, m, strV t⟩] = m := by simp [partN]
    have e2 : partC [⟨some ⟨R, 0, none⟩, m, m, strV t⟩] = strV t := by simp [partC]
    rw [e1] at he ho
    rw [e2] at ho
    exact ⟨A, c, he, ho, hf⟩
set_option maxRecDepth 100000 in
set_option maxHeartbeats 1600000 in
theorem vtexts_any (w : World) (p : Option Addr) (tl : Bool) (eo top : Int) (g left h m a k : Nat) (s : List UInt8) (rs : List RW) (ha : ArAt g s w) (ht : TreeAt TN [] w p (rs.map Prod.fst)) (hr : RowsAt [] w s.length rs) (hk : k = rs.length) (hk4 : k ≤ 400) (hm : 1 ≤ m) (hcm : left + m ≤ 40) (hA : BegAt k top a) (hh : h ≤ 1000000)
    (hp : ∀ r ∈ rs, ∀ c ∈ r.2, (plc c.sp).length ≤ 1000000) (hc : ∀ r ∈ rs, r.2.length ≤ 1000000) (hl : s.length ≤ 1000000) :
    Calls Try.prog 53 #[.agg #[.int .i64 top, .int .i64 (left : Nat), .int .i64 (h : Nat), .int .i64 (m : Nat)], .agg #[.pointer p, .bool tl, .int .i64 eo], .pointer (some ⟨g, 0, none⟩)] w
      (TextsV w ((rowsP (rs.map Prod.fst) a h).map fun x => textsP s (cellsOf rs x.1) left m)) := by
  have hxn : (rs.map Prod.fst).length = k := by rw [List.length_map, hk]
  have HRW : Hid (∀ w', Fr [] w w' → Calls Try.prog 51 #[.agg #[.int .i64 top, .int .i64 (left : Nat), .int .i64 (h : Nat), .int .i64 (m : Nat)], .agg #[.pointer p, .bool tl, .int .i64 eo]] w' (IntsAns w' (rowsP (rs.map Prod.fst) a h))) := by
    show ∀ _, _
    intro w' hf
    exact rows_any w' p tl eo (rs.map Prod.fst) k a h top left m (ht.fr0 hf) hxn.symm (by omega) hA hh
  obtain ⟨xr, hxr⟩ : ∃ xr, xr = rowsP (rs.map Prod.fst) a h := ⟨_, rfl⟩
  have HXR : Hid (∀ x ∈ xr, x.1 < k) := by
    show ∀ _, _
    intro x hx
    rw [hxr] at hx
    unfold rowsP shownR at hx
    have h1 := (List.mem_filter.1 (List.mem_of_mem_take hx)).1
    unfold allR at h1
    obtain ⟨q, hq, rfl⟩ := List.mem_map.1 h1
    rw [List.mem_range'_1, hxn] at hq
    have := hA.le
    show q < k
    omega
  have HXL : Hid (xr.length ≤ 1000) := by
    show _ ≤ _
    rw [hxr]
    unfold rowsP shownR
    have h1 : ((allR (rs.map Prod.fst) a (rs.map Prod.fst).length).filter fun x => !x.2.h).length ≤ (allR (rs.map Prod.fst) a (rs.map Prod.fst).length).length := List.length_filter_le ..
    rw [allR_len] at h1
    rw [List.length_take]
    omega
  rw [← hxr] at HRW ⊢
  have HTK : Hid (∀ w' (q : Nat), Fr [] w w' → q < k → Calls Try.prog 91 #[.agg #[.pointer p, .bool tl, .int .i64 eo], .pointer (some ⟨g, 0, none⟩), .agg #[.int .i64 (q : Nat), .int .i64 (left : Nat), .int .i64 1, .int .i64 (m : Nat)]] w' (TakeAns w' [textsP s (cellsOf rs q) left m] m)) := by
    show ∀ _, _
    intro w' q hf hq
    have := block_take w' p tl eo g q left 1 m q (q + 1) k s rs (ha.fr0 hf) (ht.fr0 hf) (hr.grow hf fun k hk => .inl hk) hk (by omega) (by omega) (by omega) hm hcm (.inr (.inl ⟨rfl, by omega⟩)) (.inr (.inl ⟨by omega, by omega, by omega⟩)) hp hc hl
    have e : allR (rs.map Prod.fst) q (q + 1) = [(q, (rs.map Prod.fst).getD q RV.none)] := by
      unfold allR
      rw [show q + 1 - q = 1 by omega]
      rfl
    rw [e] at this
    exact this
  have HW : Hid (∀ W0, W0 = (w.alloc (.cells #[.int .i64 top, .int .i64 (left : Nat), .int .i64 (h : Nat), .int .i64 (m : Nat)] 50)).alloc (.cells #[.pointer p, .bool tl, .int .i64 eo] TGr) →
      Fr [] w W0 ∧ Blk W0 w.heap.size 50 #[.int .i64 top, .int .i64 (left : Nat), .int .i64 (h : Nat), .int .i64 (m : Nat)] ∧ Blk W0 (w.heap.size + 1) TGr #[.pointer p, .bool tl, .int .i64 eo]) := by
    show ∀ _, _
    rintro W0 rfl
    have b1 := Blk.new (w.alloc (.cells #[.int .i64 top, .int .i64 (left : Nat), .int .i64 (h : Nat), .int .i64 (m : Nat)] 50)) TGr #[.pointer p, .bool tl, .int .i64 eo]
    rw [World.size_alloc] at b1
    exact ⟨((Fr.refl [] w).alloc _).alloc _, (Blk.new w _ _).alloc _, b1⟩
  have HM : Hid (left ≤ 40 ∧ m ≤ 40 ∧ left + m ≤ 40) := ⟨by omega, by omega, hcm⟩
  have z1 : IntKind.i64.wrap (40 - (left : Int)) = 40 - (left : Int) := IntWalk.i64_in _ (by omega)
  have z2 : ¬ (40 - (left : Int)) < (m : Int) := by omega
  clear ha ht hr hk hk4 hm hcm hA hh hp hc hl hxn hxr
  go_enter Try.func53, Try.ntmps53
  go_wp2_with fail
  obtain ⟨W0, hW0⟩ : ∃ W0, W0 = (w.alloc (.cells #[.int .i64 top, .int .i64 (left : Nat), .int .i64 (h : Nat), .int .i64 (m : Nat)] 50)).alloc (.cells #[.pointer p, .bool tl, .int .i64 eo] TGr) := ⟨_, rfl⟩
  obtain ⟨k1, k2, k3⟩ := HW.out W0 hW0
  rw [← hW0]
  obtain ⟨GB, hGB⟩ : ∃ GB, GB = w.heap.size + 1 := ⟨_, rfl⟩
  obtain ⟨VB, hVB⟩ : ∃ VB, VB = w.heap.size := ⟨_, rfl⟩
  rw [← hGB] at k3 ⊢
  rw [← hVB] at k2 ⊢
  have HB0 : Hid (Fr [] w W0 ∧ Blk W0 VB 50 #[.int .i64 top, .int .i64 (left : Nat), .int .i64 (h : Nat), .int .i64 (m : Nat)] ∧ Blk W0 GB TGr #[.pointer p, .bool tl, .int .i64 eo]) := ⟨k1, k2, k3⟩
  have HCEL : Hid (∀ w', Fr [] W0 w' → w'.cell? ⟨GB, 0, none⟩ = some (.pointer p) ∧ w'.cell? ⟨GB, 1, none⟩ = some (.bool tl) ∧ w'.cell? ⟨GB, 2, none⟩ = some (.int .i64 eo) ∧ w'.cell? ⟨VB, 1, none⟩ = some (.int .i64 (left : Nat)) ∧ w'.cell? ⟨VB, 3, none⟩ = some (.int .i64 (m : Nat))) := by
    show ∀ _, _
    intro w' hf
    have h1 := HB0.out.2.2.fr hf (by simp)
    have h2 := HB0.out.2.1.fr hf (by simp)
    exact ⟨h1.cell 0, h1.cell 1, h1.cell 2, h2.cell 1, h2.cell 3⟩
  clear hW0 k1 k2 k3 hGB hVB HW
  refine (HRW.out W0 HB0.out.1).mono ?_
  rintro en w2 ⟨C2, n2, c2, rfl, hn2, hs2, hf2⟩
  have HF2 := Lib.hid hf2
  have HS2 := Lib.hid hs2
  have HN2 : Hid (n2 = xr.length) := hn2
  have hn26 : (n2 : Int) ≤ 1000 := by have := HXL.out; omega
  clear hn2 hs2 hf2
  go_wp2_with fail
  go_loopw [15, 7] (fun iv ov wr => ∃ (j : Nat) (C : Option Addr) (c n : Nat) (ps : List Part), iv = .int .i64 j ∧ ov = .slice C n c ∧ j ≤ n2 ∧ n = j ∧ Hid (TXs w2 wr C c n ps ∧ ps.map (·.cs) = (xr.take j).map (fun x => strV (textsP s (cellsOf rs x.1) left m)) ∧ ∀ p ∈ ps, p.n = p.cs.length)) (fun iv _ _ => n2 - (intOf iv).toNat)
  case atStart => exact ⟨0, none, 0, 0, [], rfl, rfl, Nat.zero_le _, rfl, ⟨ORow.nil_ _ _ _, fun p hp => (by simp at hp), Fr.refl _ _, fun j hj => (by cases hj)⟩, rfl, fun p hp => (by simp at hp)⟩
  case round =>
    obtain ⟨j, C, c, n, ps, rfl, rfl, hj, rfl, HX⟩ := hrel
    by_cases hlt : n < n2
    · have hjl : n < xr.length := by rw [← HN2.out]; exact hlt
      obtain ⟨ad, rfl, _, hcell⟩ := (HS2.out.fr HX.out.1.fr (.inr List.not_mem_nil)).at_ (k := n) (u := .int .i64 ((xr[n].1 : Nat) : Int)) (by unfold numI; rw [List.getElem?_map, List.getElem?_eq_getElem hjl]; rfl)
      obtain ⟨q, hq⟩ : ∃ q, q = xr[n].1 := ⟨_, rfl⟩
      rw [← hq] at hcell
      have HQ : Hid (q < k) := by show _ < _; rw [hq]; exact HXR.out _ (List.getElem_mem hjl)
      have HTA : Hid ((xr.take (n + 1)).map (fun x => strV (textsP s (cellsOf rs x.1) left m)) = (xr.take n).map (fun x => strV (textsP s (cellsOf rs x.1) left m)) ++ [strV (textsP s (cellsOf rs q) left m)]) := by
        show _ = _
        rw [List.take_succ_eq_append_getElem hjl, List.map_append, hq]
        rfl
      have hj0 : (0 : Int) ≤ (n : Int) := by omega
      have hj1 : (n : Int) < (n2 : Int) := by omega
      have HFR : Hid (Fr [] W0 wr) := HF2.out.trans HX.out.1.fr
      obtain ⟨g0, g1, g2, v1, v3⟩ := HCEL.out _ (HFR.out.alloc (.cells #[.int .i64 (q : Nat), .int .i64 (left : Nat), .int .i64 1, .int .i64 (m : Nat)] 186))
      obtain ⟨_, _, _, u1, u3⟩ := HCEL.out wr HFR.out
      clear hq hjl
      go_wp2_with fail
      obtain ⟨wa, hwa⟩ : ∃ wa, wa = wr.alloc (.cells #[.int .i64 (q : Nat), .int .i64 (left : Nat), .int .i64 1, .int .i64 (m : Nat)] 186) := ⟨_, rfl⟩
      have HFA : Hid (Fr [] wr wa) := by show Fr _ _ _; rw [hwa]; exact (Fr.refl [] wr).alloc _
      rw [← hwa]
      clear hwa g0 g1 g2 v1 v3 u1 u3
      refine (HTK.out wa q ((HB0.out.1.trans HFR.out).trans HFA.out) HQ.out).mono ?_
      rintro en w4 ⟨B4, n4, c4, l4, rfl, hn4, hl4, hs4, hb4, hf4⟩
      have HCO := Lib.hid (concat_one w4 B4 c4 n4 m l4 (textsP s (cellsOf rs q) left m) hl4 hn4 hs4 hb4 (textsP_len _ _ _ _) (by have := HM.out; omega))
      have HF4 : Hid (Fr [] wr w4) := HFA.out.trans hf4
      clear hn4 hl4 hs4 hb4 hf4
      go_wp2_with fail
      refine HCO.out.mono ?_
      rintro en w5 ⟨A5, c5, rfl, ho5, hf5⟩
      have HF5 : Hid (Fr [] wr w5) := HF4.out.trans hf5
      have HO5 := Lib.hid ho5
      have HTX5 := Lib.hid (HX.out.1.fr0 HF5.out)
      clear ho5 hf5 HCO
      go_wp2_with (at_builtin; go_must (
        refine wpList_app _ rfl _ _ 126 128 rfl (Value.slice none 0 0) 1 24 Try.underlying126 infoTS rfl (by decide) C c n (partV ps) rfl (ORow.fr HTX5.out.own ((Fr.refl [] w5).alloc _) (.inr List.not_mem_nil)) _ 1 1 [.slice A5 m c5] rfl rfl (sl_new w5 _ _) (by simp [Value.oneCell']) (by simp only [maxLen]; omega) (by omega) ?_
        intro C6 c6 w6 hr6 hg6 hb6
        have HN6 : Hid (TXs w2 w6 C6 c6 (n + 1) (ps ++ [⟨A5, m, c5, strV (textsP s (cellsOf rs q) left m)⟩])) := HTX5.out.app ((Fr.refl [] w5).alloc _) (ORow.fr HO5.out ((Fr.refl [] w5).alloc _) (.inr List.not_mem_nil)) hr6 hg6 hb6
        clear hr6 hg6 hb6))
      go_roundw
      case rel =>
        refine ⟨n + 1, C6, c6, n + 1, _, by go_num, by simp, by omega, rfl, HN6.out, ?_, ?_⟩
        · rw [HTA.out, List.map_append, HX.out.2.1]
          rfl
        · intro p hp
          rcases List.mem_append.1 hp with h | h
          · exact HX.out.2.2 p h
          · rw [List.mem_singleton] at h
            rw [h]
            show m = (strV _).length
            rw [strV_len, textsP_len]
      case measure => simp [intOf]; omega
    · obtain rfl : n = n2 := by omega
      have hps : ps.map (·.cs) = (xr.map fun x => textsP s (cellsOf rs x.1) left m).map strV := by
        rw [HX.out.2.1, HN2.out, List.take_length, List.map_map]
        rfl
      have HEND : Hid (TextsV w (xr.map fun x => textsP s (cellsOf rs x.1) left m) (.returned (.slice C n c)) wr) := by
        have hl := HX.out.1.own.1
        unfold partV at hl
        rw [List.length_map, Nat.mul_one] at hl
        exact ⟨C, n, c, ps, rfl, hl.symm, hps, HX.out.2.2, ORow.sl HX.out.1.own, fun p hp => ORow.sl (HX.out.1.b p hp), (HB0.out.1.trans HF2.out).trans HX.out.1.fr⟩
      clear hps
      go_wp2_with fail
      go_ret
      exact HEND.out
end Go.Proofs.Ytblafakafgediaa
namespace Go.Proofs.Ytblafakafgediaa
open Go.RowKit Go.Proofs.Dm

set_option maxRecDepth 100000 in
set_option maxHeartbeats 3200000 in
/-- 'Follow' of a place that lies in the grid, is shown, stands below what is seen. -/
theorem follow_jump (w : World) (p : Option Addr) (tl : Bool) (eo : Int) (xs : List RV) (n m pr pc top left h wid t : Nat) (r : RV) (ht : TreeAt TN [] w p xs) (hn : n = xs.length) (hn7 : n ≤ 700) (hc : ∀ r ∈ xs, r.n ≤ 1000) (hm : m = widthP xs) (hm6 : m ≤ 1000) (hr : pr < n) (hpc : pc < m) (hs : nextP xs pr = (pr : Nat))
    (hxr : xs[pr]? = some r) (hrh : r.h = false) (htop : top ≤ pr) (hno : ((pr : Nat) : Int) ∉ (rowsP xs top h).map (fun x => (x.1 : Int))) (hh : 1 ≤ h) (hh6 : h ≤ 1000000) (hl1 : left ≤ pc) (hl2 : pc + 1 ≤ left + wid) (hw6 : wid ≤ 1000000) (htt : t = highP xs (pr + 1) h pr) :
    Calls Try.prog 49 #[.agg #[.int .i64 (top : Nat), .int .i64 (left : Nat), .int .i64 (h : Nat), .int .i64 (wid : Nat)], .agg #[.pointer p, .bool tl, .int .i64 eo], .agg #[.int .i64 (pr : Nat), .int .i64 (pc : Nat)]] w fun en w' => en = .returned (.agg #[.int .i64 (t : Nat), .int .i64 (left : Nat), .int .i64 (h : Nat), .int .i64 (wid : Nat)]) ∧ Fr [] w w' := by
  have HSE : Hid (∀ w', Fr [] w w' → Calls Try.prog 87 #[.agg #[.pointer p, .bool tl, .int .i64 eo], .agg #[.int .i64 (pr : Nat), .int .i64 (pc : Nat)]] w' fun en w'' => en = .returned (.agg #[.int .i64 (pr : Nat), .int .i64 (pc : Nat)]) ∧ Fr [] w' w'') := by
    show ∀ _, _
    intro w' hf
    exact settle_in w' p tl eo xs n m pr pc (ht.fr0 hf) hn hn7 hc hm hr hpc hs
  have HRO : Hid (∀ w', Fr [] w w' → Calls Try.prog 35 #[.agg #[.pointer p, .bool tl, .int .i64 eo], .int .i64 (pr : Nat)] w' fun en w'' => en = .returned (.tuple #[r.val, .bool true]) ∧ Fr [] w' w'') := by
    show ∀ _, _
    intro w' hf
    exact grow_any p xs tl eo pr r w' (ht.fr0 hf) hxr (by omega)
  have HLN : Hid (∀ w', Fr [] w w' → Calls Try.prog 13 #[.agg #[.pointer p, .bool tl, .int .i64 eo]] w' fun en w'' => en = .returned (.int .i64 (n : Nat)) ∧ Fr [] w' w'') := by
    show ∀ _, _
    intro w' hf
    have := glen_any [] p xs tl eo w' (ht.fr0 hf)
    rw [← hn] at this
    exact this
  have HRW : Hid (∀ w', Fr [] w w' → Calls Try.prog 51 #[.agg #[.int .i64 (top : Nat), .int .i64 (left : Nat), .int .i64 (h : Nat), .int .i64 (wid : Nat)], .agg #[.pointer p, .bool tl, .int .i64 eo]] w' (IntsAns w' (rowsP xs top h))) := by
    show ∀ _, _
    intro w' hf
    exact rows_any w' p tl eo xs n top h (top : Nat) left wid (ht.fr0 hf) hn hn7 (.inr (.inl ⟨rfl, by omega⟩)) hh6
  have HRL : Hid ((rowsP xs top h).length ≤ 1000000) := by
    show _ ≤ _
    unfold rowsP
    rw [List.length_take]
    omega
  have HHI : Hid (∀ w', Fr [] w w' → Calls Try.prog 89 #[.agg #[.int .i64 (top : Nat), .int .i64 (left : Nat), .int .i64 (h : Nat), .int .i64 (wid : Nat)], .agg #[.pointer p, .bool tl, .int .i64 eo], .int .i64 (pr : Nat)] w' fun en w'' => en = .returned (.int .i64 (t : Nat)) ∧ Fr [] w' w'') := by
    show ∀ _, _
    intro w' hf
    rw [htt]
    exact highest_any w' p tl eo xs n h pr (pr + 1) top left wid (ht.fr0 hf) hn hn7 hh6 hh rfl hr
  have HNO := Lib.hid hno
  obtain ⟨W1, hW1⟩ : ∃ W1, W1 = (((w.alloc (.cells #[.int .i64 (top : Nat), .int .i64 (left : Nat), .int .i64 (h : Nat), .int .i64 (wid : Nat)] 50)).alloc (.cells #[.pointer p, .bool tl, .int .i64 eo] TGr)).alloc (.cells #[.int .i64 (pr : Nat), .int .i64 (pc : Nat)] 122)).alloc (.cells #[.int .i64 0, .int .i64 0, .int .i64 0, .int .i64 0] 50) := ⟨_, rfl⟩
  have HW : Hid (Fr [] w W1 ∧ Blk W1 w.heap.size 50 #[.int .i64 (top : Nat), .int .i64 (left : Nat), .int .i64 (h : Nat), .int .i64 (wid : Nat)] ∧ Blk W1 (w.heap.size + 1) TGr #[.pointer p, .bool tl, .int .i64 eo] ∧ Blk W1 (w.heap.size + 1 + 1) 122 #[.int .i64 (pr : Nat), .int .i64 (pc : Nat)] ∧ Blk W1 (w.heap.size + 1 + 1 + 1) 50 #[.int .i64 0, .int .i64 0, .int .i64 0, .int .i64 0]) := by
    have b1 := Blk.new (w.alloc (.cells #[.int .i64 (top : Nat), .int .i64 (left : Nat), .int .i64 (h : Nat), .int .i64 (wid : Nat)] 50)) TGr #[.pointer p, .bool tl, .int .i64 eo]
    have b2 := Blk.new ((w.alloc (.cells #[.int .i64 (top : Nat), .int .i64 (left : Nat), .int .i64 (h : Nat), .int .i64 (wid : Nat)] 50)).alloc (.cells #[.pointer p, .bool tl, .int .i64 eo] TGr)) 122 #[.int .i64 (pr : Nat), .int .i64 (pc : Nat)]
    have b3 := Blk.new (((w.alloc (.cells #[.int .i64 (top : Nat), .int .i64 (left : Nat), .int .i64 (h : Nat), .int .i64 (wid : Nat)] 50)).alloc (.cells #[.pointer p, .bool tl, .int .i64 eo] TGr)).alloc (.cells #[.int .i64 (pr : Nat), .int .i64 (pc : Nat)] 122)) 50 #[.int .i64 0, .int .i64 0, .int .i64 0, .int .i64 0]
    have c1 := (b1.alloc (.cells #[.int .i64 (pr : Nat), .int .i64 (pc : Nat)] 122)).alloc (.cells #[.int .i64 0, .int .i64 0, .int .i64 0, .int .i64 0] 50)
    have c2 := b2.alloc (.cells #[.int .i64 0, .int .i64 0, .int .i64 0, .int .i64 0] 50)
    simp only [World.size_alloc] at b3 c1 c2
    rw [← hW1] at b3 c1 c2
    exact ⟨by rw [hW1]; exact ((((Fr.refl [] w).alloc _).alloc _).alloc _).alloc _, by rw [hW1]; exact (((Blk.new w _ _).alloc _).alloc _).alloc _, c1, c2, b3⟩
  have HW1 := Lib.hid hW1
  have x1 : ¬ (n : Int) = 0 := by omega
  have x2 : ((n : Int) == 0) = false := by simpa using x1
  have x3 : ¬ (pr : Int) < (top : Int) := by omega
  have x4 : ¬ (pc : Int) < (left : Int) := by omega
  have x5 : IntKind.i64.wrap ((pc : Int) - (wid : Int)) = (pc : Int) - (wid : Int) := IntWalk.i64_in _ (by omega)
  have x6 : IntKind.i64.wrap ((pc : Int) - (wid : Int) + 1) = (pc : Int) - (wid : Int) + 1 := IntWalk.i64_in _ (by omega)
  have x7 : ¬ (left : Int) < (pc : Int) - (wid : Int) + 1 := by omega
  obtain ⟨rA, rn, rc, re, rh⟩ := r
  have e1 : rh = false := hrh
  subst e1
  simp only [RV.val] at HRO
  obtain ⟨VB, hVB⟩ : ∃ VB, VB = w.heap.size := ⟨_, rfl⟩
  obtain ⟨GB, hGB⟩ : ∃ GB, GB = w.heap.size + 1 := ⟨_, rfl⟩
  obtain ⟨PB, hPB⟩ : ∃ PB, PB = w.heap.size + 1 + 1 := ⟨_, rfl⟩
  obtain ⟨L, hL⟩ : ∃ L, L = w.heap.size + 1 + 1 + 1 := ⟨_, rfl⟩
  have HNB : Hid (VB = w.heap.size ∧ GB = w.heap.size + 1 ∧ PB = w.heap.size + 1 + 1 ∧ L = w.heap.size + 1 + 1 + 1) := ⟨hVB, hGB, hPB, hL⟩
  rw [← hL] at HW
  rw [← hPB] at HW
  rw [← hGB] at HW
  rw [← hVB] at HW
  have n1 : ¬ PB = VB := by omega
  have n2 : ¬ PB = GB := by omega
  have n3 : ¬ PB = L := by omega
  have n4 : ¬ L = PB := by omega
  have n5 : ¬ VB = PB := by omega
  have n6 : ¬ VB = L := by omega
  have n7 : ¬ L = VB := by omega
  have n8 : ¬ GB = PB := by omega
  clear ht hn hn7 hc hm hm6 hr hpc hs hxr hrh htop hno hh hh6 hl1 hl2 htt hW1
  go_enter Try.func49, Try.ntmps49
  go_wp2_with fail
  rw [← HW1.out, ← hL, ← hPB, ← hGB, ← hVB]
  clear hL hPB hGB hVB
  refine (HSE.out W1 HW.out.1).mono ?_
  rintro en w2 ⟨rfl, hf2⟩
  have hp2 := HW.out.2.2.2.1.fr hf2 (by simp)
  have p0 : w2.cell? ⟨PB, 0, none⟩ = some (.int .i64 (pr : Nat)) := hp2.cell 0
  have p1 : w2.cell? ⟨PB, 1, none⟩ = some (.int .i64 (pc : Nat)) := hp2.cell 1
  have z0 := hp2.frozen 0
  have z1 := hp2.frozen 1
  have lp := hp2.lt
  obtain ⟨W3, hW3⟩ : ∃ W3, W3 = (w2.setCell ⟨PB, 0, none⟩ (.int .i64 (pr : Nat))).setCell ⟨PB, 1, none⟩ (.int .i64 (pc : Nat)) := ⟨_, rfl⟩
  have HB3 : Hid (Fr [] w W3 ∧ Blk W3 VB 50 #[.int .i64 (top : Nat), .int .i64 (left : Nat), .int .i64 (h : Nat), .int .i64 (wid : Nat)] ∧ Blk W3 GB TGr #[.pointer p, .bool tl, .int .i64 eo] ∧ Blk W3 PB 122 #[.int .i64 (pr : Nat), .int .i64 (pc : Nat)] ∧ Blk W3 L 50 #[.int .i64 0, .int .i64 0, .int .i64 0, .int .i64 0]) := by
    rw [hW3]
    have hx : PB < w.heap.size → some PB ∈ ([] : List (Option Nat)) := fun h => absurd h (by have := HNB.out; omega)
    refine ⟨((HW.out.1.trans hf2).setB hx _ _).setB hx _ _, ((HW.out.2.1.fr hf2 (by simp)).far (fun e => n5 e) _).far (fun e => n5 e) _, ((HW.out.2.2.1.fr hf2 (by simp)).far (fun e => n8 e) _).far (fun e => n8 e) _, ?_, ((HW.out.2.2.2.2.fr hf2 (by simp)).far (fun e => n4 e) _).far (fun e => n4 e) _⟩
    have := (hp2.set_ 0 (.int .i64 (pr : Nat))).set_ 1 (.int .i64 (pc : Nat))
    simpa using this
  have HW3 := Lib.hid hW3
  have HCEL : Hid (∀ w', Fr [] W3 w' → w'.cell? ⟨VB, 0, none⟩ = some (.int .i64 (top : Nat)) ∧ w'.cell? ⟨VB, 1, none⟩ = some (.int .i64 (left : Nat)) ∧ w'.cell? ⟨VB, 2, none⟩ = some (.int .i64 (h : Nat)) ∧ w'.cell? ⟨VB, 3, none⟩ = some (.int .i64 (wid : Nat)) ∧ w'.cell? ⟨GB, 0, none⟩ = some (.pointer p) ∧ w'.cell? ⟨GB, 1, none⟩ = some (.bool tl) ∧ w'.cell? ⟨GB, 2, none⟩ = some (.int .i64 eo) ∧ w'.cell? ⟨PB, 0, none⟩ = some (.int .i64 (pr : Nat)) ∧ w'.cell? ⟨PB, 1, none⟩ = some (.int .i64 (pc : Nat))) := by
    show ∀ _, _
    intro w' hf
    have h1 := HB3.out.2.1.fr hf (by simp)
    have h2 := HB3.out.2.2.1.fr hf (by simp)
    have h3 := HB3.out.2.2.2.1.fr hf (by simp)
    exact ⟨h1.cell 0, h1.cell 1, h1.cell 2, h1.cell 3, h2.cell 0, h2.cell 1, h2.cell 2, h3.cell 0, h3.cell 1⟩
  obtain ⟨a0, a1, a2, a3, g0, g1, g2, q0, q1⟩ := HCEL.out W3 (Fr.refl _ _)
  rw [hW3] at a0 a1 a2 a3 g0 g1 g2 q0 q1
  clear hp2 hf2 hW3
  go_wp2_with fail
  rw [← HW3.out]
  refine (HRO.out W3 HB3.out.1).mono ?_
  rintro en w4 ⟨rfl, hf4⟩
  have HF4 := Lib.hid hf4
  clear a0 a1 a2 a3 g0 g1 g2 q0 q1 p0 p1 z0 z1 lp
  obtain ⟨a0, a1, a2, a3, g0, g1, g2, q0, q1⟩ := HCEL.out (w4.alloc (.cells #[.slice rA rn rc, .int .i64 re, .bool false] TRow)) (hf4.alloc _)
  have HRB : Hid (∀ W, W = w4.alloc (.cells #[.slice rA rn rc, .int .i64 re, .bool false] TRow) → Fr [] W3 W ∧ Blk W w4.heap.size TRow #[.slice rA rn rc, .int .i64 re, .bool false]) := by
    show ∀ _, _
    rintro W rfl
    exact ⟨HF4.out.alloc _, Blk.new w4 _ _⟩
  clear hf4
  go_wp2_with fail
  obtain ⟨W5, hW5⟩ : ∃ W5, W5 = w4.alloc (.cells #[.slice rA rn rc, .int .i64 re, .bool false] TRow) := ⟨_, rfl⟩
  obtain ⟨k1, k2⟩ := HRB.out W5 hW5
  rw [← hW5]
  obtain ⟨RB, hRB⟩ : ∃ RB, RB = w4.heap.size := ⟨_, rfl⟩
  rw [← hRB] at k2 ⊢
  have HF5 := Lib.hid k1
  have HR5 := Lib.hid k2
  clear a0 a1 a2 a3 g0 g1 g2 q0 q1 hW5 hRB k1 k2 HRB
  refine (HLN.out W5 (HB3.out.1.trans HF5.out)).mono ?_
  rintro en w6 ⟨rfl, hf6⟩
  have HF6 : Hid (Fr [] W3 w6) := HF5.out.trans hf6
  have r2 : w6.cell? ⟨RB, 2, none⟩ = some (.bool false) := (HR5.out.fr hf6 (by simp)).cell 2
  obtain ⟨a0, a1, a2, a3, g0, g1, g2, q0, q1⟩ := HCEL.out w6 HF6.out
  clear hf6
  go_wp2_with fail
  go_region_held3 (fun w' => w'.cell? ⟨VB, 0, none⟩ = some (.int .i64 (top : Nat)) ∧ w'.cell? ⟨VB, 1, none⟩ = some (.int .i64 (left : Nat)) ∧ w'.cell? ⟨VB, 2, none⟩ = some (.int .i64 (h : Nat)) ∧ w'.cell? ⟨VB, 3, none⟩ = some (.int .i64 (wid : Nat)) ∧ w'.cell? ⟨GB, 0, none⟩ = some (.pointer p) ∧ w'.cell? ⟨GB, 1, none⟩ = some (.bool tl) ∧ w'.cell? ⟨GB, 2, none⟩ = some (.int .i64 eo) ∧ w'.cell? ⟨PB, 0, none⟩ = some (.int .i64 (pr : Nat))) (go_keep) ((first
    | (go_at_call 51; go_must (
         refine (HRW.out _ ((HB3.out.1.trans HF6.out).drew)).mono ?_
         rintro e w7 ⟨C7, n7', c7, rfl, hn7', hs7, hf7⟩
         have HF7 : Hid (Fr [] W3 w7) := HF6.out.drew.trans hf7
         have HS7 : Hid (Sl w7 C7 (intsV ((rowsP xs top h).map fun x => (x.1 : Int))) ∧ n7' = ((rowsP xs top h).map fun x => (x.1 : Int)).length) := ⟨by rw [← numI_ints]; exact hs7, by rw [List.length_map]; exact hn7'⟩
         have HR7 : Hid (n7' ≤ 1000000) := by show _ ≤ _; rw [hn7']; exact HRL.out
         obtain ⟨b0, b1, b2, b3, b4, b5, b6, b7, b8⟩ := HCEL.out w7 HF7.out
         clear hn7' hs7 hf7))
    | (go_at_call 88; go_must (
         refine (containsI_any w7 C7 n7' c7 _ (pr : Nat) HS7.out.1 HS7.out.2 HR7.out).mono ?_
         rintro e w8 ⟨he8, hf8⟩
         rw [decide_eq_false HNO.out] at he8
         subst he8
         have HF8 : Hid (Fr [] W3 w8) := HF7.out.trans hf8
         obtain ⟨d0, d1, d2, d3, d4, d5, d6, d7, d8⟩ := HCEL.out w8 HF8.out
         clear hf8))))
  all_goals go_wp2_with fail
  refine (HHI.out w8 (HB3.out.1.trans HF8.out)).mono ?_
  rintro en w9 ⟨rfl, hf9⟩
  have HF9 : Hid (Fr [] W3 w9) := HF8.out.trans hf9
  clear a0 a1 a2 a3 g0 g1 g2 q0 q1 b0 b1 b2 b3 b4 b5 b6 b7 b8 d0 d1 d2 d3 d4 d5 d6 d7 d8 hf9 r2
  obtain ⟨a0, a1, a2, a3, g0, g1, g2, q0, q1⟩ := HCEL.out w9 HF9.out
  have hv := HB3.out.2.1.fr HF9.out (by simp)
  have hl := HB3.out.2.2.2.2.fr HF9.out (by simp)
  have z0 := hv.frozen 0
  have z1 := hv.frozen 1
  have lv := hv.lt
  have l0 : w9.cell? ⟨L, 0, none⟩ = some (.int .i64 0) := hl.cell 0
  have l1 : w9.cell? ⟨L, 1, none⟩ = some (.int .i64 0) := hl.cell 1
  have l2 : w9.cell? ⟨L, 2, none⟩ = some (.int .i64 0) := hl.cell 2
  have l3 : w9.cell? ⟨L, 3, none⟩ = some (.int .i64 0) := hl.cell 3
  have y0 := hl.frozen 0
  have y1 := hl.frozen 1
  have y2 := hl.frozen 2
  have y3 := hl.frozen 3
  have ll := hl.lt
  clear hv hl
  go_wp2_with fail
  refine bodyPost_ret (v := .agg #[.int .i64 (t : Nat), .int .i64 (left : Nat), .int .i64 (h : Nat), .int .i64 (wid : Nat)]) (by simp [results, Try.results49, go_sem, *]) rfl ?_
  have hx : VB < w.heap.size → some VB ∈ ([] : List (Option Nat)) := fun h => absurd h (by have := HNB.out; omega)
  have hy : L < w.heap.size → some L ∈ ([] : List (Option Nat)) := fun h => absurd h (by have := HNB.out; omega)
  exact ⟨rfl, ((((((HB3.out.1.trans HF9.out).setB hx _ _).setB hx _ _).setB hy _ _).setB hy _ _).setB hy _ _).setB hy _ _⟩
end Go.Proofs.Ytblafakafgediaa
