import Derived.Test.YtblafakafgediaaGreatW45
namespace Go.Proofs.YtblafakafgediaaGreat
open Go.RowKit Go.Proofs.Dm

/-- Rows of texts that grow. -/
structure TXs (w0 W : World) (C : Option Addr) (c n : Nat) (ps : List Part) : Prop where
  own : ORow W 128 1 C c n (partV ps)
  b : ∀ p ∈ ps, ORow W 9 1 p.A p.c p.n p.cs
  fr : Fr [] w0 W
  nw : ∀ j, bk C = some j → w0.heap.size ≤ j
section
variable {w0 w w' : World} {C : Option Addr} {c n : Nat} {ps : List Part}
theorem TXs.fr0 (h : TXs w0 w C c n ps) (hf : Fr [] w w') : TXs w0 w' C c n ps :=
  ⟨ORow.fr h.own hf (.inr List.not_mem_nil), fun p hp => ORow.fr (h.b p hp) hf (.inr List.not_mem_nil), h.fr.trans hf, h.nw⟩
theorem TXs.app {wa w5 : World} {C2 : Option Addr} {c2 : Nat} {p : Part} (h : TXs w0 w C c n ps) (hfa : Fr [] w wa) (hp : ORow wa 9 1 p.A p.c p.n p.cs)
    (hr : ORow w5 128 1 C2 c2 (n + 1) (partV ps ++ [p.val])) (hg : Fr [bk C] wa w5) (hb : bk C2 = bk C ∨ bk C2 = some wa.heap.size) : TXs w0 w5 C2 c2 (n + 1) (ps ++ [p]) := by
  have hs := h.fr.size
  have hsa := hfa.size
  have key : ∀ q : Part, ORow wa 9 1 q.A q.c q.n q.cs → ORow w5 9 1 q.A q.c q.n q.cs := fun q hq => by
    refine ORow.fr hq hg ?_
    cases hB : bk q.A with
    | none => exact .inl rfl
    | some j =>
      refine .inr fun e => ?_
      rw [List.mem_singleton] at e
      rcases hq.2 with ⟨h0, _⟩ | ⟨g, cap, cur, he, _, hgg, _⟩
      · injection h0 with h0; rw [h0] at hB; cases hB
      · injection he with he
        rw [he] at hB
        injection hB with hB
        subst hB
        rcases ORow.neB (ORow.fr h.own hfa (.inr List.not_mem_nil)) (show Blk wa g 9 cur from hgg) (by decide) with z | z
        · rw [z] at e; cases e
        · exact z e.symm
  refine ⟨?_, fun q hq => ?_, (h.fr.trans hfa).seq hg fun x hx => ?_, fun j hj => ?_⟩
  · unfold partV at hr ⊢
    rw [List.map_append]
    exact hr
  · rcases List.mem_append.1 hq with hq | hq
    · exact key q (ORow.fr (h.b q hq) hfa (.inr List.not_mem_nil))
    · rw [List.mem_singleton] at hq; rw [hq]; exact key p hp
  · rw [List.mem_singleton] at hx
    subst hx
    cases hB : bk C with
    | none => exact .inr (.inl rfl)
    | some j => exact .inr (.inr ⟨j, h.nw j hB, rfl⟩)
  · rcases hb with e | e
    · exact h.nw j (e ▸ hj)
    · rw [e] at hj; injection hj with hj; omega
end
def TextsV (w : World) (ls : List (List (List UInt8))) (en : Ending) (w' : World) : Prop :=
  ∃ (C : Option Addr) (n c : Nat) (ps : List Part), en = .returned (.slice C n c) ∧ n = ps.length ∧ ps.map (·.cs) = ls.map strV ∧ (∀ p ∈ ps, p.n = p.cs.length) ∧ Sl w' C (partV ps) ∧ (∀ p ∈ ps, Sl w' p.A p.cs) ∧ Fr [] w w'
theorem strV_one (l : List (List UInt8)) : ∀ u ∈ strV l, u.oneCell' = true := by
  intro u hu
  obtain ⟨x, _, rfl⟩ := List.mem_map.1 hu
  rfl
/-- One row's texts, taken and put together. -/
def OneTx (w : World) (ts : List (List UInt8)) (m : Nat) (en : Ending) (w' : World) : Prop :=
  ∃ (A : Option Addr) (c : Nat), en = .returned (.slice A m c) ∧ ORow w' 9 1 A c m (strV ts) ∧ Fr [] w w'
theorem concat_one (w : World) (B : Option Addr) (d n m : Nat) (l : List (Nat × List (List UInt8))) (ts : List (List UInt8)) (hl : l.map (·.2) = [ts]) (hn : n = l.length) (hB : Sl w B (tvs m l)) (hb : ∀ x ∈ l, Blk w x.1 9 (strV x.2).toArray) (hm : ts.length = m) (h6 : m ≤ 1000000) :
    Calls Tryz.prog 75 #[.slice B n d] w (OneTx w ts m) := by
  match l, hl, hn, hB, hb with
  | [], hl, _, _, _ => simp at hl
  | _ :: _ :: _, hl, _, _, _ => simp at hl
  | [(R, t)], hl, hn, hB, hb =>
    simp only [List.map_cons, List.map_nil, List.cons.injEq, and_true] at hl
    subst hl
    have hbk := hb (R, t) (List.mem_singleton.2 rfl)
    have hsl : Sl w (some ⟨R, 0, none⟩) (strV t) := by
      have := blk_sl hbk (strV t).length
      rwa [List.take_length] at this
    have h := concat_S B d [⟨some ⟨R, 0, none⟩, m, m, strV t⟩] w hB (fun p hp => by
      rw [List.mem_singleton] at hp
      subst hp
      exact ⟨by rw [strV_len, hm, Nat.mul_one], hsl, strV_one t⟩) (by simp [partN]; exact h6) (by simp)
    subst hn
    refine h.mono ?_
    rintro en w' ⟨A, c, he, ho, hf, _⟩
    have e1 : partN [⟨some ⟨R, 0, none⟩, m, m, strV t⟩] = m := by simp [partN]
    have e2 : partC [⟨some ⟨R, 0, none⟩, m, m, strV t⟩] = strV t := by simp [partC]
    rw [e1] at he ho
    rw [e2] at ho
    exact ⟨A, c, he, ho, hf⟩
/-- A row's texts, that are taken: put together they are one row. -/
def TkC (w : World) (ts : List (List UInt8)) (m : Nat) (en : Ending) (w' : World) : Prop :=
  ∃ (B : Option Addr) (n c : Nat), en = .returned (.slice B n c) ∧ (∀ w3, Fr [] w' w3 → Calls Tryz.prog 75 #[.slice B n c] w3 (OneTx w3 ts m)) ∧ Fr [] w w'
theorem TakeAns.tkc {w w' : World} {ts : List (List UInt8)} {m : Nat} {en : Ending} (h : TakeAns w [ts] m en w') (hm : ts.length = m) (h6 : m ≤ 1000000) : TkC w ts m en w' := by
  obtain ⟨C, n, c, l, he, hn, hl, hs, hb, hf⟩ := h
  exact ⟨C, n, c, he, fun w3 hf3 => concat_one w3 C c n m l ts hl hn (hs.fr hf3 (.inr List.not_mem_nil)) (fun x hx => (hb x hx).fr hf3 (by simp)) hm h6, hf⟩
set_option maxRecDepth 100000 in
set_option maxHeartbeats 3200000 in
theorem vtexts_gen (w : World) (p : Option Addr) (tl : Bool) (eo top mm : Int) (g left h wid m k : Nat) (s : List UInt8) (rs : List RW) (xr : List (Nat × RV)) (hmm : (40 - (left : Int) < (wid : Int) ∧ mm = 40 - (left : Int)) ∨ (¬ 40 - (left : Int) < (wid : Int) ∧ mm = (wid : Nat)))
    (HRW : Hid (∀ w', Fr [] w w' → Calls Tryz.prog 18 #[.agg #[.int .i64 top, .int .i64 (left : Nat), .int .i64 (h : Nat), .int .i64 (wid : Nat)], .agg #[.pointer p, .bool tl, .int .i64 eo]] w' (IntsAns w' xr)))
    (HXR : Hid (∀ x ∈ xr, x.1 < k)) (HXL : Hid (xr.length ≤ 1000)) (hl0 : left ≤ 2 ^ 50)
    (HTK : Hid (∀ w' (q : Nat), Fr [] w w' → q < k → Calls Tryz.prog 76 #[.agg #[.pointer p, .bool tl, .int .i64 eo], .pointer (some ⟨g, 0, none⟩), .agg #[.int .i64 (q : Nat), .int .i64 (left : Nat), .int .i64 1, .int .i64 mm]] w' (TkC w' (textsP s (cellsOf rs q) left m) m))) :
    Calls Tryz.prog 24 #[.agg #[.int .i64 top, .int .i64 (left : Nat), .int .i64 (h : Nat), .int .i64 (wid : Nat)], .agg #[.pointer p, .bool tl, .int .i64 eo], .pointer (some ⟨g, 0, none⟩)] w
      (TextsV w (xr.map fun x => textsP s (cellsOf rs x.1) left m)) := by
  have HW : Hid (∀ W0, W0 = (w.alloc (.cells #[.int .i64 top, .int .i64 (left : Nat), .int .i64 (h : Nat), .int .i64 (wid : Nat)] 40)).alloc (.cells #[.pointer p, .bool tl, .int .i64 eo] TGr) →
      Fr [] w W0 ∧ Blk W0 w.heap.size 40 #[.int .i64 top, .int .i64 (left : Nat), .int .i64 (h : Nat), .int .i64 (wid : Nat)] ∧ Blk W0 (w.heap.size + 1) TGr #[.pointer p, .bool tl, .int .i64 eo]) := by
    show ∀ _, _
    rintro W0 rfl
    have b1 := Blk.new (w.alloc (.cells #[.int .i64 top, .int .i64 (left : Nat), .int .i64 (h : Nat), .int .i64 (wid : Nat)] 40)) TGr #[.pointer p, .bool tl, .int .i64 eo]
    rw [World.size_alloc] at b1
    exact ⟨((Fr.refl [] w).alloc _).alloc _, (Blk.new w _ _).alloc _, b1⟩
  have z1 : IntKind.i64.wrap (40 - (left : Int)) = 40 - (left : Int) := IntWalk.i64_in _ (by omega)
  clear hl0
  go_enter Tryz.func24, Tryz.ntmps24
  go_wp2_with fail
  obtain ⟨W0, hW0⟩ : ∃ W0, W0 = (w.alloc (.cells #[.int .i64 top, .int .i64 (left : Nat), .int .i64 (h : Nat), .int .i64 (wid : Nat)] 40)).alloc (.cells #[.pointer p, .bool tl, .int .i64 eo] TGr) := ⟨_, rfl⟩
  obtain ⟨k1, k2, k3⟩ := HW.out W0 hW0
  rw [← hW0]
  obtain ⟨GB, hGB⟩ : ∃ GB, GB = w.heap.size + 1 := ⟨_, rfl⟩
  obtain ⟨VB, hVB⟩ : ∃ VB, VB = w.heap.size := ⟨_, rfl⟩
  rw [← hGB] at k3 ⊢
  rw [← hVB] at k2 ⊢
  have HB0 : Hid (Fr [] w W0 ∧ Blk W0 VB 40 #[.int .i64 top, .int .i64 (left : Nat), .int .i64 (h : Nat), .int .i64 (wid : Nat)] ∧ Blk W0 GB TGr #[.pointer p, .bool tl, .int .i64 eo]) := ⟨k1, k2, k3⟩
  have HCEL : Hid (∀ w', Fr [] W0 w' → w'.cell? ⟨GB, 0, none⟩ = some (.pointer p) ∧ w'.cell? ⟨GB, 1, none⟩ = some (.bool tl) ∧ w'.cell? ⟨GB, 2, none⟩ = some (.int .i64 eo) ∧ w'.cell? ⟨VB, 1, none⟩ = some (.int .i64 (left : Nat)) ∧ w'.cell? ⟨VB, 3, none⟩ = some (.int .i64 (wid : Nat))) := by
    show ∀ _, _
    intro w' hf
    have h1 := HB0.out.2.2.fr hf (by simp)
    have h2 := HB0.out.2.1.fr hf (by simp)
    exact ⟨h1.cell 0, h1.cell 1, h1.cell 2, h2.cell 1, h2.cell 3⟩
  clear hW0 k1 k2 k3 hGB hVB HW
  refine (HRW.out W0 HB0.out.1).mono ?_
  rintro en w2 ⟨C2, n2, c2, rfl, hn2, hs2, hf2⟩
  have HF2 := Lib.hid hf2
  have HS2 := Lib.hid hs2
  have HN2 : Hid (n2 = xr.length) := hn2
  have hn26 : (n2 : Int) ≤ 1000 := by have := HXL.out; omega
  clear hn2 hs2 hf2
  go_wp2_with fail
  go_loopw [15, 7] (fun iv ov wr => ∃ (j : Nat) (C : Option Addr) (c n : Nat) (ps : List Part), iv = .int .i64 j ∧ ov = .slice C n c ∧ j ≤ n2 ∧ n = j ∧ Hid (TXs w2 wr C c n ps ∧ ps.map (·.cs) = (xr.take j).map (fun x => strV (textsP s (cellsOf rs x.1) left m)) ∧ ∀ p ∈ ps, p.n = p.cs.length)) (fun iv _ _ => n2 - (intOf iv).toNat)
  case atStart => exact ⟨0, none, 0, 0, [], rfl, rfl, Nat.zero_le _, rfl, ⟨ORow.nil_ _ _ _, fun p hp => (by simp at hp), Fr.refl _ _, fun j hj => (by cases hj)⟩, rfl, fun p hp => (by simp at hp)⟩
  case round =>
    obtain ⟨j, C, c, n, ps, rfl, rfl, hj, rfl, HX⟩ := hrel
    by_cases hlt : n < n2
    · have hjl : n < xr.length := by rw [← HN2.out]; exact hlt
      obtain ⟨ad, rfl, _, hcell⟩ := (HS2.out.fr HX.out.1.fr (.inr List.not_mem_nil)).at_ (k := n) (u := .int .i64 ((xr[n].1 : Nat) : Int)) (by unfold numI; rw [List.getElem?_map, List.getElem?_eq_getElem hjl]; rfl)
      obtain ⟨q, hq⟩ : ∃ q, q = xr[n].1 := ⟨_, rfl⟩
      rw [← hq] at hcell
      have HQ : Hid (q < k) := by show _ < _; rw [hq]; exact HXR.out _ (List.getElem_mem hjl)
      have HTA : Hid ((xr.take (n + 1)).map (fun x => strV (textsP s (cellsOf rs x.1) left m)) = (xr.take n).map (fun x => strV (textsP s (cellsOf rs x.1) left m)) ++ [strV (textsP s (cellsOf rs q) left m)]) := by
        show _ = _
        rw [List.take_succ_eq_append_getElem hjl, List.map_append, hq]
        rfl
      have hj0 : (0 : Int) ≤ (n : Int) := by omega
      have hj1 : (n : Int) < (n2 : Int) := by omega
      have HFR : Hid (Fr [] W0 wr) := HF2.out.trans HX.out.1.fr
      obtain ⟨_, _, _, u1, u3⟩ := HCEL.out wr HFR.out
      clear hq hjl
      rcases hmm with ⟨z2, hmm⟩ | ⟨z2, hmm⟩
      all_goals subst hmm
      all_goals first
        | (obtain ⟨g0, g1, g2, v1, v3⟩ := HCEL.out _ (HFR.out.alloc (.cells #[.int .i64 (q : Nat), .int .i64 (left : Nat), .int .i64 1, .int .i64 (40 - (left : Int))] 137))
           go_wp2_with fail
           obtain ⟨wa, hwa⟩ : ∃ wa, wa = wr.alloc (.cells #[.int .i64 (q : Nat), .int .i64 (left : Nat), .int .i64 1, .int .i64 (40 - (left : Int))] 137) := ⟨_, rfl⟩
           have HFA : Hid (Fr [] wr wa) := by show Fr _ _ _; rw [hwa]; exact (Fr.refl [] wr).alloc _
           rw [← hwa]
           clear hwa g0 g1 g2 v1 v3 u1 u3
           refine (HTK.out wa q ((HB0.out.1.trans HFR.out).trans HFA.out) HQ.out).mono ?_)
        | (obtain ⟨g0, g1, g2, v1, v3⟩ := HCEL.out _ (HFR.out.alloc (.cells #[.int .i64 (q : Nat), .int .i64 (left : Nat), .int .i64 1, .int .i64 (wid : Nat)] 137))
           go_wp2_with fail
           obtain ⟨wa, hwa⟩ : ∃ wa, wa = wr.alloc (.cells #[.int .i64 (q : Nat), .int .i64 (left : Nat), .int .i64 1, .int .i64 (wid : Nat)] 137) := ⟨_, rfl⟩
           have HFA : Hid (Fr [] wr wa) := by show Fr _ _ _; rw [hwa]; exact (Fr.refl [] wr).alloc _
           rw [← hwa]
           clear hwa g0 g1 g2 v1 v3 u1 u3
           refine (HTK.out wa q ((HB0.out.1.trans HFR.out).trans HFA.out) HQ.out).mono ?_)
      all_goals
        rintro en w4 ⟨B4, n4, c4, rfl, hco, hf4⟩
        have HCO := Lib.hid (hco w4 (Fr.refl _ _))
        have HF4 : Hid (Fr [] wr w4) := HFA.out.trans hf4
        clear hco hf4
        go_wp2_with fail
        refine HCO.out.mono ?_
        rintro en w5 ⟨A5, c5, rfl, ho5, hf5⟩
        have HF5 : Hid (Fr [] wr w5) := HF4.out.trans hf5
        have HO5 := Lib.hid ho5
        have HTX5 := Lib.hid (HX.out.1.fr0 HF5.out)
        clear ho5 hf5 HCO
        go_wp2_with (at_builtin; go_must (
          refine wpList_app _ rfl _ _ 56 128 rfl (Value.slice none 0 0) 1 24 Tryz.underlying56 infoTS rfl (by decide) C c n (partV ps) rfl (ORow.fr HTX5.out.own ((Fr.refl [] w5).alloc _) (.inr List.not_mem_nil)) _ 1 1 [.slice A5 m c5] rfl rfl (sl_new w5 _ _) (by simp [Value.oneCell']) (by simp only [maxLen]; omega) (by omega) ?_
          intro C6 c6 w6 hr6 hg6 hb6
          have HN6 : Hid (TXs w2 w6 C6 c6 (n + 1) (ps ++ [⟨A5, m, c5, strV (textsP s (cellsOf rs q) left m)⟩])) := HTX5.out.app ((Fr.refl [] w5).alloc _) (ORow.fr HO5.out ((Fr.refl [] w5).alloc _) (.inr List.not_mem_nil)) hr6 hg6 hb6
          clear hr6 hg6 hb6))
        go_roundw
        case rel =>
          refine ⟨n + 1, C6, c6, n + 1, _, by go_num, by simp, by omega, rfl, HN6.out, ?_, ?_⟩
          · rw [HTA.out, List.map_append, HX.out.2.1]
            rfl
          · intro p hp
            rcases List.mem_append.1 hp with h | h
            · exact HX.out.2.2 p h
            · rw [List.mem_singleton] at h
              rw [h]
              show m = (strV _).length
              rw [strV_len, textsP_len]
        case measure => simp [intOf]; omega
    · obtain rfl : n = n2 := by omega
      have hps : ps.map (·.cs) = (xr.map fun x => textsP s (cellsOf rs x.1) left m).map strV := by
        rw [HX.out.2.1, HN2.out, List.take_length, List.map_map]
        rfl
      have HEND : Hid (TextsV w (xr.map fun x => textsP s (cellsOf rs x.1) left m) (.returned (.slice C n c)) wr) := by
        have hl := HX.out.1.own.1
        unfold partV at hl
        rw [List.length_map, Nat.mul_one] at hl
        exact ⟨C, n, c, ps, rfl, hl.symm, hps, HX.out.2.2, ORow.sl HX.out.1.own, fun p hp => ORow.sl (HX.out.1.b p hp), (HB0.out.1.trans HF2.out).trans HX.out.1.fr⟩
      clear hps
      go_wp2_with fail
      go_ret
      exact HEND.out
set_option maxRecDepth 100000 in
set_option maxHeartbeats 1600000 in
theorem vtexts_any (w : World) (p : Option Addr) (tl : Bool) (eo top : Int) (g left h m a k : Nat) (s : List UInt8) (rs : List RW) (ha : ArAt g s w) (ht : TreeAt TN [] w p (rs.map Prod.fst)) (hr : RowsAt [] w s.length rs) (hk : k = rs.length) (hk4 : k ≤ 400) (hm : 1 ≤ m) (hcm : left + m ≤ 40) (hA : BegAt k top a) (hh : h ≤ 1000000)
    (hp : ∀ r ∈ rs, ∀ c ∈ r.2, (plc c.sp).length ≤ 1000000) (hc : ∀ r ∈ rs, r.2.length ≤ 1000000) (hl : s.length ≤ 1000000) :
    Calls Tryz.prog 24 #[.agg #[.int .i64 top, .int .i64 (left : Nat), .int .i64 (h : Nat), .int .i64 (m : Nat)], .agg #[.pointer p, .bool tl, .int .i64 eo], .pointer (some ⟨g, 0, none⟩)] w
      (TextsV w ((rowsP (rs.map Prod.fst) a h).map fun x => textsP s (cellsOf rs x.1) left m)) := by
  have hxn : (rs.map Prod.fst).length = k := by rw [List.length_map, hk]
  have HRW : Hid (∀ w', Fr [] w w' → Calls Tryz.prog 18 #[.agg #[.int .i64 top, .int .i64 (left : Nat), .int .i64 (h : Nat), .int .i64 (m : Nat)], .agg #[.pointer p, .bool tl, .int .i64 eo]] w' (IntsAns w' (rowsP (rs.map Prod.fst) a h))) := by
    show ∀ _, _
    intro w' hf
    exact rows_any w' p tl eo (rs.map Prod.fst) k a h top left m (ht.fr0 hf) hxn.symm (by omega) hA hh
  obtain ⟨xr, hxr⟩ : ∃ xr, xr = rowsP (rs.map Prod.fst) a h := ⟨_, rfl⟩
  have HXR : Hid (∀ x ∈ xr, x.1 < k) := by
    show ∀ _, _
    intro x hx
    rw [hxr] at hx
    unfold rowsP shownR at hx
    have h1 := (List.mem_filter.1 (List.mem_of_mem_take hx)).1
    unfold allR at h1
    obtain ⟨q, hq, rfl⟩ := List.mem_map.1 h1
    rw [List.mem_range'_1, hxn] at hq
    have := hA.le
    show q < k
    omega
  have HXL : Hid (xr.length ≤ 1000) := by
    show _ ≤ _
    rw [hxr]
    unfold rowsP shownR
    have h1 : ((allR (rs.map Prod.fst) a (rs.map Prod.fst).length).filter fun x => !x.2.h).length ≤ (allR (rs.map Prod.fst) a (rs.map Prod.fst).length).length := List.length_filter_le ..
    rw [allR_len] at h1
    rw [List.length_take]
    omega
  rw [← hxr] at HRW ⊢
  have HTK : Hid (∀ w' (q : Nat), Fr [] w w' → q < k → Calls Tryz.prog 76 #[.agg #[.pointer p, .bool tl, .int .i64 eo], .pointer (some ⟨g, 0, none⟩), .agg #[.int .i64 (q : Nat), .int .i64 (left : Nat), .int .i64 1, .int .i64 (m : Nat)]] w' (TkC w' (textsP s (cellsOf rs q) left m) m)) := by
    show ∀ _, _
    intro w' q hf hq
    have := block_take w' p tl eo g q left 1 m q (q + 1) k s rs (ha.fr0 hf) (ht.fr0 hf) (hr.grow hf fun k hk => .inl hk) hk (by omega) (by omega) (by omega) hm hcm (.inr (.inl ⟨rfl, by omega⟩)) (.inr (.inl ⟨by omega, by omega, by omega⟩)) hp hc hl
    have e : allR (rs.map Prod.fst) q (q + 1) = [(q, (rs.map Prod.fst).getD q RV.none)] := by
      unfold allR
      rw [show q + 1 - q = 1 by omega]
      rfl
    rw [e] at this
    exact this.mono fun _ _ h => h.tkc (textsP_len _ _ _ _) (by omega)
  exact vtexts_gen w p tl eo top (m : Nat) g left h m m k s rs xr (.inr ⟨by omega, rfl⟩) HRW HXR HXL (by omega) HTK
end Go.Proofs.YtblafakafgediaaGreat
