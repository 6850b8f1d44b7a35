import Derived.Test.YtblafakafgediaaH26
import Derived.Test.YtblafakafgediaaH12
import Derived.Deep.RegionLaw
import Derived.Deep.RegionHeld3
namespace Go.Proofs.Ytblafakafgediaa
open Go.RowKit Go.Shelf Go.Proofs.Dm
attribute [local go_sem] Oper.semAt_some
theorem allR_at (xs : List RV) (n : Nat) (pre : List (Nat × RV)) (a : Nat) (r : RV) (h : pre ++ [(a, r)] <+: allR xs 0 n) : a = pre.length ∧ pre.length < n ∧ r = xs.getD a RV.none := by
  obtain ⟨t, ht⟩ := h
  have hl : (allR xs 0 n).length = n := by rw [allR_len]; omega
  have h1 : (allR xs 0 n)[pre.length]? = some (a, r) := by rw [← ht]; simp
  have h2 : pre.length < n := by
    rcases Nat.lt_or_ge pre.length n with h | h
    · exact h
    · rw [List.getElem?_eq_none (by omega)] at h1; cases h1
  unfold allR at h1
  rw [List.getElem?_map, List.getElem?_range' (by omega)] at h1
  simp only [Option.map_some, Option.some.injEq, Prod.mk.injEq] at h1
  obtain ⟨h3, h4⟩ := h1
  refine ⟨by omega, h2, ?_⟩
  rw [← h4, ← h3]
def rwv (rs : List RW) : List (Nat × List CV) := rs.map fun r => (r.1.e.toNat, r.2)
set_option maxRecDepth 100000 in
set_option maxHeartbeats 1600000 in
theorem save_any (w : World) (p : Option Addr) (tl : Bool) (eo g n : Nat) (s : List UInt8) (rs : List RW) (ha : ArAt g s w) (ht : TreeAt TN [] w p (rs.map Prod.fst)) (hr : RowsAt [] w s.length rs) (hn : n = rs.length) (hn7 : n ≤ 700) (hk : ∀ r ∈ rs, ∀ c ∈ r.2, Short c) (he : ∀ r ∈ rs, ∃ k : Nat, r.1.e = (k : Int) ∧ k ≤ 3) (heo : eo ≤ 3)
    (hs : s.length ≤ 5000) (hc : ∀ r ∈ rs, r.2.length ≤ 100) :
    Calls Try.prog 14 #[.agg #[.pointer p, .bool tl, .int .i64 (eo : Nat)], .pointer (some ⟨g, 0, none⟩)] w (BytesAns w (savesP s n tl eo 0 (rwv rs))) := by
  have HLN : Hid (∀ w', Fr [] w w' → Calls Try.prog 13 #[.agg #[.pointer p, .bool tl, .int .i64 (eo : Nat)]] w' fun en w'' => en = .returned (.int .i64 (n : Nat)) ∧ Fr [] w' w'') := by
    show ∀ _, _
    intro w' hf
    have := glen_any [] p (rs.map Prod.fst) tl eo w' (ht.fr0 hf)
    rw [List.length_map, ← hn] at this
    exact this
  have HRG : Hid (∀ w', Fr [] w w' → Calls Try.prog 38 #[.agg #[.pointer p], .int .i64 0, .int .i64 (n : Nat)] w' (FuncAns w' p 0 n)) := by
    show ∀ _, _
    intro w' hf
    have := range_all [] p (rs.map Prod.fst) w' (ht.fr0 hf) (by rw [List.length_map]; omega)
    rw [List.length_map, ← hn] at this
    exact this
  have HW : Hid (∀ W0, W0 = ((w.alloc (.cells #[.pointer p, .bool tl, .int .i64 (eo : Nat)] TGr)).alloc (.cells #[.pointer (some ⟨g, 0, none⟩)] 28)).alloc (.cells #[.slice none 0 0] 32) →
      Fr [] w W0 ∧ Blk W0 w.heap.size TGr #[.pointer p, .bool tl, .int .i64 (eo : Nat)] ∧ Blk W0 (w.heap.size + 1) 28 #[.pointer (some ⟨g, 0, none⟩)] ∧ Blk W0 (w.heap.size + 1 + 1) 32 #[.slice none 0 0]) := by
    show ∀ _, _
    rintro W0 rfl
    have b1 := Blk.new (w.alloc (.cells #[.pointer p, .bool tl, .int .i64 (eo : Nat)] TGr)) 28 #[.pointer (some ⟨g, 0, none⟩)]
    have b2 := Blk.new ((w.alloc (.cells #[.pointer p, .bool tl, .int .i64 (eo : Nat)] TGr)).alloc (.cells #[.pointer (some ⟨g, 0, none⟩)] 28)) 32 #[.slice none 0 0]
    refine ⟨(((Fr.refl [] w).alloc _).alloc _).alloc _, ((Blk.new w TGr _).alloc _).alloc _, ?_, by simpa using b2⟩
    have := b1.alloc (.cells #[.slice none 0 0] 32)
    simpa using this
  have HIN : Hid (ArAt g s w ∧ TreeAt TN [] w p (rs.map Prod.fst) ∧ RowsAt [] w s.length rs) := ⟨ha, ht, hr⟩
  have HN : Hid (n = rs.length ∧ n ≤ 700) := ⟨hn, hn7⟩
  have HK := Lib.hid hk
  have HE := Lib.hid he
  have HEO := Lib.hid heo
  have HS := Lib.hid hs
  have HC := Lib.hid hc
  clear ha ht hr hn hn7 hk he heo hs hc
  refine callsIn_wide.1 (callsIn_of_wp_marks (n := 3) Try.func14 rfl trivial (wpIn_wide.2 ?_))
  simp only [Try.ntmps14, List.size_toArray, List.length_cons, List.length_nil, Nat.reduceAdd, Nat.reduceSub, Array.replicate_succ, Array.replicate_zero, List.push_toArray, List.append_toArray, List.nil_append, List.cons_append]
  go_wp2_with fail
  obtain ⟨W0, hW0⟩ : ∃ W0, W0 = ((w.alloc (.cells #[.pointer p, .bool tl, .int .i64 (eo : Nat)] TGr)).alloc (.cells #[.pointer (some ⟨g, 0, none⟩)] 28)).alloc (.cells #[.slice none 0 0] 32) := ⟨_, rfl⟩
  obtain ⟨k1, k2, k3, k4⟩ := HW.out W0 hW0
  rw [← hW0]
  obtain ⟨OB, hOB⟩ : ∃ OB, OB = w.heap.size + 1 + 1 := ⟨_, rfl⟩
  obtain ⟨AB, hAB⟩ : ∃ AB, AB = w.heap.size + 1 := ⟨_, rfl⟩
  obtain ⟨GB, hGB⟩ : ∃ GB, GB = w.heap.size := ⟨_, rfl⟩
  rw [← hOB] at k4 ⊢
  rw [← hAB] at k3 ⊢
  rw [← hGB] at k2 ⊢
  have HB0 : Hid (Fr [] w W0 ∧ Blk W0 GB TGr #[.pointer p, .bool tl, .int .i64 (eo : Nat)] ∧ Blk W0 AB 28 #[.pointer (some ⟨g, 0, none⟩)] ∧ Blk W0 OB 32 #[.slice none 0 0]) := ⟨k1, k2, k3, k4⟩
  have HNB : Hid (GB = w.heap.size ∧ AB = w.heap.size + 1 ∧ OB = w.heap.size + 1 + 1) := ⟨hGB, hAB, hOB⟩
  have g0 : W0.cell? ⟨GB, 0, none⟩ = some (.pointer p) := k2.cell 0
  have g1 : W0.cell? ⟨GB, 1, none⟩ = some (.bool tl) := k2.cell 1
  have g2 : W0.cell? ⟨GB, 2, none⟩ = some (.int .i64 (eo : Nat)) := k2.cell 2
  clear hW0 k1 k2 k3 k4 hOB hAB hGB HW
  have n1 := World.new_ne W0 _ g0
  go_region_held3 (fun w' => w'.cell? ⟨GB, 0, none⟩ = some (.pointer p) ∧ w'.cell? ⟨GB, 1, none⟩ = some (.bool tl) ∧ w'.cell? ⟨GB, 2, none⟩ = some (.int .i64 (eo : Nat))) (go_keep) ((first
    | (go_at_call 13; go_must (
         refine (HLN.out _ (HB0.out.1.drew)).mono ?_
         rintro e w4 ⟨rfl, hf4⟩
         have HF4 : Hid (Fr [] W0 w4) := (Fr.refl [] W0).drew.trans hf4
         have kk := HB0.out.2.1.fr HF4.out (by simp)
         have g0' : w4.cell? ⟨GB, 0, none⟩ = some (.pointer p) := kk.cell 0
         have g1' : w4.cell? ⟨GB, 1, none⟩ = some (.bool tl) := kk.cell 1
         have g2' : w4.cell? ⟨GB, 2, none⟩ = some (.int .i64 (eo : Nat)) := kk.cell 2
         clear hf4 kk))
    | (go_at_call 38; go_must (
         refine (HRG.out _ (HB0.out.1.trans HF4.out)).mono ?_
         rintro e w5 ⟨bi, bj, bt, rfl, hbi, hbj, hbt, hf5⟩
         have HF5 : Hid (Fr [] W0 w5) := HF4.out.trans hf5
         have kk := HB0.out.2.1.fr HF5.out (by simp)
         have g0'' : w5.cell? ⟨GB, 0, none⟩ = some (.pointer p) := kk.cell 0
         have g1'' : w5.cell? ⟨GB, 1, none⟩ = some (.bool tl) := kk.cell 1
         have g2'' : w5.cell? ⟨GB, 2, none⟩ = some (.int .i64 (eo : Nat)) := kk.cell 2
         have HBB : Hid (w5.cell? ⟨bi, 0, none⟩ = some (.int .i64 (0 : Nat)) ∧ w5.cell? ⟨bj, 0, none⟩ = some (.int .i64 (n : Nat)) ∧ w5.cell? ⟨bt, 0, none⟩ = some (.pointer p)) := ⟨hbi, hbj, hbt⟩
         clear hbi hbj hbt hf5 kk))))
  all_goals go_wp2_with fail
  all_goals
    have HTR : Hid (TreeAt TN [some OB] w5 p (rs.map Prod.fst)) := by
      have := HIN.out.2.1
      refine this.grow (E' := [some OB]) (HB0.out.1.trans HF5.out) fun k hk => ?_
      rw [List.mem_singleton] at hk
      injection hk with hk
      exact .inr (by have := HNB.out; omega)
    have HSV0 : Hid (SV w5 w5 OB none 0 0 []) := ⟨HB0.out.2.2.2.fr HF5.out (by simp), ORow.nil_ _ _ _, rfl, Fr.refl _ _, (HB0.out.2.2.2.fr HF5.out (by simp)).lt, fun j hj => by cases hj⟩
    rw [← wpIn_wide (n := 3)]
    refine range_law (E := [some OB]) (F := Fence.wide) rfl (by omega) (gf := 74) rfl trivial (enters_of Try.func74 (by kernel_rfl) rfl)
      (range_stops (3 - 1) bi bj bt 0 n w5 p (rs.map Prod.fst) (Nat.zero_le _) (by rw [List.length_map, HN.out.1]; exact Nat.le_refl _) (by rw [List.length_map]; have := HN.out; omega) HTR.out HBB.out.1 HBB.out.2.1 HBB.out.2.2 ?hne) (Fr.refl _ _) (fun _ => rfl)
      (fun pre W => ∃ C c m, Hid (SV w5 W OB C c m (savesP s n tl eo 0 ((rwv rs).take pre.length)))) (fun _ _ _ => False) ?hI (fun _ _ _ _ h _ => h) ?h0
      (fun x a₁ W => ∃ b, a₁ = { tmps := #[.agg #[.pointer p, .bool tl, .int .i64 (eo : Nat)], .pointer (some ⟨g, 0, none⟩), .pointer (some ⟨GB, 0, none⟩), .pointer (some ⟨AB, 0, none⟩), .slice none 0 0, .pointer (some ⟨OB, 0, none⟩), .int .i64 (x.1 : Nat), .pointer (some ⟨b, 0, none⟩), undef, .pointer (some ⟨GB, 0, none⟩), .agg #[.pointer p], .agg #[.pointer p, .bool tl, .int .i64 (eo : Nat)], .int .i64 (n : Nat), .func (.func 74) #[] #[.pointer (some ⟨bi, 0, none⟩), .pointer (some ⟨bj, 0, none⟩), .pointer (some ⟨bt, 0, none⟩)], .int .i64 (x.1 : Nat), x.2.val, undef, undef, undef, undef, undef, undef, undef, undef, undef, undef, undef, undef, undef, undef, undef, undef, undef, undef, undef, undef, undef, undef, undef, undef, undef, undef], defers := [] } ∧ Blk W b TRow #[.slice x.2.A x.2.n x.2.c, .int .i64 x.2.e, .bool x.2.h]) ?hAx ?assign ?body ?done ?stop
    case hne =>
      have key : ∀ (x : Nat) (u : Value), (∀ A n c, u ≠ .slice A n c) → w5.cell? ⟨x, 0, none⟩ = some u → some x ∉ [some OB] := fun x u hu hx e => by
        rw [List.mem_singleton] at e
        injection e with e
        subst e
        have := HSV0.out.box.cell 0
        rw [hx] at this
        injection this with this
        exact hu _ _ _ this
      exact ⟨key bi _ (fun _ _ _ h => by cases h) HBB.out.1, key bj _ (fun _ _ _ h => by cases h) HBB.out.2.1, key bt _ (fun _ _ _ h => by cases h) HBB.out.2.2⟩
    case hI =>
      rintro pre W W' ⟨C, c, m, h⟩ hc
      exact ⟨C, c, m, h.out.ch hc⟩
    case h0 => exact ⟨none, 0, 0, HSV0.out⟩
    case hAx =>
      rintro x a₁ W l o o' hl ho ⟨b, rfl, hb⟩
      refine ⟨b, rfl, ?_⟩
      unfold Blk at hb ⊢
      rw [World.putObj_heap_other]
      · exact hb
      · intro e; subst e; rw [hb] at hl; injection hl with hl; subst hl; cases ho
    case assign =>
      intro l x W K hK
      obtain ⟨xq, ⟨rA, rn, rc, re, rh⟩⟩ := x
      simp only [encR, RV.val]
      gi_wp2
      refine hK _ _ ((Fr.refl [] W).alloc _) ⟨W.heap.size, rfl, Blk.new W TRow _⟩
    case body =>
      rintro l pre x a₁ W ⟨C, c, m, HSV⟩ hpx ⟨b, rfl, hb⟩
      obtain ⟨xq, ⟨rA, rn, rc, re, rh⟩⟩ := x
      simp only [RV.val] at hb ⊢
      obtain ⟨hq, hqn, hqr⟩ := allR_at _ _ _ _ _ hpx
      subst hq
      obtain ⟨q, hq⟩ : ∃ q, q = pre.length := ⟨_, rfl⟩
      rw [← hq] at hqn hqr HSV ⊢
      have hql : q < rs.length := by rw [← HN.out.1]; exact hqn
      obtain ⟨⟨rv, cs⟩, hrw⟩ : ∃ r, r = rs[q] := ⟨_, rfl⟩
      have hrv : rv = ⟨rA, rn, rc, re, rh⟩ := by
        rw [hqr, List.getD_eq_getElem?_getD, List.getElem?_map, List.getElem?_eq_getElem hql, ← hrw]
        rfl
      subst hrv
      have hmem : ((⟨rA, rn, rc, re, rh⟩, cs) : RW) ∈ rs := by rw [hrw]; exact List.getElem_mem hql
      obtain ⟨k, hke, hk3⟩ := HE.out _ hmem
      simp only at hke
      subst hke
      obtain ⟨r1, r2, r3⟩ := HIN.out.2.2 _ hmem
      have hkk := HK.out _ hmem
      have hcc := HC.out _ hmem
      simp only at r1 r2 r3 hkk hcc
      have HTK : Hid (savesP s n tl eo 0 ((rwv rs).take (q + 1)) = savesP s n tl eo 0 ((rwv rs).take q) ++ pieceP (rowP s cs) n q tl eo k) := by
        show _ = _
        have hl2 : q < (rwv rs).length := by simp [rwv, hql]
        rw [List.take_succ_eq_append_getElem hl2, savesP_snoc, List.length_take, Nat.zero_add, Nat.min_eq_left (Nat.le_of_lt hl2)]
        congr 1
        have : (rwv rs)[q] = (k, cs) := by simp [rwv, ← hrw]
        rw [this]
      have HFW : Hid (Fr [] w W) := (HB0.out.1.trans HF5.out).seq HSV.out.fr fun x hx => by
        rw [List.mem_singleton] at hx
        exact .inr (.inr ⟨OB, by have := HNB.out; omega, hx⟩)
      have HPR : Hid (∀ w', Fr [] w w' → Calls Try.prog 39 #[.agg #[.slice rA rn rc, .int .i64 (k : Nat), .bool rh], .pointer (some ⟨g, 0, none⟩)] w' (BytesAns w' (rowP s cs))) := by
        show ∀ _, _
        intro w' hf
        refine rowprint_any w' s.length g rn rc k rh rA cs s (HIN.out.1.fr0 hf) rfl ((r3.fr0 hf).now) r1 hkk ?_ (by have := HS.out; omega)
        have := HS.out
        calc cs.length * (s.length + 4003) ≤ 100 * 9003 := Nat.mul_le_mul hcc (by omega)
          _ ≤ 1000000 := by omega
      have HLNL : Hid ((rowP s cs).length ≤ 1000000) := by
        show _ ≤ _
        have h1 := rowP_le s cs (fun c hc => ((r3.now).2 c hc).2.2.2.2) hkk
        have h2 : cs.length * (s.length + 4003) ≤ 100 * 9003 := Nat.mul_le_mul hcc (by have := HS.out; omega)
        omega
      have HML : Hid (m ≤ 1000000000000) := by
        have h1 := savesP_le s n tl eo 900300 ((rwv rs).take q) 0 (fun r hr => by
          obtain ⟨r', hr', rfl⟩ := List.mem_map.1 (List.mem_of_mem_take hr)
          obtain ⟨q1, q2, q3⟩ := HIN.out.2.2 r' hr'
          have h1 := rowP_le s r'.2 (fun c hc => ((q3.now).2 c hc).2.2.2.2) (HK.out r' hr')
          have h2 : r'.2.length * (s.length + 4003) ≤ 100 * 9003 := Nat.mul_le_mul (HC.out r' hr') (by have := HS.out; omega)
          show (rowP s r'.2).length ≤ _
          omega)
        have h2 := HSV.out.ln
        have h3 : ((rwv rs).take q).length ≤ 700 := by
          rw [List.length_take]
          have := HN.out
          omega
        have h4 : ((rwv rs).take q).length * (900300 + 2) ≤ 700 * (900300 + 2) := Nat.mul_le_mul_right _ h3
        show _ ≤ _
        omega
      have HKQ : Hid (k ≤ 3 ∧ q < n ∧ q = pre.length) := ⟨hk3, hqn, hq⟩
      have gW := (HB0.out.2.1.fr HF5.out (by simp)).fr HSV.out.fr (fun e => by rw [List.mem_singleton] at e; injection e with e; have := HNB.out; omega)
      have aW := (HB0.out.2.2.1.fr HF5.out (by simp)).fr HSV.out.fr (fun e => by rw [List.mem_singleton] at e; injection e with e; have := HNB.out; omega)
      have HBW : Hid (Blk W GB TGr #[.pointer p, .bool tl, .int .i64 (eo : Nat)] ∧ Blk W AB 28 #[.pointer (some ⟨g, 0, none⟩)] ∧ Blk W b TRow #[.slice rA rn rc, .int .i64 (k : Nat), .bool rh]) := ⟨gW, aW, hb⟩
      have b0 : W.cell? ⟨b, 0, none⟩ = some (.slice rA rn rc) := hb.cell 0
      have b1 : W.cell? ⟨b, 1, none⟩ = some (.int .i64 (k : Nat)) := hb.cell 1
      have b2 : W.cell? ⟨b, 2, none⟩ = some (.bool rh) := hb.cell 2
      have a0 : W.cell? ⟨AB, 0, none⟩ = some (.pointer (some ⟨g, 0, none⟩)) := aW.cell 0
      clear hqr hrw hmem r1 r2 r3 hkk hcc gW aW hb hpx hqn hql hk3 hq
      gi_wp2
      refine ⟨trivial, (CallsIn.inRound l (callsIn_wide.2 (HPR.out _ HFW.out))).mono ?_⟩
      rintro e w6 ⟨LB, ln, ld, rfl, hln, hlo, hlf, hln2⟩
      have HLO := Lib.hid (ORow.sl hlo)
      have HLN2 := Lib.hid hln
      have HF6 := Lib.hid hlf
      have HSV6 := Lib.hid (HSV.out.fr0 hlf)
      have o0 : w6.cell? ⟨OB, 0, none⟩ = some (.slice C m c) := (HSV.out.fr0 hlf).box.cell 0
      have HL9 : Hid (ln ≤ 1000000) := by show _ ≤ _; have := HLNL.out; omega
      clear hln hlo hlf hln2 b0 b1 b2 a0
      obtain ⟨mk, hmk⟩ : ∃ mk, mk = markP (if k = 0 then eo else k) := ⟨_, rfl⟩
      have HMK : Hid (mk = markP (if k = 0 then eo else k) ∧ mk.length ≤ 2 ∧ ∀ w', Calls Try.prog 40 #[.agg #[.pointer p, .bool tl, .int .i64 (eo : Nat)], .agg #[.slice rA rn rc, .int .i64 (k : Nat), .bool rh]] w' fun en w'' => en = .returned (.string ⟨mk.toArray⟩) ∧ Fr [] w' w'') := by
        refine ⟨hmk, by rw [hmk]; exact markP_len _, fun w' => ?_⟩
        rw [hmk]
        exact mark_any p rA tl rh rn rc eo k HEO.out HKQ.out.1 w'
      clear hmk
      have HFRW : Hid (∀ W', Fr [some OB] w5 W' → Fr [] w W') := by
        show ∀ _, _
        intro W' hf
        refine (HB0.out.1.trans HF5.out).seq hf fun x hx => ?_
        rw [List.mem_singleton] at hx
        exact .inr (.inr ⟨OB, by have := HNB.out; omega, hx⟩)
      have HCELL : Hid (∀ W', Fr [some OB, bk C] W W' → W'.cell? ⟨GB, 0, none⟩ = some (.pointer p) ∧ W'.cell? ⟨GB, 1, none⟩ = some (.bool tl) ∧ W'.cell? ⟨GB, 2, none⟩ = some (.int .i64 (eo : Nat)) ∧ W'.cell? ⟨b, 0, none⟩ = some (.slice rA rn rc) ∧ W'.cell? ⟨b, 1, none⟩ = some (.int .i64 (k : Nat)) ∧ W'.cell? ⟨b, 2, none⟩ = some (.bool rh)) := by
        show ∀ _, _
        intro W' hf
        have hne : ∀ {x : Nat} {t : TypeId} {us : Array Value}, Blk W x t us → t ≠ TU8 → x ≠ OB → some x ∉ [some OB, bk C] := fun hx ht hxo e => by
          rcases List.mem_cons.1 e with e | e
          · injection e with e; exact hxo e
          · rw [List.mem_singleton] at e
            rcases ORow.neB HSV.out.own hx (Ne.symm ht) with h | h
            · rw [h] at e; cases e
            · exact h e.symm
        have hbo : b ≠ OB := fun e => by
          have h1 := HBW.out.2.2
          have h2 := HSV.out.box
          rw [e] at h1
          unfold Blk at h1 h2
          rw [h1] at h2
          injection h2 with h2
          injection h2 with _ h2 _
          exact absurd h2 (by decide)
        have q1 := HBW.out.1.fr hf (hne HBW.out.1 (by decide) (by have := HNB.out; omega))
        have q2 := HBW.out.2.2.fr hf (hne HBW.out.2.2 (by decide) hbo)
        exact ⟨q1.cell 0, q1.cell 1, q1.cell 2, q2.cell 0, q2.cell 1, q2.cell 2⟩
      have hgo : ¬ OB = GB := by have := HNB.out; omega
      have hgo2 : ¬ GB = OB := fun e => hgo e.symm
      have hn1 : (n : Int) ≤ 700 := by have := HN.out; omega
      have hn2 : (1 : Int) ≤ (n : Int) := by have := HKQ.out; omega
      by_cases h1 : (q : Int) < (n : Int) - 1
      · have HYES : Hid (pieceP (rowP s cs) n q tl eo k = rowP s cs ++ mk) := by
          show _ = _
          unfold pieceP
          rw [if_pos (.inl (by omega)), HMK.out.1]
        gi_wp2_with (gi_at_builtin; go_must (
          refine wpListIn_app rfl _ _ 32 TU8 rfl (Value.int .u8 0) 1 1 Try.underlying32 infoU8 rfl (by decide) C c m (bts (savesP s n tl eo 0 ((rwv rs).take q))) rfl HSV6.out.own LB ln ld (bts (rowP s cs)) rfl (by rw [bts_len, ← HLN2.out]) HLO.out (bts_one _) (by have := HML.out; have := HL9.out; simp only [maxLen]; omega) (by have := HML.out; have := HL9.out; omega) ?_
          intro C1 c1 w7 hr7 hg7 hb7
          have hput := HSV6.out.put (k := rowP s cs) (C1 := C1) (c1 := c1) (W1 := w7) (by rw [← HLN2.out]; exact hr7) hg7 (fun j hj => by
            rcases hb7 with h | h
            · exact HSV6.out.nw j (h ▸ hj)
            · rw [h] at hj; injection hj with hj; have := HSV6.out.fr.size; omega)
          rw [← HLN2.out] at hput
          have HP7 := Lib.hid hput
          have HG7 := Lib.hid hg7
          have o1 : w7.cell? ⟨OB, 0, none⟩ = some (.slice C m c) := hput.2.cell 0
          have oz := hput.2.frozen 0
          have ol := hput.2.lt
          obtain ⟨e1, e2, e3, e4, e5, e6⟩ := HCELL.out w7 (HF6.out.of_nil.trans (hg7.weaken fun i _ h => by rw [List.mem_singleton] at h; rw [h]; exact List.mem_cons_of_mem _ (List.mem_singleton.2 rfl)))
          clear hr7 hg7 hb7 hput))
        obtain ⟨w8, hw8⟩ : ∃ w8, w8 = w7.setCell ⟨OB, 0, none⟩ (.slice C1 (m + ln) c1) := ⟨_, rfl⟩
        rw [← hw8] at HP7 ⊢
        clear e1 e2 e3 e4 e5 e6 o1 oz ol
        have HKP8 : Hid (KeepsI [some OB] w5.heap.size W w8 ∧ Fr [some OB, bk C] W w8) := by
          have hf : Fr [some OB, bk C] W w8 := by
            have h1 : Fr [some OB, bk C] W w7 := HF6.out.of_nil.trans (HG7.out.weaken fun i _ h => by rw [List.mem_singleton] at h; rw [h]; exact List.mem_cons_of_mem _ (List.mem_singleton.2 rfl))
            rw [hw8]
            exact h1.setB (fun _ => by simp) 0 _
          exact ⟨HSV.out.keeps rfl hf rfl (List.mem_singleton.2 rfl), hf⟩
        clear hw8
        refine ⟨trivial, (CallsIn.inRound l (callsIn_wide.2 (HLN.out w8 (HFRW.out w8 HP7.out.1.fr)))).mono ?_⟩
        rintro e w9 ⟨rfl, hf9⟩
        have HSV9 := Lib.hid (HP7.out.1.fr0 hf9)
        have HF9 := Lib.hid hf9
        obtain ⟨e1, e2, e3, e4, e5, e6⟩ := HCELL.out w9 (HKP8.out.2.trans hf9.of_nil)
        have o1 : w9.cell? ⟨OB, 0, none⟩ = some (.slice C1 (m + ln) c1) := HSV9.out.box.cell 0
        clear hf9
        gi_wp2
        refine wpIn_region_any (by kernel_rfl) ?_
        change wpAnyIn _ _ _ _ _ _ _ _ _ (World.drew _)
        refine wpAnyIn_ready (rs := [0, 1, 2]) (by kernel_rfl) (by simp) ?_
        refine AllReadyIn.cons rfl (fun K hK => ?_) (AllReadyIn.cons rfl (fun K hK => ?_) (AllReadyIn.cons rfl (fun K hK => ?_) AllReadyIn.nil))
        · go_simp
          refine hK _ _ ?_
          clear hK K
          refine wpAnyIn_ready (rs := [1, 2]) (by kernel_rfl) (by simp) ?_
          refine AllReadyIn.cons rfl (fun K hK => ?_) (AllReadyIn.cons rfl (fun K hK => ?_) AllReadyIn.nil)
          · go_simp
            refine hK _ _ ?_
            clear hK K
            refine wpAnyIn_ready (rs := [2]) (by kernel_rfl) (by simp) ?_
            refine AllReadyIn.cons rfl (fun K hK => ?_) AllReadyIn.nil
            go_simp
            refine hK _ _ ?_
            clear hK K
            refine wpAnyIn_ready (rs := [3]) (by kernel_rfl) (by simp) ?_
            refine AllReadyIn.cons rfl (fun K hK => ?_) AllReadyIn.nil
            rw [if_pos (by simp [Region.wanted])]
            refine wpIn_call (by intro c h; cases h) (f := 40) (vs := #[.agg #[.pointer p, .bool tl, .int .i64 (eo : Nat)], .agg #[.slice rA rn rc, .int .i64 (k : Nat), .bool rh]]) (by go_simp) (HMK.out.2.2 _) (by rintro e w' ⟨he, _⟩; exact ⟨_, he⟩) ?_
            intro v10 w10 hans
            obtain ⟨hv10, hf10⟩ := hans
            injection hv10 with hv10
            subst hv10
            have HF10 : Hid (Fr [] w9 w10) := ((Fr.refl [] w9).drew).trans hf10
            have HSV10 := Lib.hid (HSV9.out.fr0 HF10.out)
            have o2 : w10.cell? ⟨OB, 0, none⟩ = some (.slice C1 (m + ln) c1) := HSV10.out.box.cell 0
            clear hf10
            try go_simp
            refine hK _ _ ?_
            clear hK K
            refine wpAnyIn_ready (rs := [4]) (by kernel_rfl) (by simp) ?_
            refine AllReadyIn.cons rfl (fun K hK => ?_) AllReadyIn.nil
            rw [if_pos (by simp [Region.wanted])]
            refine wpIn_appstr (.tmp 36) (.tmp 39) 32 9 TU8 rfl Try.underlying32 Try.underlying9 infoU8 C1 c1 (m + ln) (bts (savesP s n tl eo 0 ((rwv rs).take q) ++ rowP s cs)) (by rfl) HSV10.out.own mk (by rfl) (by have := HMK.out.2.1; have := HML.out; have := HL9.out; omega) w5.heap.size HSV10.out.fr.size HSV10.out.nw ?_
            intro C2 c2 w11 hr11 hg11 hn11
            have hput := HSV10.out.put hr11 hg11 hn11
            have HP11 := Lib.hid hput
            have HG11 := Lib.hid hg11
            have o3 : w11.cell? ⟨OB, 0, none⟩ = some (.slice C1 (m + ln) c1) := hput.2.cell 0
            have oz := hput.2.frozen 0
            have ol := hput.2.lt
            clear hr11 hg11 hn11 hput
            try go_simp
            refine hK _ _ ?_
            clear hK K
            refine wpAnyIn_ready (rs := [5]) (by kernel_rfl) (by simp) ?_
            refine AllReadyIn.cons rfl (fun K hK => ?_) AllReadyIn.nil
            go_simp
            refine hK _ _ ?_
            clear hK K
            refine wpAnyIn_done (by kernel_rfl) ?_ _
            gi_wp2
            have hf11 : Fr [some OB, bk C1] w10 (w11.setCell ⟨OB, 0, none⟩ (.slice C2 (m + ln + mk.length) c2)) := (HG11.out.weaken fun i _ h => by rw [List.mem_singleton] at h; rw [h]; exact List.mem_cons_of_mem _ (List.mem_singleton.2 rfl)).setB (fun _ => by simp) 0 _
            refine ⟨((HKP8.out.1.trans (KeepsI.of_fr HF9.out)).trans (KeepsI.of_fr HF10.out)).trans (HSV10.out.keeps rfl hf11 rfl (List.mem_singleton.2 rfl)), C2, c2, m + ln + mk.length, ?_⟩
            rw [List.length_append, List.length_singleton, ← HKQ.out.2.2, HTK.out, HYES.out, ← List.append_assoc]
            exact HP11.out.1
          · go_simp
            refine hK _ _ ?_
            clear hK K
            refine wpAnyIn_ready (rs := [1]) (by kernel_rfl) (by simp) ?_
            refine AllReadyIn.cons rfl (fun K hK => ?_) AllReadyIn.nil
            go_simp
            refine hK _ _ ?_
            clear hK K
            refine wpAnyIn_ready (rs := [3]) (by kernel_rfl) (by simp) ?_
            refine AllReadyIn.cons rfl (fun K hK => ?_) AllReadyIn.nil
            rw [if_pos (by simp [Region.wanted])]
            refine wpIn_call (by intro c h; cases h) (f := 40) (vs := #[.agg #[.pointer p, .bool tl, .int .i64 (eo : Nat)], .agg #[.slice rA rn rc, .int .i64 (k : Nat), .bool rh]]) (by go_simp) (HMK.out.2.2 _) (by rintro e w' ⟨he, _⟩; exact ⟨_, he⟩) ?_
            intro v10 w10 hans
            obtain ⟨hv10, hf10⟩ := hans
            injection hv10 with hv10
            subst hv10
            have HF10 : Hid (Fr [] w9 w10) := ((Fr.refl [] w9).drew).trans hf10
            have HSV10 := Lib.hid (HSV9.out.fr0 HF10.out)
            have o2 : w10.cell? ⟨OB, 0, none⟩ = some (.slice C1 (m + ln) c1) := HSV10.out.box.cell 0
            clear hf10
            try go_simp
            refine hK _ _ ?_
            clear hK K
            refine wpAnyIn_ready (rs := [4]) (by kernel_rfl) (by simp) ?_
            refine AllReadyIn.cons rfl (fun K hK => ?_) AllReadyIn.nil
            rw [if_pos (by simp [Region.wanted])]
            refine wpIn_appstr (.tmp 36) (.tmp 39) 32 9 TU8 rfl Try.underlying32 Try.underlying9 infoU8 C1 c1 (m + ln) (bts (savesP s n tl eo 0 ((rwv rs).take q) ++ rowP s cs)) (by rfl) HSV10.out.own mk (by rfl) (by have := HMK.out.2.1; have := HML.out; have := HL9.out; omega) w5.heap.size HSV10.out.fr.size HSV10.out.nw ?_
            intro C2 c2 w11 hr11 hg11 hn11
            have hput := HSV10.out.put hr11 hg11 hn11
            have HP11 := Lib.hid hput
            have HG11 := Lib.hid hg11
            have o3 : w11.cell? ⟨OB, 0, none⟩ = some (.slice C1 (m + ln) c1) := hput.2.cell 0
            have oz := hput.2.frozen 0
            have ol := hput.2.lt
            clear hr11 hg11 hn11 hput
            try go_simp
            refine hK _ _ ?_
            clear hK K
            refine wpAnyIn_ready (rs := [5]) (by kernel_rfl) (by simp) ?_
            refine AllReadyIn.cons rfl (fun K hK => ?_) AllReadyIn.nil
            go_simp
            refine hK _ _ ?_
            clear hK K
            refine wpAnyIn_done (by kernel_rfl) ?_ _
            gi_wp2
            have hf11 : Fr [some OB, bk C1] w10 (w11.setCell ⟨OB, 0, none⟩ (.slice C2 (m + ln + mk.length) c2)) := (HG11.out.weaken fun i _ h => by rw [List.mem_singleton] at h; rw [h]; exact List.mem_cons_of_mem _ (List.mem_singleton.2 rfl)).setB (fun _ => by simp) 0 _
            refine ⟨((HKP8.out.1.trans (KeepsI.of_fr HF9.out)).trans (KeepsI.of_fr HF10.out)).trans (HSV10.out.keeps rfl hf11 rfl (List.mem_singleton.2 rfl)), C2, c2, m + ln + mk.length, ?_⟩
            rw [List.length_append, List.length_singleton, ← HKQ.out.2.2, HTK.out, HYES.out, ← List.append_assoc]
            exact HP11.out.1
        · go_simp
          refine hK _ _ ?_
          clear hK K
          refine wpAnyIn_ready (rs := [0, 2]) (by kernel_rfl) (by simp) ?_
          refine AllReadyIn.cons rfl (fun K hK => ?_) (AllReadyIn.cons rfl (fun K hK => ?_) AllReadyIn.nil)
          · go_simp
            refine hK _ _ ?_
            clear hK K
            refine wpAnyIn_ready (rs := [2]) (by kernel_rfl) (by simp) ?_
            refine AllReadyIn.cons rfl (fun K hK => ?_) AllReadyIn.nil
            go_simp
            refine hK _ _ ?_
            clear hK K
            refine wpAnyIn_ready (rs := [3]) (by kernel_rfl) (by simp) ?_
            refine AllReadyIn.cons rfl (fun K hK => ?_) AllReadyIn.nil
            rw [if_pos (by simp [Region.wanted])]
            refine wpIn_call (by intro c h; cases h) (f := 40) (vs := #[.agg #[.pointer p, .bool tl, .int .i64 (eo : Nat)], .agg #[.slice rA rn rc, .int .i64 (k : Nat), .bool rh]]) (by go_simp) (HMK.out.2.2 _) (by rintro e w' ⟨he, _⟩; exact ⟨_, he⟩) ?_
            intro v10 w10 hans
            obtain ⟨hv10, hf10⟩ := hans
            injection hv10 with hv10
            subst hv10
            have HF10 : Hid (Fr [] w9 w10) := ((Fr.refl [] w9).drew).trans hf10
            have HSV10 := Lib.hid (HSV9.out.fr0 HF10.out)
            have o2 : w10.cell? ⟨OB, 0, none⟩ = some (.slice C1 (m + ln) c1) := HSV10.out.box.cell 0
            clear hf10
            try go_simp
            refine hK _ _ ?_
            clear hK K
            refine wpAnyIn_ready (rs := [4]) (by kernel_rfl) (by simp) ?_
            refine AllReadyIn.cons rfl (fun K hK => ?_) AllReadyIn.nil
            rw [if_pos (by simp [Region.wanted])]
            refine wpIn_appstr (.tmp 36) (.tmp 39) 32 9 TU8 rfl Try.underlying32 Try.underlying9 infoU8 C1 c1 (m + ln) (bts (savesP s n tl eo 0 ((rwv rs).take q) ++ rowP s cs)) (by rfl) HSV10.out.own mk (by rfl) (by have := HMK.out.2.1; have := HML.out; have := HL9.out; omega) w5.heap.size HSV10.out.fr.size HSV10.out.nw ?_
            intro C2 c2 w11 hr11 hg11 hn11
            have hput := HSV10.out.put hr11 hg11 hn11
            have HP11 := Lib.hid hput
            have HG11 := Lib.hid hg11
            have o3 : w11.cell? ⟨OB, 0, none⟩ = some (.slice C1 (m + ln) c1) := hput.2.cell 0
            have oz := hput.2.frozen 0
            have ol := hput.2.lt
            clear hr11 hg11 hn11 hput
            try go_simp
            refine hK _ _ ?_
            clear hK K
            refine wpAnyIn_ready (rs := [5]) (by kernel_rfl) (by simp) ?_
            refine AllReadyIn.cons rfl (fun K hK => ?_) AllReadyIn.nil
            go_simp
            refine hK _ _ ?_
            clear hK K
            refine wpAnyIn_done (by kernel_rfl) ?_ _
            gi_wp2
            have hf11 : Fr [some OB, bk C1] w10 (w11.setCell ⟨OB, 0, none⟩ (.slice C2 (m + ln + mk.length) c2)) := (HG11.out.weaken fun i _ h => by rw [List.mem_singleton] at h; rw [h]; exact List.mem_cons_of_mem _ (List.mem_singleton.2 rfl)).setB (fun _ => by simp) 0 _
            refine ⟨((HKP8.out.1.trans (KeepsI.of_fr HF9.out)).trans (KeepsI.of_fr HF10.out)).trans (HSV10.out.keeps rfl hf11 rfl (List.mem_singleton.2 rfl)), C2, c2, m + ln + mk.length, ?_⟩
            rw [List.length_append, List.length_singleton, ← HKQ.out.2.2, HTK.out, HYES.out, ← List.append_assoc]
            exact HP11.out.1
          · go_simp
            refine hK _ _ ?_
            clear hK K
            refine wpAnyIn_ready (rs := [0, 3]) (by kernel_rfl) (by simp) ?_
            refine AllReadyIn.cons rfl (fun K hK => ?_) (AllReadyIn.cons rfl (fun K hK => ?_) AllReadyIn.nil)
            · go_simp
              refine hK _ _ ?_
              clear hK K
              refine wpAnyIn_ready (rs := [3]) (by kernel_rfl) (by simp) ?_
              refine AllReadyIn.cons rfl (fun K hK => ?_) AllReadyIn.nil
              rw [if_pos (by simp [Region.wanted])]
              refine wpIn_call (by intro c h; cases h) (f := 40) (vs := #[.agg #[.pointer p, .bool tl, .int .i64 (eo : Nat)], .agg #[.slice rA rn rc, .int .i64 (k : Nat), .bool rh]]) (by go_simp) (HMK.out.2.2 _) (by rintro e w' ⟨he, _⟩; exact ⟨_, he⟩) ?_
              intro v10 w10 hans
              obtain ⟨hv10, hf10⟩ := hans
              injection hv10 with hv10
              subst hv10
              have HF10 : Hid (Fr [] w9 w10) := ((Fr.refl [] w9).drew).trans hf10
              have HSV10 := Lib.hid (HSV9.out.fr0 HF10.out)
              have o2 : w10.cell? ⟨OB, 0, none⟩ = some (.slice C1 (m + ln) c1) := HSV10.out.box.cell 0
              clear hf10
              try go_simp
              refine hK _ _ ?_
              clear hK K
              refine wpAnyIn_ready (rs := [4]) (by kernel_rfl) (by simp) ?_
              refine AllReadyIn.cons rfl (fun K hK => ?_) AllReadyIn.nil
              rw [if_pos (by simp [Region.wanted])]
              refine wpIn_appstr (.tmp 36) (.tmp 39) 32 9 TU8 rfl Try.underlying32 Try.underlying9 infoU8 C1 c1 (m + ln) (bts (savesP s n tl eo 0 ((rwv rs).take q) ++ rowP s cs)) (by rfl) HSV10.out.own mk (by rfl) (by have := HMK.out.2.1; have := HML.out; have := HL9.out; omega) w5.heap.size HSV10.out.fr.size HSV10.out.nw ?_
              intro C2 c2 w11 hr11 hg11 hn11
              have hput := HSV10.out.put hr11 hg11 hn11
              have HP11 := Lib.hid hput
              have HG11 := Lib.hid hg11
              have o3 : w11.cell? ⟨OB, 0, none⟩ = some (.slice C1 (m + ln) c1) := hput.2.cell 0
              have oz := hput.2.frozen 0
              have ol := hput.2.lt
              clear hr11 hg11 hn11 hput
              try go_simp
              refine hK _ _ ?_
              clear hK K
              refine wpAnyIn_ready (rs := [5]) (by kernel_rfl) (by simp) ?_
              refine AllReadyIn.cons rfl (fun K hK => ?_) AllReadyIn.nil
              go_simp
              refine hK _ _ ?_
              clear hK K
              refine wpAnyIn_done (by kernel_rfl) ?_ _
              gi_wp2
              have hf11 : Fr [some OB, bk C1] w10 (w11.setCell ⟨OB, 0, none⟩ (.slice C2 (m + ln + mk.length) c2)) := (HG11.out.weaken fun i _ h => by rw [List.mem_singleton] at h; rw [h]; exact List.mem_cons_of_mem _ (List.mem_singleton.2 rfl)).setB (fun _ => by simp) 0 _
              refine ⟨((HKP8.out.1.trans (KeepsI.of_fr HF9.out)).trans (KeepsI.of_fr HF10.out)).trans (HSV10.out.keeps rfl hf11 rfl (List.mem_singleton.2 rfl)), C2, c2, m + ln + mk.length, ?_⟩
              rw [List.length_append, List.length_singleton, ← HKQ.out.2.2, HTK.out, HYES.out, ← List.append_assoc]
              exact HP11.out.1
            · rw [if_pos (by simp [Region.wanted])]
              refine wpIn_call (by intro c h; cases h) (f := 40) (vs := #[.agg #[.pointer p, .bool tl, .int .i64 (eo : Nat)], .agg #[.slice rA rn rc, .int .i64 (k : Nat), .bool rh]]) (by go_simp) (HMK.out.2.2 _) (by rintro e w' ⟨he, _⟩; exact ⟨_, he⟩) ?_
              intro v10 w10 hans
              obtain ⟨hv10, hf10⟩ := hans
              injection hv10 with hv10
              subst hv10
              have HF10 : Hid (Fr [] w9 w10) := ((Fr.refl [] w9).drew).trans hf10
              have HSV10 := Lib.hid (HSV9.out.fr0 HF10.out)
              have o2 : w10.cell? ⟨OB, 0, none⟩ = some (.slice C1 (m + ln) c1) := HSV10.out.box.cell 0
              clear hf10
              try go_simp
              refine hK _ _ ?_
              clear hK K
              refine wpAnyIn_ready (rs := [0]) (by kernel_rfl) (by simp) ?_
              refine AllReadyIn.cons rfl (fun K hK => ?_) AllReadyIn.nil
              go_simp
              refine hK _ _ ?_
              clear hK K
              refine wpAnyIn_ready (rs := [4]) (by kernel_rfl) (by simp) ?_
              refine AllReadyIn.cons rfl (fun K hK => ?_) AllReadyIn.nil
              rw [if_pos (by simp [Region.wanted])]
              refine wpIn_appstr (.tmp 36) (.tmp 39) 32 9 TU8 rfl Try.underlying32 Try.underlying9 infoU8 C1 c1 (m + ln) (bts (savesP s n tl eo 0 ((rwv rs).take q) ++ rowP s cs)) (by rfl) HSV10.out.own mk (by rfl) (by have := HMK.out.2.1; have := HML.out; have := HL9.out; omega) w5.heap.size HSV10.out.fr.size HSV10.out.nw ?_
              intro C2 c2 w11 hr11 hg11 hn11
              have hput := HSV10.out.put hr11 hg11 hn11
              have HP11 := Lib.hid hput
              have HG11 := Lib.hid hg11
              have o3 : w11.cell? ⟨OB, 0, none⟩ = some (.slice C1 (m + ln) c1) := hput.2.cell 0
              have oz := hput.2.frozen 0
              have ol := hput.2.lt
              clear hr11 hg11 hn11 hput
              try go_simp
              refine hK _ _ ?_
              clear hK K
              refine wpAnyIn_ready (rs := [5]) (by kernel_rfl) (by simp) ?_
              refine AllReadyIn.cons rfl (fun K hK => ?_) AllReadyIn.nil
              go_simp
              refine hK _ _ ?_
              clear hK K
              refine wpAnyIn_done (by kernel_rfl) ?_ _
              gi_wp2
              have hf11 : Fr [some OB, bk C1] w10 (w11.setCell ⟨OB, 0, none⟩ (.slice C2 (m + ln + mk.length) c2)) := (HG11.out.weaken fun i _ h => by rw [List.mem_singleton] at h; rw [h]; exact List.mem_cons_of_mem _ (List.mem_singleton.2 rfl)).setB (fun _ => by simp) 0 _
              refine ⟨((HKP8.out.1.trans (KeepsI.of_fr HF9.out)).trans (KeepsI.of_fr HF10.out)).trans (HSV10.out.keeps rfl hf11 rfl (List.mem_singleton.2 rfl)), C2, c2, m + ln + mk.length, ?_⟩
              rw [List.length_append, List.length_singleton, ← HKQ.out.2.2, HTK.out, HYES.out, ← List.append_assoc]
              exact HP11.out.1
        · go_simp
          refine hK _ _ ?_
          clear hK K
          refine wpAnyIn_ready (rs := [0, 1]) (by kernel_rfl) (by simp) ?_
          refine AllReadyIn.cons rfl (fun K hK => ?_) (AllReadyIn.cons rfl (fun K hK => ?_) AllReadyIn.nil)
          · go_simp
            refine hK _ _ ?_
            clear hK K
            refine wpAnyIn_ready (rs := [1]) (by kernel_rfl) (by simp) ?_
            refine AllReadyIn.cons rfl (fun K hK => ?_) AllReadyIn.nil
            go_simp
            refine hK _ _ ?_
            clear hK K
            refine wpAnyIn_ready (rs := [3]) (by kernel_rfl) (by simp) ?_
            refine AllReadyIn.cons rfl (fun K hK => ?_) AllReadyIn.nil
            rw [if_pos (by simp [Region.wanted])]
            refine wpIn_call (by intro c h; cases h) (f := 40) (vs := #[.agg #[.pointer p, .bool tl, .int .i64 (eo : Nat)], .agg #[.slice rA rn rc, .int .i64 (k : Nat), .bool rh]]) (by go_simp) (HMK.out.2.2 _) (by rintro e w' ⟨he, _⟩; exact ⟨_, he⟩) ?_
            intro v10 w10 hans
            obtain ⟨hv10, hf10⟩ := hans
            injection hv10 with hv10
            subst hv10
            have HF10 : Hid (Fr [] w9 w10) := ((Fr.refl [] w9).drew).trans hf10
            have HSV10 := Lib.hid (HSV9.out.fr0 HF10.out)
            have o2 : w10.cell? ⟨OB, 0, none⟩ = some (.slice C1 (m + ln) c1) := HSV10.out.box.cell 0
            clear hf10
            try go_simp
            refine hK _ _ ?_
            clear hK K
            refine wpAnyIn_ready (rs := [4]) (by kernel_rfl) (by simp) ?_
            refine AllReadyIn.cons rfl (fun K hK => ?_) AllReadyIn.nil
            rw [if_pos (by simp [Region.wanted])]
            refine wpIn_appstr (.tmp 36) (.tmp 39) 32 9 TU8 rfl Try.underlying32 Try.underlying9 infoU8 C1 c1 (m + ln) (bts (savesP s n tl eo 0 ((rwv rs).take q) ++ rowP s cs)) (by rfl) HSV10.out.own mk (by rfl) (by have := HMK.out.2.1; have := HML.out; have := HL9.out; omega) w5.heap.size HSV10.out.fr.size HSV10.out.nw ?_
            intro C2 c2 w11 hr11 hg11 hn11
            have hput := HSV10.out.put hr11 hg11 hn11
            have HP11 := Lib.hid hput
            have HG11 := Lib.hid hg11
            have o3 : w11.cell? ⟨OB, 0, none⟩ = some (.slice C1 (m + ln) c1) := hput.2.cell 0
            have oz := hput.2.frozen 0
            have ol := hput.2.lt
            clear hr11 hg11 hn11 hput
            try go_simp
            refine hK _ _ ?_
            clear hK K
            refine wpAnyIn_ready (rs := [5]) (by kernel_rfl) (by simp) ?_
            refine AllReadyIn.cons rfl (fun K hK => ?_) AllReadyIn.nil
            go_simp
            refine hK _ _ ?_
            clear hK K
            refine wpAnyIn_done (by kernel_rfl) ?_ _
            gi_wp2
            have hf11 : Fr [some OB, bk C1] w10 (w11.setCell ⟨OB, 0, none⟩ (.slice C2 (m + ln + mk.length) c2)) := (HG11.out.weaken fun i _ h => by rw [List.mem_singleton] at h; rw [h]; exact List.mem_cons_of_mem _ (List.mem_singleton.2 rfl)).setB (fun _ => by simp) 0 _
            refine ⟨((HKP8.out.1.trans (KeepsI.of_fr HF9.out)).trans (KeepsI.of_fr HF10.out)).trans (HSV10.out.keeps rfl hf11 rfl (List.mem_singleton.2 rfl)), C2, c2, m + ln + mk.length, ?_⟩
            rw [List.length_append, List.length_singleton, ← HKQ.out.2.2, HTK.out, HYES.out, ← List.append_assoc]
            exact HP11.out.1
          · go_simp
            refine hK _ _ ?_
            clear hK K
            refine wpAnyIn_ready (rs := [0, 3]) (by kernel_rfl) (by simp) ?_
            refine AllReadyIn.cons rfl (fun K hK => ?_) (AllReadyIn.cons rfl (fun K hK => ?_) AllReadyIn.nil)
            · go_simp
              refine hK _ _ ?_
              clear hK K
              refine wpAnyIn_ready (rs := [3]) (by kernel_rfl) (by simp) ?_
              refine AllReadyIn.cons rfl (fun K hK => ?_) AllReadyIn.nil
              rw [if_pos (by simp [Region.wanted])]
              refine wpIn_call (by intro c h; cases h) (f := 40) (vs := #[.agg #[.pointer p, .bool tl, .int .i64 (eo : Nat)], .agg #[.slice rA rn rc, .int .i64 (k : Nat), .bool rh]]) (by go_simp) (HMK.out.2.2 _) (by rintro e w' ⟨he, _⟩; exact ⟨_, he⟩) ?_
              intro v10 w10 hans
              obtain ⟨hv10, hf10⟩ := hans
              injection hv10 with hv10
              subst hv10
              have HF10 : Hid (Fr [] w9 w10) := ((Fr.refl [] w9).drew).trans hf10
              have HSV10 := Lib.hid (HSV9.out.fr0 HF10.out)
              have o2 : w10.cell? ⟨OB, 0, none⟩ = some (.slice C1 (m + ln) c1) := HSV10.out.box.cell 0
              clear hf10
              try go_simp
              refine hK _ _ ?_
              clear hK K
              refine wpAnyIn_ready (rs := [4]) (by kernel_rfl) (by simp) ?_
              refine AllReadyIn.cons rfl (fun K hK => ?_) AllReadyIn.nil
              rw [if_pos (by simp [Region.wanted])]
              refine wpIn_appstr (.tmp 36) (.tmp 39) 32 9 TU8 rfl Try.underlying32 Try.underlying9 infoU8 C1 c1 (m + ln) (bts (savesP s n tl eo 0 ((rwv rs).take q) ++ rowP s cs)) (by rfl) HSV10.out.own mk (by rfl) (by have := HMK.out.2.1; have := HML.out; have := HL9.out; omega) w5.heap.size HSV10.out.fr.size HSV10.out.nw ?_
              intro C2 c2 w11 hr11 hg11 hn11
              have hput := HSV10.out.put hr11 hg11 hn11
              have HP11 := Lib.hid hput
              have HG11 := Lib.hid hg11
              have o3 : w11.cell? ⟨OB, 0, none⟩ = some (.slice C1 (m + ln) c1) := hput.2.cell 0
              have oz := hput.2.frozen 0
              have ol := hput.2.lt
              clear hr11 hg11 hn11 hput
              try go_simp
              refine hK _ _ ?_
              clear hK K
              refine wpAnyIn_ready (rs := [5]) (by kernel_rfl) (by simp) ?_
              refine AllReadyIn.cons rfl (fun K hK => ?_) AllReadyIn.nil
              go_simp
              refine hK _ _ ?_
              clear hK K
              refine wpAnyIn_done (by kernel_rfl) ?_ _
              gi_wp2
              have hf11 : Fr [some OB, bk C1] w10 (w11.setCell ⟨OB, 0, none⟩ (.slice C2 (m + ln + mk.length) c2)) := (HG11.out.weaken fun i _ h => by rw [List.mem_singleton] at h; rw [h]; exact List.mem_cons_of_mem _ (List.mem_singleton.2 rfl)).setB (fun _ => by simp) 0 _
              refine ⟨((HKP8.out.1.trans (KeepsI.of_fr HF9.out)).trans (KeepsI.of_fr HF10.out)).trans (HSV10.out.keeps rfl hf11 rfl (List.mem_singleton.2 rfl)), C2, c2, m + ln + mk.length, ?_⟩
              rw [List.length_append, List.length_singleton, ← HKQ.out.2.2, HTK.out, HYES.out, ← List.append_assoc]
              exact HP11.out.1
            · rw [if_pos (by simp [Region.wanted])]
              refine wpIn_call (by intro c h; cases h) (f := 40) (vs := #[.agg #[.pointer p, .bool tl, .int .i64 (eo : Nat)], .agg #[.slice rA rn rc, .int .i64 (k : Nat), .bool rh]]) (by go_simp) (HMK.out.2.2 _) (by rintro e w' ⟨he, _⟩; exact ⟨_, he⟩) ?_
              intro v10 w10 hans
              obtain ⟨hv10, hf10⟩ := hans
              injection hv10 with hv10
              subst hv10
              have HF10 : Hid (Fr [] w9 w10) := ((Fr.refl [] w9).drew).trans hf10
              have HSV10 := Lib.hid (HSV9.out.fr0 HF10.out)
              have o2 : w10.cell? ⟨OB, 0, none⟩ = some (.slice C1 (m + ln) c1) := HSV10.out.box.cell 0
              clear hf10
              try go_simp
              refine hK _ _ ?_
              clear hK K
              refine wpAnyIn_ready (rs := [0]) (by kernel_rfl) (by simp) ?_
              refine AllReadyIn.cons rfl (fun K hK => ?_) AllReadyIn.nil
              go_simp
              refine hK _ _ ?_
              clear hK K
              refine wpAnyIn_ready (rs := [4]) (by kernel_rfl) (by simp) ?_
              refine AllReadyIn.cons rfl (fun K hK => ?_) AllReadyIn.nil
              rw [if_pos (by simp [Region.wanted])]
              refine wpIn_appstr (.tmp 36) (.tmp 39) 32 9 TU8 rfl Try.underlying32 Try.underlying9 infoU8 C1 c1 (m + ln) (bts (savesP s n tl eo 0 ((rwv rs).take q) ++ rowP s cs)) (by rfl) HSV10.out.own mk (by rfl) (by have := HMK.out.2.1; have := HML.out; have := HL9.out; omega) w5.heap.size HSV10.out.fr.size HSV10.out.nw ?_
              intro C2 c2 w11 hr11 hg11 hn11
              have hput := HSV10.out.put hr11 hg11 hn11
              have HP11 := Lib.hid hput
              have HG11 := Lib.hid hg11
              have o3 : w11.cell? ⟨OB, 0, none⟩ = some (.slice C1 (m + ln) c1) := hput.2.cell 0
              have oz := hput.2.frozen 0
              have ol := hput.2.lt
              clear hr11 hg11 hn11 hput
              try go_simp
              refine hK _ _ ?_
              clear hK K
              refine wpAnyIn_ready (rs := [5]) (by kernel_rfl) (by simp) ?_
              refine AllReadyIn.cons rfl (fun K hK => ?_) AllReadyIn.nil
              go_simp
              refine hK _ _ ?_
              clear hK K
              refine wpAnyIn_done (by kernel_rfl) ?_ _
              gi_wp2
              have hf11 : Fr [some OB, bk C1] w10 (w11.setCell ⟨OB, 0, none⟩ (.slice C2 (m + ln + mk.length) c2)) := (HG11.out.weaken fun i _ h => by rw [List.mem_singleton] at h; rw [h]; exact List.mem_cons_of_mem _ (List.mem_singleton.2 rfl)).setB (fun _ => by simp) 0 _
              refine ⟨((HKP8.out.1.trans (KeepsI.of_fr HF9.out)).trans (KeepsI.of_fr HF10.out)).trans (HSV10.out.keeps rfl hf11 rfl (List.mem_singleton.2 rfl)), C2, c2, m + ln + mk.length, ?_⟩
              rw [List.length_append, List.length_singleton, ← HKQ.out.2.2, HTK.out, HYES.out, ← List.append_assoc]
              exact HP11.out.1
      · cases tl with
        | true =>
          have HYES : Hid (pieceP (rowP s cs) n q true eo k = rowP s cs ++ mk) := by
            show _ = _
            unfold pieceP
            rw [if_pos (.inr (.inl rfl)), HMK.out.1]
          gi_wp2_with (gi_at_builtin; go_must (
            refine wpListIn_app rfl _ _ 32 TU8 rfl (Value.int .u8 0) 1 1 Try.underlying32 infoU8 rfl (by decide) C c m (bts (savesP s n true eo 0 ((rwv rs).take q))) rfl HSV6.out.own LB ln ld (bts (rowP s cs)) rfl (by rw [bts_len, ← HLN2.out]) HLO.out (bts_one _) (by have := HML.out; have := HL9.out; simp only [maxLen]; omega) (by have := HML.out; have := HL9.out; omega) ?_
            intro C1 c1 w7 hr7 hg7 hb7
            have hput := HSV6.out.put (k := rowP s cs) (C1 := C1) (c1 := c1) (W1 := w7) (by rw [← HLN2.out]; exact hr7) hg7 (fun j hj => by
              rcases hb7 with h | h
              · exact HSV6.out.nw j (h ▸ hj)
              · rw [h] at hj; injection hj with hj; have := HSV6.out.fr.size; omega)
            rw [← HLN2.out] at hput
            have HP7 := Lib.hid hput
            have HG7 := Lib.hid hg7
            have o1 : w7.cell? ⟨OB, 0, none⟩ = some (.slice C m c) := hput.2.cell 0
            have oz := hput.2.frozen 0
            have ol := hput.2.lt
            obtain ⟨e1, e2, e3, e4, e5, e6⟩ := HCELL.out w7 (HF6.out.of_nil.trans (hg7.weaken fun i _ h => by rw [List.mem_singleton] at h; rw [h]; exact List.mem_cons_of_mem _ (List.mem_singleton.2 rfl)))
            clear hr7 hg7 hb7 hput))
          obtain ⟨w8, hw8⟩ : ∃ w8, w8 = w7.setCell ⟨OB, 0, none⟩ (.slice C1 (m + ln) c1) := ⟨_, rfl⟩
          rw [← hw8] at HP7 ⊢
          clear e1 e2 e3 e4 e5 e6 o1 oz ol
          have HKP8 : Hid (KeepsI [some OB] w5.heap.size W w8 ∧ Fr [some OB, bk C] W w8) := by
            have hf : Fr [some OB, bk C] W w8 := by
              have h1 : Fr [some OB, bk C] W w7 := HF6.out.of_nil.trans (HG7.out.weaken fun i _ h => by rw [List.mem_singleton] at h; rw [h]; exact List.mem_cons_of_mem _ (List.mem_singleton.2 rfl))
              rw [hw8]
              exact h1.setB (fun _ => by simp) 0 _
            exact ⟨HSV.out.keeps rfl hf rfl (List.mem_singleton.2 rfl), hf⟩
          clear hw8
          refine ⟨trivial, (CallsIn.inRound l (callsIn_wide.2 (HLN.out w8 (HFRW.out w8 HP7.out.1.fr)))).mono ?_⟩
          rintro e w9 ⟨rfl, hf9⟩
          have HSV9 := Lib.hid (HP7.out.1.fr0 hf9)
          have HF9 := Lib.hid hf9
          obtain ⟨e1, e2, e3, e4, e5, e6⟩ := HCELL.out w9 (HKP8.out.2.trans hf9.of_nil)
          have o1 : w9.cell? ⟨OB, 0, none⟩ = some (.slice C1 (m + ln) c1) := HSV9.out.box.cell 0
          clear hf9
          gi_wp2
          refine wpIn_region_any (by kernel_rfl) ?_
          change wpAnyIn _ _ _ _ _ _ _ _ _ (World.drew _)
          refine wpAnyIn_ready (rs := [0, 1, 2]) (by kernel_rfl) (by simp) ?_
          refine AllReadyIn.cons rfl (fun K hK => ?_) (AllReadyIn.cons rfl (fun K hK => ?_) (AllReadyIn.cons rfl (fun K hK => ?_) AllReadyIn.nil))
          · go_simp
            refine hK _ _ ?_
            clear hK K
            refine wpAnyIn_ready (rs := [1, 2]) (by kernel_rfl) (by simp) ?_
            refine AllReadyIn.cons rfl (fun K hK => ?_) (AllReadyIn.cons rfl (fun K hK => ?_) AllReadyIn.nil)
            · go_simp
              refine hK _ _ ?_
              clear hK K
              refine wpAnyIn_ready (rs := [2]) (by kernel_rfl) (by simp) ?_
              refine AllReadyIn.cons rfl (fun K hK => ?_) AllReadyIn.nil
              go_simp
              refine hK _ _ ?_
              clear hK K
              refine wpAnyIn_ready (rs := [3]) (by kernel_rfl) (by simp) ?_
              refine AllReadyIn.cons rfl (fun K hK => ?_) AllReadyIn.nil
              rw [if_pos (by simp [Region.wanted])]
              refine wpIn_call (by intro c h; cases h) (f := 40) (vs := #[.agg #[.pointer p, .bool true, .int .i64 (eo : Nat)], .agg #[.slice rA rn rc, .int .i64 (k : Nat), .bool rh]]) (by go_simp) (HMK.out.2.2 _) (by rintro e w' ⟨he, _⟩; exact ⟨_, he⟩) ?_
              intro v10 w10 hans
              obtain ⟨hv10, hf10⟩ := hans
              injection hv10 with hv10
              subst hv10
              have HF10 : Hid (Fr [] w9 w10) := ((Fr.refl [] w9).drew).trans hf10
              have HSV10 := Lib.hid (HSV9.out.fr0 HF10.out)
              have o2 : w10.cell? ⟨OB, 0, none⟩ = some (.slice C1 (m + ln) c1) := HSV10.out.box.cell 0
              clear hf10
              try go_simp
              refine hK _ _ ?_
              clear hK K
              refine wpAnyIn_ready (rs := [4]) (by kernel_rfl) (by simp) ?_
              refine AllReadyIn.cons rfl (fun K hK => ?_) AllReadyIn.nil
              rw [if_pos (by simp [Region.wanted])]
              refine wpIn_appstr (.tmp 36) (.tmp 39) 32 9 TU8 rfl Try.underlying32 Try.underlying9 infoU8 C1 c1 (m + ln) (bts (savesP s n true eo 0 ((rwv rs).take q) ++ rowP s cs)) (by rfl) HSV10.out.own mk (by rfl) (by have := HMK.out.2.1; have := HML.out; have := HL9.out; omega) w5.heap.size HSV10.out.fr.size HSV10.out.nw ?_
              intro C2 c2 w11 hr11 hg11 hn11
              have hput := HSV10.out.put hr11 hg11 hn11
              have HP11 := Lib.hid hput
              have HG11 := Lib.hid hg11
              have o3 : w11.cell? ⟨OB, 0, none⟩ = some (.slice C1 (m + ln) c1) := hput.2.cell 0
              have oz := hput.2.frozen 0
              have ol := hput.2.lt
              clear hr11 hg11 hn11 hput
              try go_simp
              refine hK _ _ ?_
              clear hK K
              refine wpAnyIn_ready (rs := [5]) (by kernel_rfl) (by simp) ?_
              refine AllReadyIn.cons rfl (fun K hK => ?_) AllReadyIn.nil
              go_simp
              refine hK _ _ ?_
              clear hK K
              refine wpAnyIn_done (by kernel_rfl) ?_ _
              gi_wp2
              have hf11 : Fr [some OB, bk C1] w10 (w11.setCell ⟨OB, 0, none⟩ (.slice C2 (m + ln + mk.length) c2)) := (HG11.out.weaken fun i _ h => by rw [List.mem_singleton] at h; rw [h]; exact List.mem_cons_of_mem _ (List.mem_singleton.2 rfl)).setB (fun _ => by simp) 0 _
              refine ⟨((HKP8.out.1.trans (KeepsI.of_fr HF9.out)).trans (KeepsI.of_fr HF10.out)).trans (HSV10.out.keeps rfl hf11 rfl (List.mem_singleton.2 rfl)), C2, c2, m + ln + mk.length, ?_⟩
              rw [List.length_append, List.length_singleton, ← HKQ.out.2.2, HTK.out, HYES.out, ← List.append_assoc]
              exact HP11.out.1
            · go_simp
              refine hK _ _ ?_
              clear hK K
              refine wpAnyIn_ready (rs := [1]) (by kernel_rfl) (by simp) ?_
              refine AllReadyIn.cons rfl (fun K hK => ?_) AllReadyIn.nil
              go_simp
              refine hK _ _ ?_
              clear hK K
              refine wpAnyIn_ready (rs := [3]) (by kernel_rfl) (by simp) ?_
              refine AllReadyIn.cons rfl (fun K hK => ?_) AllReadyIn.nil
              rw [if_pos (by simp [Region.wanted])]
              refine wpIn_call (by intro c h; cases h) (f := 40) (vs := #[.agg #[.pointer p, .bool true, .int .i64 (eo : Nat)], .agg #[.slice rA rn rc, .int .i64 (k : Nat), .bool rh]]) (by go_simp) (HMK.out.2.2 _) (by rintro e w' ⟨he, _⟩; exact ⟨_, he⟩) ?_
              intro v10 w10 hans
              obtain ⟨hv10, hf10⟩ := hans
              injection hv10 with hv10
              subst hv10
              have HF10 : Hid (Fr [] w9 w10) := ((Fr.refl [] w9).drew).trans hf10
              have HSV10 := Lib.hid (HSV9.out.fr0 HF10.out)
              have o2 : w10.cell? ⟨OB, 0, none⟩ = some (.slice C1 (m + ln) c1) := HSV10.out.box.cell 0
              clear hf10
              try go_simp
              refine hK _ _ ?_
              clear hK K
              refine wpAnyIn_ready (rs := [4]) (by kernel_rfl) (by simp) ?_
              refine AllReadyIn.cons rfl (fun K hK => ?_) AllReadyIn.nil
              rw [if_pos (by simp [Region.wanted])]
              refine wpIn_appstr (.tmp 36) (.tmp 39) 32 9 TU8 rfl Try.underlying32 Try.underlying9 infoU8 C1 c1 (m + ln) (bts (savesP s n true eo 0 ((rwv rs).take q) ++ rowP s cs)) (by rfl) HSV10.out.own mk (by rfl) (by have := HMK.out.2.1; have := HML.out; have := HL9.out; omega) w5.heap.size HSV10.out.fr.size HSV10.out.nw ?_
              intro C2 c2 w11 hr11 hg11 hn11
              have hput := HSV10.out.put hr11 hg11 hn11
              have HP11 := Lib.hid hput
              have HG11 := Lib.hid hg11
              have o3 : w11.cell? ⟨OB, 0, none⟩ = some (.slice C1 (m + ln) c1) := hput.2.cell 0
              have oz := hput.2.frozen 0
              have ol := hput.2.lt
              clear hr11 hg11 hn11 hput
              try go_simp
              refine hK _ _ ?_
              clear hK K
              refine wpAnyIn_ready (rs := [5]) (by kernel_rfl) (by simp) ?_
              refine AllReadyIn.cons rfl (fun K hK => ?_) AllReadyIn.nil
              go_simp
              refine hK _ _ ?_
              clear hK K
              refine wpAnyIn_done (by kernel_rfl) ?_ _
              gi_wp2
              have hf11 : Fr [some OB, bk C1] w10 (w11.setCell ⟨OB, 0, none⟩ (.slice C2 (m + ln + mk.length) c2)) := (HG11.out.weaken fun i _ h => by rw [List.mem_singleton] at h; rw [h]; exact List.mem_cons_of_mem _ (List.mem_singleton.2 rfl)).setB (fun _ => by simp) 0 _
              refine ⟨((HKP8.out.1.trans (KeepsI.of_fr HF9.out)).trans (KeepsI.of_fr HF10.out)).trans (HSV10.out.keeps rfl hf11 rfl (List.mem_singleton.2 rfl)), C2, c2, m + ln + mk.length, ?_⟩
              rw [List.length_append, List.length_singleton, ← HKQ.out.2.2, HTK.out, HYES.out, ← List.append_assoc]
              exact HP11.out.1
          · go_simp
            refine hK _ _ ?_
            clear hK K
            refine wpAnyIn_ready (rs := [0, 2]) (by kernel_rfl) (by simp) ?_
            refine AllReadyIn.cons rfl (fun K hK => ?_) (AllReadyIn.cons rfl (fun K hK => ?_) AllReadyIn.nil)
            · go_simp
              refine hK _ _ ?_
              clear hK K
              refine wpAnyIn_ready (rs := [2]) (by kernel_rfl) (by simp) ?_
              refine AllReadyIn.cons rfl (fun K hK => ?_) AllReadyIn.nil
              go_simp
              refine hK _ _ ?_
              clear hK K
              refine wpAnyIn_ready (rs := [3]) (by kernel_rfl) (by simp) ?_
              refine AllReadyIn.cons rfl (fun K hK => ?_) AllReadyIn.nil
              rw [if_pos (by simp [Region.wanted])]
              refine wpIn_call (by intro c h; cases h) (f := 40) (vs := #[.agg #[.pointer p, .bool true, .int .i64 (eo : Nat)], .agg #[.slice rA rn rc, .int .i64 (k : Nat), .bool rh]]) (by go_simp) (HMK.out.2.2 _) (by rintro e w' ⟨he, _⟩; exact ⟨_, he⟩) ?_
              intro v10 w10 hans
              obtain ⟨hv10, hf10⟩ := hans
              injection hv10 with hv10
              subst hv10
              have HF10 : Hid (Fr [] w9 w10) := ((Fr.refl [] w9).drew).trans hf10
              have HSV10 := Lib.hid (HSV9.out.fr0 HF10.out)
              have o2 : w10.cell? ⟨OB, 0, none⟩ = some (.slice C1 (m + ln) c1) := HSV10.out.box.cell 0
              clear hf10
              try go_simp
              refine hK _ _ ?_
              clear hK K
              refine wpAnyIn_ready (rs := [4]) (by kernel_rfl) (by simp) ?_
              refine AllReadyIn.cons rfl (fun K hK => ?_) AllReadyIn.nil
              rw [if_pos (by simp [Region.wanted])]
              refine wpIn_appstr (.tmp 36) (.tmp 39) 32 9 TU8 rfl Try.underlying32 Try.underlying9 infoU8 C1 c1 (m + ln) (bts (savesP s n true eo 0 ((rwv rs).take q) ++ rowP s cs)) (by rfl) HSV10.out.own mk (by rfl) (by have := HMK.out.2.1; have := HML.out; have := HL9.out; omega) w5.heap.size HSV10.out.fr.size HSV10.out.nw ?_
              intro C2 c2 w11 hr11 hg11 hn11
              have hput := HSV10.out.put hr11 hg11 hn11
              have HP11 := Lib.hid hput
              have HG11 := Lib.hid hg11
              have o3 : w11.cell? ⟨OB, 0, none⟩ = some (.slice C1 (m + ln) c1) := hput.2.cell 0
              have oz := hput.2.frozen 0
              have ol := hput.2.lt
              clear hr11 hg11 hn11 hput
              try go_simp
              refine hK _ _ ?_
              clear hK K
              refine wpAnyIn_ready (rs := [5]) (by kernel_rfl) (by simp) ?_
              refine AllReadyIn.cons rfl (fun K hK => ?_) AllReadyIn.nil
              go_simp
              refine hK _ _ ?_
              clear hK K
              refine wpAnyIn_done (by kernel_rfl) ?_ _
              gi_wp2
              have hf11 : Fr [some OB, bk C1] w10 (w11.setCell ⟨OB, 0, none⟩ (.slice C2 (m + ln + mk.length) c2)) := (HG11.out.weaken fun i _ h => by rw [List.mem_singleton] at h; rw [h]; exact List.mem_cons_of_mem _ (List.mem_singleton.2 rfl)).setB (fun _ => by simp) 0 _
              refine ⟨((HKP8.out.1.trans (KeepsI.of_fr HF9.out)).trans (KeepsI.of_fr HF10.out)).trans (HSV10.out.keeps rfl hf11 rfl (List.mem_singleton.2 rfl)), C2, c2, m + ln + mk.length, ?_⟩
              rw [List.length_append, List.length_singleton, ← HKQ.out.2.2, HTK.out, HYES.out, ← List.append_assoc]
              exact HP11.out.1
            · go_simp
              refine hK _ _ ?_
              clear hK K
              refine wpAnyIn_ready (rs := [0, 3]) (by kernel_rfl) (by simp) ?_
              refine AllReadyIn.cons rfl (fun K hK => ?_) (AllReadyIn.cons rfl (fun K hK => ?_) AllReadyIn.nil)
              · go_simp
                refine hK _ _ ?_
                clear hK K
                refine wpAnyIn_ready (rs := [3]) (by kernel_rfl) (by simp) ?_
                refine AllReadyIn.cons rfl (fun K hK => ?_) AllReadyIn.nil
                rw [if_pos (by simp [Region.wanted])]
                refine wpIn_call (by intro c h; cases h) (f := 40) (vs := #[.agg #[.pointer p, .bool true, .int .i64 (eo : Nat)], .agg #[.slice rA rn rc, .int .i64 (k : Nat), .bool rh]]) (by go_simp) (HMK.out.2.2 _) (by rintro e w' ⟨he, _⟩; exact ⟨_, he⟩) ?_
                intro v10 w10 hans
                obtain ⟨hv10, hf10⟩ := hans
                injection hv10 with hv10
                subst hv10
                have HF10 : Hid (Fr [] w9 w10) := ((Fr.refl [] w9).drew).trans hf10
                have HSV10 := Lib.hid (HSV9.out.fr0 HF10.out)
                have o2 : w10.cell? ⟨OB, 0, none⟩ = some (.slice C1 (m + ln) c1) := HSV10.out.box.cell 0
                clear hf10
                try go_simp
                refine hK _ _ ?_
                clear hK K
                refine wpAnyIn_ready (rs := [4]) (by kernel_rfl) (by simp) ?_
                refine AllReadyIn.cons rfl (fun K hK => ?_) AllReadyIn.nil
                rw [if_pos (by simp [Region.wanted])]
                refine wpIn_appstr (.tmp 36) (.tmp 39) 32 9 TU8 rfl Try.underlying32 Try.underlying9 infoU8 C1 c1 (m + ln) (bts (savesP s n true eo 0 ((rwv rs).take q) ++ rowP s cs)) (by rfl) HSV10.out.own mk (by rfl) (by have := HMK.out.2.1; have := HML.out; have := HL9.out; omega) w5.heap.size HSV10.out.fr.size HSV10.out.nw ?_
                intro C2 c2 w11 hr11 hg11 hn11
                have hput := HSV10.out.put hr11 hg11 hn11
                have HP11 := Lib.hid hput
                have HG11 := Lib.hid hg11
                have o3 : w11.cell? ⟨OB, 0, none⟩ = some (.slice C1 (m + ln) c1) := hput.2.cell 0
                have oz := hput.2.frozen 0
                have ol := hput.2.lt
                clear hr11 hg11 hn11 hput
                try go_simp
                refine hK _ _ ?_
                clear hK K
                refine wpAnyIn_ready (rs := [5]) (by kernel_rfl) (by simp) ?_
                refine AllReadyIn.cons rfl (fun K hK => ?_) AllReadyIn.nil
                go_simp
                refine hK _ _ ?_
                clear hK K
                refine wpAnyIn_done (by kernel_rfl) ?_ _
                gi_wp2
                have hf11 : Fr [some OB, bk C1] w10 (w11.setCell ⟨OB, 0, none⟩ (.slice C2 (m + ln + mk.length) c2)) := (HG11.out.weaken fun i _ h => by rw [List.mem_singleton] at h; rw [h]; exact List.mem_cons_of_mem _ (List.mem_singleton.2 rfl)).setB (fun _ => by simp) 0 _
                refine ⟨((HKP8.out.1.trans (KeepsI.of_fr HF9.out)).trans (KeepsI.of_fr HF10.out)).trans (HSV10.out.keeps rfl hf11 rfl (List.mem_singleton.2 rfl)), C2, c2, m + ln + mk.length, ?_⟩
                rw [List.length_append, List.length_singleton, ← HKQ.out.2.2, HTK.out, HYES.out, ← List.append_assoc]
                exact HP11.out.1
              · rw [if_pos (by simp [Region.wanted])]
                refine wpIn_call (by intro c h; cases h) (f := 40) (vs := #[.agg #[.pointer p, .bool true, .int .i64 (eo : Nat)], .agg #[.slice rA rn rc, .int .i64 (k : Nat), .bool rh]]) (by go_simp) (HMK.out.2.2 _) (by rintro e w' ⟨he, _⟩; exact ⟨_, he⟩) ?_
                intro v10 w10 hans
                obtain ⟨hv10, hf10⟩ := hans
                injection hv10 with hv10
                subst hv10
                have HF10 : Hid (Fr [] w9 w10) := ((Fr.refl [] w9).drew).trans hf10
                have HSV10 := Lib.hid (HSV9.out.fr0 HF10.out)
                have o2 : w10.cell? ⟨OB, 0, none⟩ = some (.slice C1 (m + ln) c1) := HSV10.out.box.cell 0
                clear hf10
                try go_simp
                refine hK _ _ ?_
                clear hK K
                refine wpAnyIn_ready (rs := [0]) (by kernel_rfl) (by simp) ?_
                refine AllReadyIn.cons rfl (fun K hK => ?_) AllReadyIn.nil
                go_simp
                refine hK _ _ ?_
                clear hK K
                refine wpAnyIn_ready (rs := [4]) (by kernel_rfl) (by simp) ?_
                refine AllReadyIn.cons rfl (fun K hK => ?_) AllReadyIn.nil
                rw [if_pos (by simp [Region.wanted])]
                refine wpIn_appstr (.tmp 36) (.tmp 39) 32 9 TU8 rfl Try.underlying32 Try.underlying9 infoU8 C1 c1 (m + ln) (bts (savesP s n true eo 0 ((rwv rs).take q) ++ rowP s cs)) (by rfl) HSV10.out.own mk (by rfl) (by have := HMK.out.2.1; have := HML.out; have := HL9.out; omega) w5.heap.size HSV10.out.fr.size HSV10.out.nw ?_
                intro C2 c2 w11 hr11 hg11 hn11
                have hput := HSV10.out.put hr11 hg11 hn11
                have HP11 := Lib.hid hput
                have HG11 := Lib.hid hg11
                have o3 : w11.cell? ⟨OB, 0, none⟩ = some (.slice C1 (m + ln) c1) := hput.2.cell 0
                have oz := hput.2.frozen 0
                have ol := hput.2.lt
                clear hr11 hg11 hn11 hput
                try go_simp
                refine hK _ _ ?_
                clear hK K
                refine wpAnyIn_ready (rs := [5]) (by kernel_rfl) (by simp) ?_
                refine AllReadyIn.cons rfl (fun K hK => ?_) AllReadyIn.nil
                go_simp
                refine hK _ _ ?_
                clear hK K
                refine wpAnyIn_done (by kernel_rfl) ?_ _
                gi_wp2
                have hf11 : Fr [some OB, bk C1] w10 (w11.setCell ⟨OB, 0, none⟩ (.slice C2 (m + ln + mk.length) c2)) := (HG11.out.weaken fun i _ h => by rw [List.mem_singleton] at h; rw [h]; exact List.mem_cons_of_mem _ (List.mem_singleton.2 rfl)).setB (fun _ => by simp) 0 _
                refine ⟨((HKP8.out.1.trans (KeepsI.of_fr HF9.out)).trans (KeepsI.of_fr HF10.out)).trans (HSV10.out.keeps rfl hf11 rfl (List.mem_singleton.2 rfl)), C2, c2, m + ln + mk.length, ?_⟩
                rw [List.length_append, List.length_singleton, ← HKQ.out.2.2, HTK.out, HYES.out, ← List.append_assoc]
                exact HP11.out.1
          · go_simp
            refine hK _ _ ?_
            clear hK K
            refine wpAnyIn_ready (rs := [0, 1]) (by kernel_rfl) (by simp) ?_
            refine AllReadyIn.cons rfl (fun K hK => ?_) (AllReadyIn.cons rfl (fun K hK => ?_) AllReadyIn.nil)
            · go_simp
              refine hK _ _ ?_
              clear hK K
              refine wpAnyIn_ready (rs := [1]) (by kernel_rfl) (by simp) ?_
              refine AllReadyIn.cons rfl (fun K hK => ?_) AllReadyIn.nil
              go_simp
              refine hK _ _ ?_
              clear hK K
              refine wpAnyIn_ready (rs := [3]) (by kernel_rfl) (by simp) ?_
              refine AllReadyIn.cons rfl (fun K hK => ?_) AllReadyIn.nil
              rw [if_pos (by simp [Region.wanted])]
              refine wpIn_call (by intro c h; cases h) (f := 40) (vs := #[.agg #[.pointer p, .bool true, .int .i64 (eo : Nat)], .agg #[.slice rA rn rc, .int .i64 (k : Nat), .bool rh]]) (by go_simp) (HMK.out.2.2 _) (by rintro e w' ⟨he, _⟩; exact ⟨_, he⟩) ?_
              intro v10 w10 hans
              obtain ⟨hv10, hf10⟩ := hans
              injection hv10 with hv10
              subst hv10
              have HF10 : Hid (Fr [] w9 w10) := ((Fr.refl [] w9).drew).trans hf10
              have HSV10 := Lib.hid (HSV9.out.fr0 HF10.out)
              have o2 : w10.cell? ⟨OB, 0, none⟩ = some (.slice C1 (m + ln) c1) := HSV10.out.box.cell 0
              clear hf10
              try go_simp
              refine hK _ _ ?_
              clear hK K
              refine wpAnyIn_ready (rs := [4]) (by kernel_rfl) (by simp) ?_
              refine AllReadyIn.cons rfl (fun K hK => ?_) AllReadyIn.nil
              rw [if_pos (by simp [Region.wanted])]
              refine wpIn_appstr (.tmp 36) (.tmp 39) 32 9 TU8 rfl Try.underlying32 Try.underlying9 infoU8 C1 c1 (m + ln) (bts (savesP s n true eo 0 ((rwv rs).take q) ++ rowP s cs)) (by rfl) HSV10.out.own mk (by rfl) (by have := HMK.out.2.1; have := HML.out; have := HL9.out; omega) w5.heap.size HSV10.out.fr.size HSV10.out.nw ?_
              intro C2 c2 w11 hr11 hg11 hn11
              have hput := HSV10.out.put hr11 hg11 hn11
              have HP11 := Lib.hid hput
              have HG11 := Lib.hid hg11
              have o3 : w11.cell? ⟨OB, 0, none⟩ = some (.slice C1 (m + ln) c1) := hput.2.cell 0
              have oz := hput.2.frozen 0
              have ol := hput.2.lt
              clear hr11 hg11 hn11 hput
              try go_simp
              refine hK _ _ ?_
              clear hK K
              refine wpAnyIn_ready (rs := [5]) (by kernel_rfl) (by simp) ?_
              refine AllReadyIn.cons rfl (fun K hK => ?_) AllReadyIn.nil
              go_simp
              refine hK _ _ ?_
              clear hK K
              refine wpAnyIn_done (by kernel_rfl) ?_ _
              gi_wp2
              have hf11 : Fr [some OB, bk C1] w10 (w11.setCell ⟨OB, 0, none⟩ (.slice C2 (m + ln + mk.length) c2)) := (HG11.out.weaken fun i _ h => by rw [List.mem_singleton] at h; rw [h]; exact List.mem_cons_of_mem _ (List.mem_singleton.2 rfl)).setB (fun _ => by simp) 0 _
              refine ⟨((HKP8.out.1.trans (KeepsI.of_fr HF9.out)).trans (KeepsI.of_fr HF10.out)).trans (HSV10.out.keeps rfl hf11 rfl (List.mem_singleton.2 rfl)), C2, c2, m + ln + mk.length, ?_⟩
              rw [List.length_append, List.length_singleton, ← HKQ.out.2.2, HTK.out, HYES.out, ← List.append_assoc]
              exact HP11.out.1
            · go_simp
              refine hK _ _ ?_
              clear hK K
              refine wpAnyIn_ready (rs := [0, 3]) (by kernel_rfl) (by simp) ?_
              refine AllReadyIn.cons rfl (fun K hK => ?_) (AllReadyIn.cons rfl (fun K hK => ?_) AllReadyIn.nil)
              · go_simp
                refine hK _ _ ?_
                clear hK K
                refine wpAnyIn_ready (rs := [3]) (by kernel_rfl) (by simp) ?_
                refine AllReadyIn.cons rfl (fun K hK => ?_) AllReadyIn.nil
                rw [if_pos (by simp [Region.wanted])]
                refine wpIn_call (by intro c h; cases h) (f := 40) (vs := #[.agg #[.pointer p, .bool true, .int .i64 (eo : Nat)], .agg #[.slice rA rn rc, .int .i64 (k : Nat), .bool rh]]) (by go_simp) (HMK.out.2.2 _) (by rintro e w' ⟨he, _⟩; exact ⟨_, he⟩) ?_
                intro v10 w10 hans
                obtain ⟨hv10, hf10⟩ := hans
                injection hv10 with hv10
                subst hv10
                have HF10 : Hid (Fr [] w9 w10) := ((Fr.refl [] w9).drew).trans hf10
                have HSV10 := Lib.hid (HSV9.out.fr0 HF10.out)
                have o2 : w10.cell? ⟨OB, 0, none⟩ = some (.slice C1 (m + ln) c1) := HSV10.out.box.cell 0
                clear hf10
                try go_simp
                refine hK _ _ ?_
                clear hK K
                refine wpAnyIn_ready (rs := [4]) (by kernel_rfl) (by simp) ?_
                refine AllReadyIn.cons rfl (fun K hK => ?_) AllReadyIn.nil
                rw [if_pos (by simp [Region.wanted])]
                refine wpIn_appstr (.tmp 36) (.tmp 39) 32 9 TU8 rfl Try.underlying32 Try.underlying9 infoU8 C1 c1 (m + ln) (bts (savesP s n true eo 0 ((rwv rs).take q) ++ rowP s cs)) (by rfl) HSV10.out.own mk (by rfl) (by have := HMK.out.2.1; have := HML.out; have := HL9.out; omega) w5.heap.size HSV10.out.fr.size HSV10.out.nw ?_
                intro C2 c2 w11 hr11 hg11 hn11
                have hput := HSV10.out.put hr11 hg11 hn11
                have HP11 := Lib.hid hput
                have HG11 := Lib.hid hg11
                have o3 : w11.cell? ⟨OB, 0, none⟩ = some (.slice C1 (m + ln) c1) := hput.2.cell 0
                have oz := hput.2.frozen 0
                have ol := hput.2.lt
                clear hr11 hg11 hn11 hput
                try go_simp
                refine hK _ _ ?_
                clear hK K
                refine wpAnyIn_ready (rs := [5]) (by kernel_rfl) (by simp) ?_
                refine AllReadyIn.cons rfl (fun K hK => ?_) AllReadyIn.nil
                go_simp
                refine hK _ _ ?_
                clear hK K
                refine wpAnyIn_done (by kernel_rfl) ?_ _
                gi_wp2
                have hf11 : Fr [some OB, bk C1] w10 (w11.setCell ⟨OB, 0, none⟩ (.slice C2 (m + ln + mk.length) c2)) := (HG11.out.weaken fun i _ h => by rw [List.mem_singleton] at h; rw [h]; exact List.mem_cons_of_mem _ (List.mem_singleton.2 rfl)).setB (fun _ => by simp) 0 _
                refine ⟨((HKP8.out.1.trans (KeepsI.of_fr HF9.out)).trans (KeepsI.of_fr HF10.out)).trans (HSV10.out.keeps rfl hf11 rfl (List.mem_singleton.2 rfl)), C2, c2, m + ln + mk.length, ?_⟩
                rw [List.length_append, List.length_singleton, ← HKQ.out.2.2, HTK.out, HYES.out, ← List.append_assoc]
                exact HP11.out.1
              · rw [if_pos (by simp [Region.wanted])]
                refine wpIn_call (by intro c h; cases h) (f := 40) (vs := #[.agg #[.pointer p, .bool true, .int .i64 (eo : Nat)], .agg #[.slice rA rn rc, .int .i64 (k : Nat), .bool rh]]) (by go_simp) (HMK.out.2.2 _) (by rintro e w' ⟨he, _⟩; exact ⟨_, he⟩) ?_
                intro v10 w10 hans
                obtain ⟨hv10, hf10⟩ := hans
                injection hv10 with hv10
                subst hv10
                have HF10 : Hid (Fr [] w9 w10) := ((Fr.refl [] w9).drew).trans hf10
                have HSV10 := Lib.hid (HSV9.out.fr0 HF10.out)
                have o2 : w10.cell? ⟨OB, 0, none⟩ = some (.slice C1 (m + ln) c1) := HSV10.out.box.cell 0
                clear hf10
                try go_simp
                refine hK _ _ ?_
                clear hK K
                refine wpAnyIn_ready (rs := [0]) (by kernel_rfl) (by simp) ?_
                refine AllReadyIn.cons rfl (fun K hK => ?_) AllReadyIn.nil
                go_simp
                refine hK _ _ ?_
                clear hK K
                refine wpAnyIn_ready (rs := [4]) (by kernel_rfl) (by simp) ?_
                refine AllReadyIn.cons rfl (fun K hK => ?_) AllReadyIn.nil
                rw [if_pos (by simp [Region.wanted])]
                refine wpIn_appstr (.tmp 36) (.tmp 39) 32 9 TU8 rfl Try.underlying32 Try.underlying9 infoU8 C1 c1 (m + ln) (bts (savesP s n true eo 0 ((rwv rs).take q) ++ rowP s cs)) (by rfl) HSV10.out.own mk (by rfl) (by have := HMK.out.2.1; have := HML.out; have := HL9.out; omega) w5.heap.size HSV10.out.fr.size HSV10.out.nw ?_
                intro C2 c2 w11 hr11 hg11 hn11
                have hput := HSV10.out.put hr11 hg11 hn11
                have HP11 := Lib.hid hput
                have HG11 := Lib.hid hg11
                have o3 : w11.cell? ⟨OB, 0, none⟩ = some (.slice C1 (m + ln) c1) := hput.2.cell 0
                have oz := hput.2.frozen 0
                have ol := hput.2.lt
                clear hr11 hg11 hn11 hput
                try go_simp
                refine hK _ _ ?_
                clear hK K
                refine wpAnyIn_ready (rs := [5]) (by kernel_rfl) (by simp) ?_
                refine AllReadyIn.cons rfl (fun K hK => ?_) AllReadyIn.nil
                go_simp
                refine hK _ _ ?_
                clear hK K
                refine wpAnyIn_done (by kernel_rfl) ?_ _
                gi_wp2
                have hf11 : Fr [some OB, bk C1] w10 (w11.setCell ⟨OB, 0, none⟩ (.slice C2 (m + ln + mk.length) c2)) := (HG11.out.weaken fun i _ h => by rw [List.mem_singleton] at h; rw [h]; exact List.mem_cons_of_mem _ (List.mem_singleton.2 rfl)).setB (fun _ => by simp) 0 _
                refine ⟨((HKP8.out.1.trans (KeepsI.of_fr HF9.out)).trans (KeepsI.of_fr HF10.out)).trans (HSV10.out.keeps rfl hf11 rfl (List.mem_singleton.2 rfl)), C2, c2, m + ln + mk.length, ?_⟩
                rw [List.length_append, List.length_singleton, ← HKQ.out.2.2, HTK.out, HYES.out, ← List.append_assoc]
                exact HP11.out.1
        | false =>
          by_cases h3 : ln = 0
          · have h4 : (ln : Int) = 0 := by omega
            have HYES : Hid (pieceP (rowP s cs) n q false eo k = rowP s cs ++ mk) := by
              show _ = _
              unfold pieceP
              rw [if_pos (.inr (.inr (List.eq_nil_of_length_eq_zero (HLN2.out.symm.trans h3)))), HMK.out.1]
            clear h3
            gi_wp2_with (gi_at_builtin; go_must (
              refine wpListIn_app rfl _ _ 32 TU8 rfl (Value.int .u8 0) 1 1 Try.underlying32 infoU8 rfl (by decide) C c m (bts (savesP s n false eo 0 ((rwv rs).take q))) rfl HSV6.out.own LB ln ld (bts (rowP s cs)) rfl (by rw [bts_len, ← HLN2.out]) HLO.out (bts_one _) (by have := HML.out; have := HL9.out; simp only [maxLen]; omega) (by have := HML.out; have := HL9.out; omega) ?_
              intro C1 c1 w7 hr7 hg7 hb7
              have hput := HSV6.out.put (k := rowP s cs) (C1 := C1) (c1 := c1) (W1 := w7) (by rw [← HLN2.out]; exact hr7) hg7 (fun j hj => by
                rcases hb7 with h | h
                · exact HSV6.out.nw j (h ▸ hj)
                · rw [h] at hj; injection hj with hj; have := HSV6.out.fr.size; omega)
              rw [← HLN2.out] at hput
              have HP7 := Lib.hid hput
              have HG7 := Lib.hid hg7
              have o1 : w7.cell? ⟨OB, 0, none⟩ = some (.slice C m c) := hput.2.cell 0
              have oz := hput.2.frozen 0
              have ol := hput.2.lt
              obtain ⟨e1, e2, e3, e4, e5, e6⟩ := HCELL.out w7 (HF6.out.of_nil.trans (hg7.weaken fun i _ h => by rw [List.mem_singleton] at h; rw [h]; exact List.mem_cons_of_mem _ (List.mem_singleton.2 rfl)))
              clear hr7 hg7 hb7 hput))
            obtain ⟨w8, hw8⟩ : ∃ w8, w8 = w7.setCell ⟨OB, 0, none⟩ (.slice C1 (m + ln) c1) := ⟨_, rfl⟩
            rw [← hw8] at HP7 ⊢
            clear e1 e2 e3 e4 e5 e6 o1 oz ol
            have HKP8 : Hid (KeepsI [some OB] w5.heap.size W w8 ∧ Fr [some OB, bk C] W w8) := by
              have hf : Fr [some OB, bk C] W w8 := by
                have h1 : Fr [some OB, bk C] W w7 := HF6.out.of_nil.trans (HG7.out.weaken fun i _ h => by rw [List.mem_singleton] at h; rw [h]; exact List.mem_cons_of_mem _ (List.mem_singleton.2 rfl))
                rw [hw8]
                exact h1.setB (fun _ => by simp) 0 _
              exact ⟨HSV.out.keeps rfl hf rfl (List.mem_singleton.2 rfl), hf⟩
            clear hw8
            refine ⟨trivial, (CallsIn.inRound l (callsIn_wide.2 (HLN.out w8 (HFRW.out w8 HP7.out.1.fr)))).mono ?_⟩
            rintro e w9 ⟨rfl, hf9⟩
            have HSV9 := Lib.hid (HP7.out.1.fr0 hf9)
            have HF9 := Lib.hid hf9
            obtain ⟨e1, e2, e3, e4, e5, e6⟩ := HCELL.out w9 (HKP8.out.2.trans hf9.of_nil)
            have o1 : w9.cell? ⟨OB, 0, none⟩ = some (.slice C1 (m + ln) c1) := HSV9.out.box.cell 0
            clear hf9
            gi_wp2
            refine wpIn_region_any (by kernel_rfl) ?_
            change wpAnyIn _ _ _ _ _ _ _ _ _ (World.drew _)
            refine wpAnyIn_ready (rs := [0, 1, 2]) (by kernel_rfl) (by simp) ?_
            refine AllReadyIn.cons rfl (fun K hK => ?_) (AllReadyIn.cons rfl (fun K hK => ?_) (AllReadyIn.cons rfl (fun K hK => ?_) AllReadyIn.nil))
            · go_simp
              refine hK _ _ ?_
              clear hK K
              refine wpAnyIn_ready (rs := [1, 2]) (by kernel_rfl) (by simp) ?_
              refine AllReadyIn.cons rfl (fun K hK => ?_) (AllReadyIn.cons rfl (fun K hK => ?_) AllReadyIn.nil)
              · go_simp
                refine hK _ _ ?_
                clear hK K
                refine wpAnyIn_ready (rs := [2]) (by kernel_rfl) (by simp) ?_
                refine AllReadyIn.cons rfl (fun K hK => ?_) AllReadyIn.nil
                go_simp
                refine hK _ _ ?_
                clear hK K
                refine wpAnyIn_ready (rs := [3]) (by kernel_rfl) (by simp) ?_
                refine AllReadyIn.cons rfl (fun K hK => ?_) AllReadyIn.nil
                rw [if_pos (by simp [Region.wanted])]
                refine wpIn_call (by intro c h; cases h) (f := 40) (vs := #[.agg #[.pointer p, .bool false, .int .i64 (eo : Nat)], .agg #[.slice rA rn rc, .int .i64 (k : Nat), .bool rh]]) (by go_simp) (HMK.out.2.2 _) (by rintro e w' ⟨he, _⟩; exact ⟨_, he⟩) ?_
                intro v10 w10 hans
                obtain ⟨hv10, hf10⟩ := hans
                injection hv10 with hv10
                subst hv10
                have HF10 : Hid (Fr [] w9 w10) := ((Fr.refl [] w9).drew).trans hf10
                have HSV10 := Lib.hid (HSV9.out.fr0 HF10.out)
                have o2 : w10.cell? ⟨OB, 0, none⟩ = some (.slice C1 (m + ln) c1) := HSV10.out.box.cell 0
                clear hf10
                try go_simp
                refine hK _ _ ?_
                clear hK K
                refine wpAnyIn_ready (rs := [4]) (by kernel_rfl) (by simp) ?_
                refine AllReadyIn.cons rfl (fun K hK => ?_) AllReadyIn.nil
                rw [if_pos (by simp [Region.wanted])]
                refine wpIn_appstr (.tmp 36) (.tmp 39) 32 9 TU8 rfl Try.underlying32 Try.underlying9 infoU8 C1 c1 (m + ln) (bts (savesP s n false eo 0 ((rwv rs).take q) ++ rowP s cs)) (by rfl) HSV10.out.own mk (by rfl) (by have := HMK.out.2.1; have := HML.out; have := HL9.out; omega) w5.heap.size HSV10.out.fr.size HSV10.out.nw ?_
                intro C2 c2 w11 hr11 hg11 hn11
                have hput := HSV10.out.put hr11 hg11 hn11
                have HP11 := Lib.hid hput
                have HG11 := Lib.hid hg11
                have o3 : w11.cell? ⟨OB, 0, none⟩ = some (.slice C1 (m + ln) c1) := hput.2.cell 0
                have oz := hput.2.frozen 0
                have ol := hput.2.lt
                clear hr11 hg11 hn11 hput
                try go_simp
                refine hK _ _ ?_
                clear hK K
                refine wpAnyIn_ready (rs := [5]) (by kernel_rfl) (by simp) ?_
                refine AllReadyIn.cons rfl (fun K hK => ?_) AllReadyIn.nil
                go_simp
                refine hK _ _ ?_
                clear hK K
                refine wpAnyIn_done (by kernel_rfl) ?_ _
                gi_wp2
                have hf11 : Fr [some OB, bk C1] w10 (w11.setCell ⟨OB, 0, none⟩ (.slice C2 (m + ln + mk.length) c2)) := (HG11.out.weaken fun i _ h => by rw [List.mem_singleton] at h; rw [h]; exact List.mem_cons_of_mem _ (List.mem_singleton.2 rfl)).setB (fun _ => by simp) 0 _
                refine ⟨((HKP8.out.1.trans (KeepsI.of_fr HF9.out)).trans (KeepsI.of_fr HF10.out)).trans (HSV10.out.keeps rfl hf11 rfl (List.mem_singleton.2 rfl)), C2, c2, m + ln + mk.length, ?_⟩
                rw [List.length_append, List.length_singleton, ← HKQ.out.2.2, HTK.out, HYES.out, ← List.append_assoc]
                exact HP11.out.1
              · go_simp
                refine hK _ _ ?_
                clear hK K
                refine wpAnyIn_ready (rs := [1]) (by kernel_rfl) (by simp) ?_
                refine AllReadyIn.cons rfl (fun K hK => ?_) AllReadyIn.nil
                go_simp
                refine hK _ _ ?_
                clear hK K
                refine wpAnyIn_ready (rs := [3]) (by kernel_rfl) (by simp) ?_
                refine AllReadyIn.cons rfl (fun K hK => ?_) AllReadyIn.nil
                rw [if_pos (by simp [Region.wanted])]
                refine wpIn_call (by intro c h; cases h) (f := 40) (vs := #[.agg #[.pointer p, .bool false, .int .i64 (eo : Nat)], .agg #[.slice rA rn rc, .int .i64 (k : Nat), .bool rh]]) (by go_simp) (HMK.out.2.2 _) (by rintro e w' ⟨he, _⟩; exact ⟨_, he⟩) ?_
                intro v10 w10 hans
                obtain ⟨hv10, hf10⟩ := hans
                injection hv10 with hv10
                subst hv10
                have HF10 : Hid (Fr [] w9 w10) := ((Fr.refl [] w9).drew).trans hf10
                have HSV10 := Lib.hid (HSV9.out.fr0 HF10.out)
                have o2 : w10.cell? ⟨OB, 0, none⟩ = some (.slice C1 (m + ln) c1) := HSV10.out.box.cell 0
                clear hf10
                try go_simp
                refine hK _ _ ?_
                clear hK K
                refine wpAnyIn_ready (rs := [4]) (by kernel_rfl) (by simp) ?_
                refine AllReadyIn.cons rfl (fun K hK => ?_) AllReadyIn.nil
                rw [if_pos (by simp [Region.wanted])]
                refine wpIn_appstr (.tmp 36) (.tmp 39) 32 9 TU8 rfl Try.underlying32 Try.underlying9 infoU8 C1 c1 (m + ln) (bts (savesP s n false eo 0 ((rwv rs).take q) ++ rowP s cs)) (by rfl) HSV10.out.own mk (by rfl) (by have := HMK.out.2.1; have := HML.out; have := HL9.out; omega) w5.heap.size HSV10.out.fr.size HSV10.out.nw ?_
                intro C2 c2 w11 hr11 hg11 hn11
                have hput := HSV10.out.put hr11 hg11 hn11
                have HP11 := Lib.hid hput
                have HG11 := Lib.hid hg11
                have o3 : w11.cell? ⟨OB, 0, none⟩ = some (.slice C1 (m + ln) c1) := hput.2.cell 0
                have oz := hput.2.frozen 0
                have ol := hput.2.lt
                clear hr11 hg11 hn11 hput
                try go_simp
                refine hK _ _ ?_
                clear hK K
                refine wpAnyIn_ready (rs := [5]) (by kernel_rfl) (by simp) ?_
                refine AllReadyIn.cons rfl (fun K hK => ?_) AllReadyIn.nil
                go_simp
                refine hK _ _ ?_
                clear hK K
                refine wpAnyIn_done (by kernel_rfl) ?_ _
                gi_wp2
                have hf11 : Fr [some OB, bk C1] w10 (w11.setCell ⟨OB, 0, none⟩ (.slice C2 (m + ln + mk.length) c2)) := (HG11.out.weaken fun i _ h => by rw [List.mem_singleton] at h; rw [h]; exact List.mem_cons_of_mem _ (List.mem_singleton.2 rfl)).setB (fun _ => by simp) 0 _
                refine ⟨((HKP8.out.1.trans (KeepsI.of_fr HF9.out)).trans (KeepsI.of_fr HF10.out)).trans (HSV10.out.keeps rfl hf11 rfl (List.mem_singleton.2 rfl)), C2, c2, m + ln + mk.length, ?_⟩
                rw [List.length_append, List.length_singleton, ← HKQ.out.2.2, HTK.out, HYES.out, ← List.append_assoc]
                exact HP11.out.1
            · go_simp
              refine hK _ _ ?_
              clear hK K
              refine wpAnyIn_ready (rs := [0, 2]) (by kernel_rfl) (by simp) ?_
              refine AllReadyIn.cons rfl (fun K hK => ?_) (AllReadyIn.cons rfl (fun K hK => ?_) AllReadyIn.nil)
              · go_simp
                refine hK _ _ ?_
                clear hK K
                refine wpAnyIn_ready (rs := [2]) (by kernel_rfl) (by simp) ?_
                refine AllReadyIn.cons rfl (fun K hK => ?_) AllReadyIn.nil
                go_simp
                refine hK _ _ ?_
                clear hK K
                refine wpAnyIn_ready (rs := [3]) (by kernel_rfl) (by simp) ?_
                refine AllReadyIn.cons rfl (fun K hK => ?_) AllReadyIn.nil
                rw [if_pos (by simp [Region.wanted])]
                refine wpIn_call (by intro c h; cases h) (f := 40) (vs := #[.agg #[.pointer p, .bool false, .int .i64 (eo : Nat)], .agg #[.slice rA rn rc, .int .i64 (k : Nat), .bool rh]]) (by go_simp) (HMK.out.2.2 _) (by rintro e w' ⟨he, _⟩; exact ⟨_, he⟩) ?_
                intro v10 w10 hans
                obtain ⟨hv10, hf10⟩ := hans
                injection hv10 with hv10
                subst hv10
                have HF10 : Hid (Fr [] w9 w10) := ((Fr.refl [] w9).drew).trans hf10
                have HSV10 := Lib.hid (HSV9.out.fr0 HF10.out)
                have o2 : w10.cell? ⟨OB, 0, none⟩ = some (.slice C1 (m + ln) c1) := HSV10.out.box.cell 0
                clear hf10
                try go_simp
                refine hK _ _ ?_
                clear hK K
                refine wpAnyIn_ready (rs := [4]) (by kernel_rfl) (by simp) ?_
                refine AllReadyIn.cons rfl (fun K hK => ?_) AllReadyIn.nil
                rw [if_pos (by simp [Region.wanted])]
                refine wpIn_appstr (.tmp 36) (.tmp 39) 32 9 TU8 rfl Try.underlying32 Try.underlying9 infoU8 C1 c1 (m + ln) (bts (savesP s n false eo 0 ((rwv rs).take q) ++ rowP s cs)) (by rfl) HSV10.out.own mk (by rfl) (by have := HMK.out.2.1; have := HML.out; have := HL9.out; omega) w5.heap.size HSV10.out.fr.size HSV10.out.nw ?_
                intro C2 c2 w11 hr11 hg11 hn11
                have hput := HSV10.out.put hr11 hg11 hn11
                have HP11 := Lib.hid hput
                have HG11 := Lib.hid hg11
                have o3 : w11.cell? ⟨OB, 0, none⟩ = some (.slice C1 (m + ln) c1) := hput.2.cell 0
                have oz := hput.2.frozen 0
                have ol := hput.2.lt
                clear hr11 hg11 hn11 hput
                try go_simp
                refine hK _ _ ?_
                clear hK K
                refine wpAnyIn_ready (rs := [5]) (by kernel_rfl) (by simp) ?_
                refine AllReadyIn.cons rfl (fun K hK => ?_) AllReadyIn.nil
                go_simp
                refine hK _ _ ?_
                clear hK K
                refine wpAnyIn_done (by kernel_rfl) ?_ _
                gi_wp2
                have hf11 : Fr [some OB, bk C1] w10 (w11.setCell ⟨OB, 0, none⟩ (.slice C2 (m + ln + mk.length) c2)) := (HG11.out.weaken fun i _ h => by rw [List.mem_singleton] at h; rw [h]; exact List.mem_cons_of_mem _ (List.mem_singleton.2 rfl)).setB (fun _ => by simp) 0 _
                refine ⟨((HKP8.out.1.trans (KeepsI.of_fr HF9.out)).trans (KeepsI.of_fr HF10.out)).trans (HSV10.out.keeps rfl hf11 rfl (List.mem_singleton.2 rfl)), C2, c2, m + ln + mk.length, ?_⟩
                rw [List.length_append, List.length_singleton, ← HKQ.out.2.2, HTK.out, HYES.out, ← List.append_assoc]
                exact HP11.out.1
              · go_simp
                refine hK _ _ ?_
                clear hK K
                refine wpAnyIn_ready (rs := [0, 3]) (by kernel_rfl) (by simp) ?_
                refine AllReadyIn.cons rfl (fun K hK => ?_) (AllReadyIn.cons rfl (fun K hK => ?_) AllReadyIn.nil)
                · go_simp
                  refine hK _ _ ?_
                  clear hK K
                  refine wpAnyIn_ready (rs := [3]) (by kernel_rfl) (by simp) ?_
                  refine AllReadyIn.cons rfl (fun K hK => ?_) AllReadyIn.nil
                  rw [if_pos (by simp [Region.wanted])]
                  refine wpIn_call (by intro c h; cases h) (f := 40) (vs := #[.agg #[.pointer p, .bool false, .int .i64 (eo : Nat)], .agg #[.slice rA rn rc, .int .i64 (k : Nat), .bool rh]]) (by go_simp) (HMK.out.2.2 _) (by rintro e w' ⟨he, _⟩; exact ⟨_, he⟩) ?_
                  intro v10 w10 hans
                  obtain ⟨hv10, hf10⟩ := hans
                  injection hv10 with hv10
                  subst hv10
                  have HF10 : Hid (Fr [] w9 w10) := ((Fr.refl [] w9).drew).trans hf10
                  have HSV10 := Lib.hid (HSV9.out.fr0 HF10.out)
                  have o2 : w10.cell? ⟨OB, 0, none⟩ = some (.slice C1 (m + ln) c1) := HSV10.out.box.cell 0
                  clear hf10
                  try go_simp
                  refine hK _ _ ?_
                  clear hK K
                  refine wpAnyIn_ready (rs := [4]) (by kernel_rfl) (by simp) ?_
                  refine AllReadyIn.cons rfl (fun K hK => ?_) AllReadyIn.nil
                  rw [if_pos (by simp [Region.wanted])]
                  refine wpIn_appstr (.tmp 36) (.tmp 39) 32 9 TU8 rfl Try.underlying32 Try.underlying9 infoU8 C1 c1 (m + ln) (bts (savesP s n false eo 0 ((rwv rs).take q) ++ rowP s cs)) (by rfl) HSV10.out.own mk (by rfl) (by have := HMK.out.2.1; have := HML.out; have := HL9.out; omega) w5.heap.size HSV10.out.fr.size HSV10.out.nw ?_
                  intro C2 c2 w11 hr11 hg11 hn11
                  have hput := HSV10.out.put hr11 hg11 hn11
                  have HP11 := Lib.hid hput
                  have HG11 := Lib.hid hg11
                  have o3 : w11.cell? ⟨OB, 0, none⟩ = some (.slice C1 (m + ln) c1) := hput.2.cell 0
                  have oz := hput.2.frozen 0
                  have ol := hput.2.lt
                  clear hr11 hg11 hn11 hput
                  try go_simp
                  refine hK _ _ ?_
                  clear hK K
                  refine wpAnyIn_ready (rs := [5]) (by kernel_rfl) (by simp) ?_
                  refine AllReadyIn.cons rfl (fun K hK => ?_) AllReadyIn.nil
                  go_simp
                  refine hK _ _ ?_
                  clear hK K
                  refine wpAnyIn_done (by kernel_rfl) ?_ _
                  gi_wp2
                  have hf11 : Fr [some OB, bk C1] w10 (w11.setCell ⟨OB, 0, none⟩ (.slice C2 (m + ln + mk.length) c2)) := (HG11.out.weaken fun i _ h => by rw [List.mem_singleton] at h; rw [h]; exact List.mem_cons_of_mem _ (List.mem_singleton.2 rfl)).setB (fun _ => by simp) 0 _
                  refine ⟨((HKP8.out.1.trans (KeepsI.of_fr HF9.out)).trans (KeepsI.of_fr HF10.out)).trans (HSV10.out.keeps rfl hf11 rfl (List.mem_singleton.2 rfl)), C2, c2, m + ln + mk.length, ?_⟩
                  rw [List.length_append, List.length_singleton, ← HKQ.out.2.2, HTK.out, HYES.out, ← List.append_assoc]
                  exact HP11.out.1
                · rw [if_pos (by simp [Region.wanted])]
                  refine wpIn_call (by intro c h; cases h) (f := 40) (vs := #[.agg #[.pointer p, .bool false, .int .i64 (eo : Nat)], .agg #[.slice rA rn rc, .int .i64 (k : Nat), .bool rh]]) (by go_simp) (HMK.out.2.2 _) (by rintro e w' ⟨he, _⟩; exact ⟨_, he⟩) ?_
                  intro v10 w10 hans
                  obtain ⟨hv10, hf10⟩ := hans
                  injection hv10 with hv10
                  subst hv10
                  have HF10 : Hid (Fr [] w9 w10) := ((Fr.refl [] w9).drew).trans hf10
                  have HSV10 := Lib.hid (HSV9.out.fr0 HF10.out)
                  have o2 : w10.cell? ⟨OB, 0, none⟩ = some (.slice C1 (m + ln) c1) := HSV10.out.box.cell 0
                  clear hf10
                  try go_simp
                  refine hK _ _ ?_
                  clear hK K
                  refine wpAnyIn_ready (rs := [0]) (by kernel_rfl) (by simp) ?_
                  refine AllReadyIn.cons rfl (fun K hK => ?_) AllReadyIn.nil
                  go_simp
                  refine hK _ _ ?_
                  clear hK K
                  refine wpAnyIn_ready (rs := [4]) (by kernel_rfl) (by simp) ?_
                  refine AllReadyIn.cons rfl (fun K hK => ?_) AllReadyIn.nil
                  rw [if_pos (by simp [Region.wanted])]
                  refine wpIn_appstr (.tmp 36) (.tmp 39) 32 9 TU8 rfl Try.underlying32 Try.underlying9 infoU8 C1 c1 (m + ln) (bts (savesP s n false eo 0 ((rwv rs).take q) ++ rowP s cs)) (by rfl) HSV10.out.own mk (by rfl) (by have := HMK.out.2.1; have := HML.out; have := HL9.out; omega) w5.heap.size HSV10.out.fr.size HSV10.out.nw ?_
                  intro C2 c2 w11 hr11 hg11 hn11
                  have hput := HSV10.out.put hr11 hg11 hn11
                  have HP11 := Lib.hid hput
                  have HG11 := Lib.hid hg11
                  have o3 : w11.cell? ⟨OB, 0, none⟩ = some (.slice C1 (m + ln) c1) := hput.2.cell 0
                  have oz := hput.2.frozen 0
                  have ol := hput.2.lt
                  clear hr11 hg11 hn11 hput
                  try go_simp
                  refine hK _ _ ?_
                  clear hK K
                  refine wpAnyIn_ready (rs := [5]) (by kernel_rfl) (by simp) ?_
                  refine AllReadyIn.cons rfl (fun K hK => ?_) AllReadyIn.nil
                  go_simp
                  refine hK _ _ ?_
                  clear hK K
                  refine wpAnyIn_done (by kernel_rfl) ?_ _
                  gi_wp2
                  have hf11 : Fr [some OB, bk C1] w10 (w11.setCell ⟨OB, 0, none⟩ (.slice C2 (m + ln + mk.length) c2)) := (HG11.out.weaken fun i _ h => by rw [List.mem_singleton] at h; rw [h]; exact List.mem_cons_of_mem _ (List.mem_singleton.2 rfl)).setB (fun _ => by simp) 0 _
                  refine ⟨((HKP8.out.1.trans (KeepsI.of_fr HF9.out)).trans (KeepsI.of_fr HF10.out)).trans (HSV10.out.keeps rfl hf11 rfl (List.mem_singleton.2 rfl)), C2, c2, m + ln + mk.length, ?_⟩
                  rw [List.length_append, List.length_singleton, ← HKQ.out.2.2, HTK.out, HYES.out, ← List.append_assoc]
                  exact HP11.out.1
            · go_simp
              refine hK _ _ ?_
              clear hK K
              refine wpAnyIn_ready (rs := [0, 1]) (by kernel_rfl) (by simp) ?_
              refine AllReadyIn.cons rfl (fun K hK => ?_) (AllReadyIn.cons rfl (fun K hK => ?_) AllReadyIn.nil)
              · go_simp
                refine hK _ _ ?_
                clear hK K
                refine wpAnyIn_ready (rs := [1]) (by kernel_rfl) (by simp) ?_
                refine AllReadyIn.cons rfl (fun K hK => ?_) AllReadyIn.nil
                go_simp
                refine hK _ _ ?_
                clear hK K
                refine wpAnyIn_ready (rs := [3]) (by kernel_rfl) (by simp) ?_
                refine AllReadyIn.cons rfl (fun K hK => ?_) AllReadyIn.nil
                rw [if_pos (by simp [Region.wanted])]
                refine wpIn_call (by intro c h; cases h) (f := 40) (vs := #[.agg #[.pointer p, .bool false, .int .i64 (eo : Nat)], .agg #[.slice rA rn rc, .int .i64 (k : Nat), .bool rh]]) (by go_simp) (HMK.out.2.2 _) (by rintro e w' ⟨he, _⟩; exact ⟨_, he⟩) ?_
                intro v10 w10 hans
                obtain ⟨hv10, hf10⟩ := hans
                injection hv10 with hv10
                subst hv10
                have HF10 : Hid (Fr [] w9 w10) := ((Fr.refl [] w9).drew).trans hf10
                have HSV10 := Lib.hid (HSV9.out.fr0 HF10.out)
                have o2 : w10.cell? ⟨OB, 0, none⟩ = some (.slice C1 (m + ln) c1) := HSV10.out.box.cell 0
                clear hf10
                try go_simp
                refine hK _ _ ?_
                clear hK K
                refine wpAnyIn_ready (rs := [4]) (by kernel_rfl) (by simp) ?_
                refine AllReadyIn.cons rfl (fun K hK => ?_) AllReadyIn.nil
                rw [if_pos (by simp [Region.wanted])]
                refine wpIn_appstr (.tmp 36) (.tmp 39) 32 9 TU8 rfl Try.underlying32 Try.underlying9 infoU8 C1 c1 (m + ln) (bts (savesP s n false eo 0 ((rwv rs).take q) ++ rowP s cs)) (by rfl) HSV10.out.own mk (by rfl) (by have := HMK.out.2.1; have := HML.out; have := HL9.out; omega) w5.heap.size HSV10.out.fr.size HSV10.out.nw ?_
                intro C2 c2 w11 hr11 hg11 hn11
                have hput := HSV10.out.put hr11 hg11 hn11
                have HP11 := Lib.hid hput
                have HG11 := Lib.hid hg11
                have o3 : w11.cell? ⟨OB, 0, none⟩ = some (.slice C1 (m + ln) c1) := hput.2.cell 0
                have oz := hput.2.frozen 0
                have ol := hput.2.lt
                clear hr11 hg11 hn11 hput
                try go_simp
                refine hK _ _ ?_
                clear hK K
                refine wpAnyIn_ready (rs := [5]) (by kernel_rfl) (by simp) ?_
                refine AllReadyIn.cons rfl (fun K hK => ?_) AllReadyIn.nil
                go_simp
                refine hK _ _ ?_
                clear hK K
                refine wpAnyIn_done (by kernel_rfl) ?_ _
                gi_wp2
                have hf11 : Fr [some OB, bk C1] w10 (w11.setCell ⟨OB, 0, none⟩ (.slice C2 (m + ln + mk.length) c2)) := (HG11.out.weaken fun i _ h => by rw [List.mem_singleton] at h; rw [h]; exact List.mem_cons_of_mem _ (List.mem_singleton.2 rfl)).setB (fun _ => by simp) 0 _
                refine ⟨((HKP8.out.1.trans (KeepsI.of_fr HF9.out)).trans (KeepsI.of_fr HF10.out)).trans (HSV10.out.keeps rfl hf11 rfl (List.mem_singleton.2 rfl)), C2, c2, m + ln + mk.length, ?_⟩
                rw [List.length_append, List.length_singleton, ← HKQ.out.2.2, HTK.out, HYES.out, ← List.append_assoc]
                exact HP11.out.1
              · go_simp
                refine hK _ _ ?_
                clear hK K
                refine wpAnyIn_ready (rs := [0, 3]) (by kernel_rfl) (by simp) ?_
                refine AllReadyIn.cons rfl (fun K hK => ?_) (AllReadyIn.cons rfl (fun K hK => ?_) AllReadyIn.nil)
                · go_simp
                  refine hK _ _ ?_
                  clear hK K
                  refine wpAnyIn_ready (rs := [3]) (by kernel_rfl) (by simp) ?_
                  refine AllReadyIn.cons rfl (fun K hK => ?_) AllReadyIn.nil
                  rw [if_pos (by simp [Region.wanted])]
                  refine wpIn_call (by intro c h; cases h) (f := 40) (vs := #[.agg #[.pointer p, .bool false, .int .i64 (eo : Nat)], .agg #[.slice rA rn rc, .int .i64 (k : Nat), .bool rh]]) (by go_simp) (HMK.out.2.2 _) (by rintro e w' ⟨he, _⟩; exact ⟨_, he⟩) ?_
                  intro v10 w10 hans
                  obtain ⟨hv10, hf10⟩ := hans
                  injection hv10 with hv10
                  subst hv10
                  have HF10 : Hid (Fr [] w9 w10) := ((Fr.refl [] w9).drew).trans hf10
                  have HSV10 := Lib.hid (HSV9.out.fr0 HF10.out)
                  have o2 : w10.cell? ⟨OB, 0, none⟩ = some (.slice C1 (m + ln) c1) := HSV10.out.box.cell 0
                  clear hf10
                  try go_simp
                  refine hK _ _ ?_
                  clear hK K
                  refine wpAnyIn_ready (rs := [4]) (by kernel_rfl) (by simp) ?_
                  refine AllReadyIn.cons rfl (fun K hK => ?_) AllReadyIn.nil
                  rw [if_pos (by simp [Region.wanted])]
                  refine wpIn_appstr (.tmp 36) (.tmp 39) 32 9 TU8 rfl Try.underlying32 Try.underlying9 infoU8 C1 c1 (m + ln) (bts (savesP s n false eo 0 ((rwv rs).take q) ++ rowP s cs)) (by rfl) HSV10.out.own mk (by rfl) (by have := HMK.out.2.1; have := HML.out; have := HL9.out; omega) w5.heap.size HSV10.out.fr.size HSV10.out.nw ?_
                  intro C2 c2 w11 hr11 hg11 hn11
                  have hput := HSV10.out.put hr11 hg11 hn11
                  have HP11 := Lib.hid hput
                  have HG11 := Lib.hid hg11
                  have o3 : w11.cell? ⟨OB, 0, none⟩ = some (.slice C1 (m + ln) c1) := hput.2.cell 0
                  have oz := hput.2.frozen 0
                  have ol := hput.2.lt
                  clear hr11 hg11 hn11 hput
                  try go_simp
                  refine hK _ _ ?_
                  clear hK K
                  refine wpAnyIn_ready (rs := [5]) (by kernel_rfl) (by simp) ?_
                  refine AllReadyIn.cons rfl (fun K hK => ?_) AllReadyIn.nil
                  go_simp
                  refine hK _ _ ?_
                  clear hK K
                  refine wpAnyIn_done (by kernel_rfl) ?_ _
                  gi_wp2
                  have hf11 : Fr [some OB, bk C1] w10 (w11.setCell ⟨OB, 0, none⟩ (.slice C2 (m + ln + mk.length) c2)) := (HG11.out.weaken fun i _ h => by rw [List.mem_singleton] at h; rw [h]; exact List.mem_cons_of_mem _ (List.mem_singleton.2 rfl)).setB (fun _ => by simp) 0 _
                  refine ⟨((HKP8.out.1.trans (KeepsI.of_fr HF9.out)).trans (KeepsI.of_fr HF10.out)).trans (HSV10.out.keeps rfl hf11 rfl (List.mem_singleton.2 rfl)), C2, c2, m + ln + mk.length, ?_⟩
                  rw [List.length_append, List.length_singleton, ← HKQ.out.2.2, HTK.out, HYES.out, ← List.append_assoc]
                  exact HP11.out.1
                · rw [if_pos (by simp [Region.wanted])]
                  refine wpIn_call (by intro c h; cases h) (f := 40) (vs := #[.agg #[.pointer p, .bool false, .int .i64 (eo : Nat)], .agg #[.slice rA rn rc, .int .i64 (k : Nat), .bool rh]]) (by go_simp) (HMK.out.2.2 _) (by rintro e w' ⟨he, _⟩; exact ⟨_, he⟩) ?_
                  intro v10 w10 hans
                  obtain ⟨hv10, hf10⟩ := hans
                  injection hv10 with hv10
                  subst hv10
                  have HF10 : Hid (Fr [] w9 w10) := ((Fr.refl [] w9).drew).trans hf10
                  have HSV10 := Lib.hid (HSV9.out.fr0 HF10.out)
                  have o2 : w10.cell? ⟨OB, 0, none⟩ = some (.slice C1 (m + ln) c1) := HSV10.out.box.cell 0
                  clear hf10
                  try go_simp
                  refine hK _ _ ?_
                  clear hK K
                  refine wpAnyIn_ready (rs := [0]) (by kernel_rfl) (by simp) ?_
                  refine AllReadyIn.cons rfl (fun K hK => ?_) AllReadyIn.nil
                  go_simp
                  refine hK _ _ ?_
                  clear hK K
                  refine wpAnyIn_ready (rs := [4]) (by kernel_rfl) (by simp) ?_
                  refine AllReadyIn.cons rfl (fun K hK => ?_) AllReadyIn.nil
                  rw [if_pos (by simp [Region.wanted])]
                  refine wpIn_appstr (.tmp 36) (.tmp 39) 32 9 TU8 rfl Try.underlying32 Try.underlying9 infoU8 C1 c1 (m + ln) (bts (savesP s n false eo 0 ((rwv rs).take q) ++ rowP s cs)) (by rfl) HSV10.out.own mk (by rfl) (by have := HMK.out.2.1; have := HML.out; have := HL9.out; omega) w5.heap.size HSV10.out.fr.size HSV10.out.nw ?_
                  intro C2 c2 w11 hr11 hg11 hn11
                  have hput := HSV10.out.put hr11 hg11 hn11
                  have HP11 := Lib.hid hput
                  have HG11 := Lib.hid hg11
                  have o3 : w11.cell? ⟨OB, 0, none⟩ = some (.slice C1 (m + ln) c1) := hput.2.cell 0
                  have oz := hput.2.frozen 0
                  have ol := hput.2.lt
                  clear hr11 hg11 hn11 hput
                  try go_simp
                  refine hK _ _ ?_
                  clear hK K
                  refine wpAnyIn_ready (rs := [5]) (by kernel_rfl) (by simp) ?_
                  refine AllReadyIn.cons rfl (fun K hK => ?_) AllReadyIn.nil
                  go_simp
                  refine hK _ _ ?_
                  clear hK K
                  refine wpAnyIn_done (by kernel_rfl) ?_ _
                  gi_wp2
                  have hf11 : Fr [some OB, bk C1] w10 (w11.setCell ⟨OB, 0, none⟩ (.slice C2 (m + ln + mk.length) c2)) := (HG11.out.weaken fun i _ h => by rw [List.mem_singleton] at h; rw [h]; exact List.mem_cons_of_mem _ (List.mem_singleton.2 rfl)).setB (fun _ => by simp) 0 _
                  refine ⟨((HKP8.out.1.trans (KeepsI.of_fr HF9.out)).trans (KeepsI.of_fr HF10.out)).trans (HSV10.out.keeps rfl hf11 rfl (List.mem_singleton.2 rfl)), C2, c2, m + ln + mk.length, ?_⟩
                  rw [List.length_append, List.length_singleton, ← HKQ.out.2.2, HTK.out, HYES.out, ← List.append_assoc]
                  exact HP11.out.1
          · have h4 : ¬ (ln : Int) = 0 := by omega
            have hd1 : decide ((q : Int) < (n : Int) - 1) = false := decide_eq_false h1
            have hd2 : ((ln : Int) == 0) = false := by simpa using h3
            have HNO : Hid (pieceP (rowP s cs) n q false eo k = rowP s cs) := by
              show _ = _
              unfold pieceP
              rw [if_neg, List.append_nil]
              rintro (h | h | h)
              · omega
              · cases h
              · have := HLN2.out; rw [h] at this; exact h3 this
            gi_wp2_with (gi_at_builtin; go_must (
              refine wpListIn_app rfl _ _ 32 TU8 rfl (Value.int .u8 0) 1 1 Try.underlying32 infoU8 rfl (by decide) C c m (bts (savesP s n false eo 0 ((rwv rs).take q))) rfl HSV6.out.own LB ln ld (bts (rowP s cs)) rfl (by rw [bts_len, ← HLN2.out]) HLO.out (bts_one _) (by have := HML.out; have := HL9.out; simp only [maxLen]; omega) (by have := HML.out; have := HL9.out; omega) ?_
              intro C1 c1 w7 hr7 hg7 hb7
              have hput := HSV6.out.put (k := rowP s cs) (C1 := C1) (c1 := c1) (W1 := w7) (by rw [← HLN2.out]; exact hr7) hg7 (fun j hj => by
                rcases hb7 with h | h
                · exact HSV6.out.nw j (h ▸ hj)
                · rw [h] at hj; injection hj with hj; have := HSV6.out.fr.size; omega)
              rw [← HLN2.out] at hput
              have HP7 := Lib.hid hput
              have HG7 := Lib.hid hg7
              have o1 : w7.cell? ⟨OB, 0, none⟩ = some (.slice C m c) := hput.2.cell 0
              have oz := hput.2.frozen 0
              have ol := hput.2.lt
              obtain ⟨e1, e2, e3, e4, e5, e6⟩ := HCELL.out w7 (HF6.out.of_nil.trans (hg7.weaken fun i _ h => by rw [List.mem_singleton] at h; rw [h]; exact List.mem_cons_of_mem _ (List.mem_singleton.2 rfl)))
              clear hr7 hg7 hb7 hput))
            obtain ⟨w8, hw8⟩ : ∃ w8, w8 = w7.setCell ⟨OB, 0, none⟩ (.slice C1 (m + ln) c1) := ⟨_, rfl⟩
            rw [← hw8] at HP7 ⊢
            clear e1 e2 e3 e4 e5 e6 o1 oz ol
            have HKP8 : Hid (KeepsI [some OB] w5.heap.size W w8 ∧ Fr [some OB, bk C] W w8) := by
              have hf : Fr [some OB, bk C] W w8 := by
                have h1 : Fr [some OB, bk C] W w7 := HF6.out.of_nil.trans (HG7.out.weaken fun i _ h => by rw [List.mem_singleton] at h; rw [h]; exact List.mem_cons_of_mem _ (List.mem_singleton.2 rfl))
                rw [hw8]
                exact h1.setB (fun _ => by simp) 0 _
              exact ⟨HSV.out.keeps rfl hf rfl (List.mem_singleton.2 rfl), hf⟩
            clear hw8
            refine ⟨trivial, (CallsIn.inRound l (callsIn_wide.2 (HLN.out w8 (HFRW.out w8 HP7.out.1.fr)))).mono ?_⟩
            rintro e w9 ⟨rfl, hf9⟩
            have HSV9 := Lib.hid (HP7.out.1.fr0 hf9)
            have HF9 := Lib.hid hf9
            obtain ⟨e1, e2, e3, e4, e5, e6⟩ := HCELL.out w9 (HKP8.out.2.trans hf9.of_nil)
            have o1 : w9.cell? ⟨OB, 0, none⟩ = some (.slice C1 (m + ln) c1) := HSV9.out.box.cell 0
            clear hf9
            gi_wp2
            refine ⟨HKP8.out.1.trans (KeepsI.of_fr HF9.out), C1, c1, m + ln, ?_⟩
            rw [List.length_append, List.length_singleton, ← HKQ.out.2.2, HTK.out]
            have hpc : pieceP (rowP s cs) n q false eo k = rowP s cs := HNO.out
            rw [hpc]
            exact HSV9.out
    case done =>
      rintro D W hD ⟨C, c, m, HSV⟩ hK
      have hle : (rwv rs).take (allR (rs.map Prod.fst) 0 n).length = rwv rs := List.take_of_length_le (by rw [allR_len]; simp [rwv]; have := HN.out; omega)
      rw [hle] at HSV
      have o0 : W.cell? ⟨OB, 0, none⟩ = some (.slice C m c) := HSV.out.box.cell 0
      have HFW : Hid (Fr [] w W) := (HB0.out.1.trans HF5.out).seq HSV.out.fr fun x hx => by
        rw [List.mem_singleton] at hx
        exact .inr (.inr ⟨OB, by have := HNB.out; omega, hx⟩)
      have HKD := Lib.hid hK
      have HDD := Lib.hid hD
      clear hK hD
      go_wp2_with fail
      refine ⟨by simp, .inl ⟨_, _, rfl, run_takeDeferred HKD.out, ?_⟩⟩
      have hc := HSV.out.ch (ChI.put (o' := .deferred none) HKD.out rfl HDD.out)
      refine ⟨_, results_tmp rfl _ _ _, ⟨C, m, c, rfl, hc.ln, hc.own, ?_, ?_⟩⟩
      · refine (HB0.out.1.trans HF5.out).seq hc.fr fun x hx => ?_
        rw [List.mem_singleton] at hx
        exact .inr (.inr ⟨OB, by have := HNB.out; omega, hx⟩)
      · intro j hj
        have := hc.nw j hj
        have := (HB0.out.1.trans HF5.out).size
        omega
    case stop =>
      rintro D c pre W _ h _
      exact h.elim
end Go.Proofs.Ytblafakafgediaa
