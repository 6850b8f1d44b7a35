import Derived.Test.YtblafakafgediaaH34
import Derived.Test.YtblafakafgediaaH27
namespace Go.Proofs.Ytblafakafgediaa
open Go.RowKit Go.Proofs.Dm

set_option maxRecDepth 100000 in
set_option maxHeartbeats 800000 in
theorem grow_any (p : Option Addr) (xs : List RV) (tl : Bool) (eo : Int) (i : Nat) (r : RV) (w : World) (ht : TreeAt TN [] w p xs) (hi : xs[i]? = some r) (hn : xs.length ≤ 100000) :
    Calls Try.prog 35 #[.agg #[.pointer p, .bool tl, .int .i64 eo], .int .i64 (i : Nat)] w fun e w' => e = .returned (.tuple #[.agg #[.slice r.A r.n r.c, .int .i64 r.e, .bool r.h], .bool true]) ∧ Fr [] w w' := by
  have hl : i < xs.length := by
    rcases Nat.lt_or_ge i xs.length with h | h
    · exact h
    · rw [List.getElem?_eq_none h] at hi; cases hi
  have hr : xs[i] = r := by rw [List.getElem?_eq_getElem hl] at hi; injection hi
  have HC : Hid (∀ w', Fr [] w w' → Calls Try.prog 71 #[.agg #[.pointer p], .int .i64 (i : Nat)] w' fun e w'' => e = .returned (.tuple #[.agg #[.slice r.A r.n r.c, .int .i64 r.e, .bool r.h], .bool true]) ∧ Fr [] w' w'') := by
    show ∀ _, _
    intro w' hf
    have := at_yes (E := []) p xs i w' (ht.fr0 hf) hl hn
    rw [hr] at this
    exact this
  obtain ⟨A, n, c, e, h⟩ := r
  obtain ⟨W1, hW1⟩ : ∃ W1, W1 = (w.alloc (.cells #[.pointer p, .bool tl, .int .i64 eo] TGr)).alloc (.cells #[.slice none 0 0, .int .i64 0, .bool false] TRow) := ⟨_, rfl⟩
  have HW : Hid (Fr [] w W1 ∧ Blk W1 (w.heap.size + 1) TRow #[.slice none 0 0, .int .i64 0, .bool false]) := by
    have b2 := Blk.new (w.alloc (.cells #[.pointer p, .bool tl, .int .i64 eo] TGr)) TRow #[.slice none 0 0, .int .i64 0, .bool false]
    rw [World.size_alloc, ← hW1] at b2
    exact ⟨by rw [hW1]; exact ((Fr.refl [] w).alloc _).alloc _, b2⟩
  have HW1 := Lib.hid hW1
  clear ht hi hn hl hr hW1
  go_enter Try.func35, Try.ntmps35
  go_wp2_with fail
  rw [← HW1.out]
  refine (HC.out _ HW.out.1).mono ?_
  rintro en w2 ⟨rfl, hf2⟩
  have hb := HW.out.2.fr hf2 (by simp)
  have l0 : w2.cell? ⟨w.heap.size + 1, 0, none⟩ = some (.slice none 0 0) := hb.cell 0
  have l1 : w2.cell? ⟨w.heap.size + 1, 1, none⟩ = some (.int .i64 0) := hb.cell 1
  have l2 : w2.cell? ⟨w.heap.size + 1, 2, none⟩ = some (.bool false) := hb.cell 2
  have z0 := hb.frozen 0
  have z1 := hb.frozen 1
  have z2 := hb.frozen 2
  have ll := hb.lt
  have HF := Lib.hid (HW.out.1.trans hf2)
  clear hb hf2
  go_wp2_with fail
  refine bodyPost_ret (v := .tuple #[.agg #[.slice A n c, .int .i64 e, .bool h], .bool true]) (by simp [results, Try.results35, go_sem, *]) rfl ?_
  have hx : w.heap.size + 1 < w.heap.size → some (w.heap.size + 1) ∈ ([] : List (Option Nat)) := fun h => absurd h (by omega)
  exact ⟨rfl, ((HF.out.setB hx _ _).setB hx _ _).setB hx _ _⟩
end Go.Proofs.Ytblafakafgediaa
namespace Go.Proofs.Ytblafakafgediaa
open Go.RowKit Go.Proofs.Dm

/-- A grid's rows, as the document has them. -/
abbrev Pic : Type := List DC × Int × Bool
def rpic (s : List UInt8) (r : RW) : Pic := (r.2.map (ccell s), r.1.e, r.1.h)
/-- A grid of the document's that grows: T its variable, L the result. -/
structure QD (E : List (Option Nat)) (W1 w : World) (T L : Nat) (tl : Bool) (eo : Int) (ps : List Pic) (j : Nat) (B : Option Addr) (d m : Nat) (xs : List RD) : Prop where
  tb : Blk w T TD11 #[.slice B m d, .bool tl, .int .i64 eo]
  lb : Blk w L TD11 #[.slice none 0 0, .bool false, .int .i64 0]
  own : ORow w TD8 3 B d m (rdc xs)
  ln : m = xs.length
  rv : xs.map RD.pic = ps.take j
  ok : ∀ x ∈ xs, Kp (some T :: some L :: bk B :: E) w (RDAt x)
  fr : Fr [some T] W1 w
  tl_ : T < W1.heap.size
  ll : L < W1.heap.size
  ne : T ≠ L
  bn : ∀ k, bk B = some k → W1.heap.size ≤ k
  jn : j ≤ ps.length
  old : Old E W1
section
variable {E : List (Option Nat)} {W1 w w' : World} {T L j d m : Nat} {tl : Bool} {eo : Int} {B : Option Addr} {ps : List Pic} {xs : List RD}
theorem QD.len (h : QD E W1 w T L tl eo ps j B d m xs) : m = j := by
  have := congrArg List.length h.rv
  rw [List.length_map, List.length_take, ← h.ln] at this
  have := h.jn
  omega
theorem QD.fr0 (h : QD E W1 w T L tl eo ps j B d m xs) (hf : Fr [] w w') : QD E W1 w' T L tl eo ps j B d m xs :=
  ⟨h.tb.fr hf (by simp), h.lb.fr hf (by simp), ORow.fr h.own hf (.inr List.not_mem_nil), h.ln, h.rv, fun x hx => (h.ok x hx).fr0 hf, h.fr.trans hf.of_nil, h.tl_, h.ll, h.ne, h.bn, h.jn, h.old⟩
theorem QD.oldE (h : QD E W1 w T L tl eo ps j B d m xs) (hf : Fr [] w w') : Old (some T :: some L :: bk B :: E) w' := fun i hi => by
  have hs := h.fr.size
  have hf := hf.size
  rcases List.mem_cons.1 hi with e | e
  · injection e with e; have := h.tl_; omega
  rcases List.mem_cons.1 e with e | e
  · injection e with e; have := h.ll; omega
  rcases List.mem_cons.1 e with e | e
  · have := ORow.lt h.own e.symm; omega
  · have := h.old i e; omega
theorem QD.step {w1 wa w5 : World} {B2 : Option Addr} {d2 : Nat} {x : RD} (h : QD E W1 w T L tl eo ps j B d m xs) (hl : ps[j]? = some x.pic)
    (hk : Kp (some T :: some L :: bk B :: E) w1 (RDAt x)) (h1a : Fr [] w wa) (hfa : Fr [] w1 wa)
    (hr : ORow w5 TD8 3 B2 d2 (m + 1) (rdc xs ++ x.cells)) (hg : Fr [bk B] wa w5) (hb : bk B2 = bk B ∨ bk B2 = some wa.heap.size) :
    QD E W1 (w5.setCell ⟨T, 0, none⟩ (.slice B2 (m + 1) d2)) T L tl eo ps (j + 1) B2 d2 (m + 1) (xs ++ [x]) ∧ Blk w5 T TD11 #[.slice B m d, .bool tl, .int .i64 eo] := by
  have hjl : j < ps.length := by
    rcases Nat.lt_or_ge j ps.length with h | h
    · exact h
    · rw [List.getElem?_eq_none h] at hl; cases hl
  have hlj : ps[j] = x.pic := by rw [List.getElem?_eq_getElem hjl] at hl; injection hl
  have ht : ps.take (j + 1) = ps.take j ++ [x.pic] := by rw [List.take_succ_eq_append_getElem hjl, hlj]
  have hs := h.fr.size
  have hs1 := h1a.size
  have hsa := hfa.size
  have hn : ∀ b, b < W1.heap.size → some b ∉ [bk B] := fun b hb e => by
    rw [List.mem_singleton] at e
    have := h.bn b e.symm
    omega
  have t5 := (h.tb.fr h1a (by simp)).fr hg (hn T h.tl_)
  have l5 := (h.lb.fr h1a (by simp)).fr hg (hn L h.ll)
  have hset : Fr [some T] w5 (w5.setCell ⟨T, 0, none⟩ (.slice B2 (m + 1) d2)) := (Fr.refl _ w5).setB (by simp) 0 _
  have hB2 : ∀ k, bk B2 = some k → W1.heap.size ≤ k := fun k hk => by
    rcases hb with e | e
    · exact h.bn k (e ▸ hk)
    · rw [e] at hk; injection hk with hk; omega
  have fa5 : Fr (some T :: some L :: bk B :: E) wa (w5.setCell ⟨T, 0, none⟩ (.slice B2 (m + 1) d2)) :=
    (hg.weaken fun i _ h => by rw [List.mem_singleton] at h; rw [h]; exact List.mem_cons_of_mem _ (List.mem_cons_of_mem _ (List.mem_cons_self ..))).trans (hset.weaken fun i _ h => by rw [List.mem_singleton] at h; rw [h]; exact List.mem_cons_self ..)
  have hgE : ∀ i, some i ∈ some T :: some L :: bk B2 :: E → some i ∈ some T :: some L :: bk B :: E ∨ wa.heap.size ≤ i := fun i e => by
    rcases List.mem_cons.1 e with e | e
    · exact .inl (by rw [e]; exact List.mem_cons_self ..)
    rcases List.mem_cons.1 e with e | e
    · exact .inl (by rw [e]; exact List.mem_cons_of_mem _ (List.mem_cons_self ..))
    rcases List.mem_cons.1 e with e | e
    · rcases hb with h5 | h5
      · exact .inl (by rw [e, h5]; exact List.mem_cons_of_mem _ (List.mem_cons_of_mem _ (List.mem_cons_self ..)))
      · rw [h5] at e; injection e with e; exact .inr (by omega)
    · exact .inl (List.mem_cons_of_mem _ (List.mem_cons_of_mem _ (List.mem_cons_of_mem _ e)))
  refine ⟨⟨t5.set_ 0 _, l5.fr hset (fun e => by rw [List.mem_singleton] at e; injection e with e; exact h.ne e.symm), ?_, by rw [List.length_append, h.ln]; rfl, ?_, ?_, ?_, h.tl_, h.ll, h.ne, hB2, hjl, h.old⟩, t5⟩
  · rw [rdc_app]
    refine ORow.fr ?_ hset (newS h.tl_ hB2)
    simpa [rdc] using hr
  · rw [ht, List.map_append, h.rv]
    rfl
  · intro y hy
    rcases List.mem_append.1 hy with hy | hy
    · exact ((h.ok y hy).fr0 h1a).grow fa5 hgE
    · rw [List.mem_singleton] at hy
      rw [hy]
      exact (hk.fr0 hfa).grow fa5 hgE
  · refine ((h.fr.trans h1a.of_nil).seq hg fun z hz => ?_).trans hset
    rw [List.mem_singleton] at hz
    subst hz
    cases hB : bk B with
    | none => exact .inr (.inl rfl)
    | some k => exact .inr (.inr ⟨k, h.bn k hB, rfl⟩)
def GDAns (E : List (Option Nat)) (w : World) (ps : List Pic) (tl : Bool) (eo : Int) (en : Ending) (w' : World) : Prop :=
  ∃ x : GD, en = .returned (.agg #[.slice x.B x.m x.d, .bool tl, .int .i64 eo]) ∧ x.pic = (ps, tl, eo) ∧ Kp E w' (GDAt x) ∧ Fr [] w w'
theorem QD.fin {w0 : World} (h : QD E W1 w T L tl eo ps ps.length B d m xs) (h0 : Fr [] w0 W1) (hT : w0.heap.size ≤ T) (hL : w0.heap.size ≤ L) (hw : Fr [some L] w w') :
    GDAns E w0 ps tl eo (.returned (.agg #[.slice B m d, .bool tl, .int .i64 eo])) w' := by
  have hwE : Fr (some T :: some L :: bk B :: E) w w' := hw.weaken fun i _ h => by rw [List.mem_singleton] at h; rw [h]; exact List.mem_cons_of_mem _ (List.mem_cons_self ..)
  have hsub : ∀ i, some i ∈ E → some i ∈ some T :: some L :: bk B :: E := fun i hi => List.mem_cons_of_mem _ (List.mem_cons_of_mem _ (List.mem_cons_of_mem _ hi))
  have hrv := h.rv
  rw [List.take_length] at hrv
  refine ⟨⟨B, m, d, xs, tl, eo⟩, rfl, by show (_, _, _) = _; rw [hrv], fun w'' hf => ⟨?_, h.ln, fun x hx => (((h.ok x hx).fr hwE).sub hsub) w'' hf⟩, (h0.seq h.fr fun z hz => ?_).seq hw fun z hz => ?_⟩
  · refine Sl.fr (Sl.fr (ORow.sl h.own) hw (newS h.ll h.bn)) hf ?_
    cases hB : bk B with
    | none => exact .inl rfl
    | some k =>
      have hk := h.bn k hB
      exact .inr fun e => by have := h.old k e; omega
  · rw [List.mem_singleton] at hz; exact .inr (.inr ⟨T, hT, hz⟩)
  · rw [List.mem_singleton] at hz; exact .inr (.inr ⟨L, hL, hz⟩)
end
set_option maxRecDepth 100000 in
set_option maxHeartbeats 1600000 in
theorem p11_any (E : List (Option Nat)) (w : World) (p : Option Addr) (tl : Bool) (eo : Int) (g m : Nat) (s : List UInt8) (rs : List RW) (hE : Old E w) (ha : ArAt g s w) (ht : TreeAt TN [] w p (rs.map Prod.fst)) (hr : RowsAt [] w s.length rs) (hm : m = rs.length) (hm7 : m ≤ 700)
    (hp : ∀ r ∈ rs, ∀ c ∈ r.2, (plc c.sp).length ≤ 1000000) (hc : ∀ r ∈ rs, r.2.length ≤ 1000000) (hl : s.length ≤ 1000000) :
    Calls Try.prog 11 #[.pointer (some ⟨g, 0, none⟩), .agg #[.pointer p, .bool tl, .int .i64 eo]] w (GDAns E w (rs.map (rpic s)) tl eo) := by
  obtain ⟨W1, hW1⟩ : ∃ W1, W1 = ((w.alloc (.cells #[.pointer p, .bool tl, .int .i64 eo] TGr)).alloc (.cells #[.slice none 0 0, .bool false, .int .i64 0] TD11)).alloc (.cells #[.slice none 0 0, .bool tl, .int .i64 eo] TD11) := ⟨_, rfl⟩
  obtain ⟨T, hT⟩ : ∃ T, T = w.heap.size + 1 + 1 := ⟨_, rfl⟩
  obtain ⟨L, hL⟩ : ∃ L, L = w.heap.size + 1 := ⟨_, rfl⟩
  obtain ⟨G, hG⟩ : ∃ G, G = w.heap.size := ⟨_, rfl⟩
  obtain ⟨ps, hps⟩ : ∃ ps, ps = rs.map (rpic s) := ⟨_, rfl⟩
  rw [← hps]
  have HPS := Lib.hid hps
  have H0 : Hid (Fr [] w W1) := by show Fr _ _ _; rw [hW1]; exact (((Fr.refl [] w).alloc _).alloc _).alloc _
  have HG1 : Hid (Blk W1 G TGr #[.pointer p, .bool tl, .int .i64 eo]) := by show Blk _ _ _ _; rw [hW1, hG]; exact ((Blk.new w TGr _).alloc _).alloc _
  have HST : Hid (QD E W1 W1 T L tl eo ps 0 none 0 0 []) := by
    have b1 := Blk.new (w.alloc (.cells #[.pointer p, .bool tl, .int .i64 eo] TGr)) TD11 #[.slice none 0 0, .bool false, .int .i64 0]
    have b2 := Blk.new ((w.alloc (.cells #[.pointer p, .bool tl, .int .i64 eo] TGr)).alloc (.cells #[.slice none 0 0, .bool false, .int .i64 0] TD11)) TD11 #[.slice none 0 0, .bool tl, .int .i64 eo]
    have b3 := b1.alloc (.cells #[.slice none 0 0, .bool tl, .int .i64 eo] TD11)
    simp only [World.size_alloc] at b2 b3
    rw [← hW1, ← hT] at b2
    rw [← hW1, ← hL] at b3
    exact ⟨b2, b3, ORow.nil_ _ _ _, rfl, rfl, fun x hx => by simp at hx, Fr.refl _ _, b2.lt, b3.lt, by omega, fun k hk => (by cases hk), Nat.zero_le _, hE.fr H0.out⟩
  have HTL : Hid (w.heap.size ≤ T ∧ w.heap.size ≤ L ∧ T ≠ G) := ⟨by omega, by omega, by omega⟩
  have HA := Lib.hid ha
  have HTR := Lib.hid ht
  have HR := Lib.hid hr
  have HM := Lib.hid hm
  have HPL : Hid ((∀ r ∈ rs, ∀ c ∈ r.2, (plc c.sp).length ≤ 1000000) ∧ ∀ r ∈ rs, r.2.length ≤ 1000000) := ⟨hp, hc⟩
  have HLL := Lib.hid hl
  have HM7 := Lib.hid hm7
  have m7 : (m : Int) ≤ 700 := by omega
  have HW1 := Lib.hid hW1
  have HT := Lib.hid hT
  have HL := Lib.hid hL
  have HG0 := Lib.hid hG
  clear hE ha ht hr hm hp hc hl hm7 hW1 hT hL hps hG
  go_enter Try.func11, Try.ntmps11
  go_wp2_with fail
  rw [← HW1.out, ← HT.out, ← HL.out, ← HG0.out]
  go_loopw [6] (fun iv wr => ∃ (j k n : Nat) (A : Option Addr) (xs : List RD), iv = .int .i64 j ∧ j ≤ m ∧ Hid (QD E W1 wr T L tl eo ps j A n k xs)) (fun iv _ => m - (intOf iv).toNat)
  case atStart => exact ⟨0, 0, 0, none, [], rfl, Nat.zero_le _, HST.out⟩
  case round =>
    clear HST
    obtain ⟨j, k, n, A, xs, rfl, hj, HD⟩ := hrel
    have HFW : Hid (Fr [] w wr) := H0.out.seq HD.out.fr fun z hz => by rw [List.mem_singleton] at hz; exact .inr (.inr ⟨T, HTL.out.1, hz⟩)
    have HGB : Hid (Blk wr G TGr #[.pointer p, .bool tl, .int .i64 eo]) := HG1.out.fr HD.out.fr (fun e => by rw [List.mem_singleton] at e; injection e with e; exact HTL.out.2.2 e.symm)
    have HLEN : Hid (∀ w', Fr [] wr w' → Calls Try.prog 13 #[.agg #[.pointer p, .bool tl, .int .i64 eo]] w' fun en w'' => en = .returned (.int .i64 (m : Nat)) ∧ Fr [] w' w'') := by
      show ∀ _, _
      intro w' hf
      have := glen_any [] p (rs.map Prod.fst) tl eo w' (HTR.out.fr0 (HFW.out.trans hf))
      rw [List.length_map, ← HM.out] at this
      exact this
    have g0 : wr.cell? ⟨G, 0, none⟩ = some (.pointer p) := HGB.out.cell 0
    have g1 : wr.cell? ⟨G, 1, none⟩ = some (.bool tl) := HGB.out.cell 1
    have g2 : wr.cell? ⟨G, 2, none⟩ = some (.int .i64 eo) := HGB.out.cell 2
    by_cases hlt : j < m
    · have hjl : j < rs.length := by rw [← HM.out]; exact hlt
      obtain ⟨x, hx⟩ : ∃ x, x = rs[j] := ⟨_, rfl⟩
      have hxm : x ∈ rs := by rw [hx]; exact List.getElem_mem hjl
      have hxg : rs[j]? = some x := by rw [List.getElem?_eq_getElem hjl, hx]
      have hxf : (rs.map Prod.fst)[j]? = some x.1 := by rw [List.getElem?_map, hxg]; rfl
      have HXF0 : ps[j]? = some (rpic s x) := by rw [HPS.out, List.getElem?_map, hxg]; rfl
      obtain ⟨r1, r2, r3⟩ := HR.out x hxm
      have HXP := HPL.out.1 x hxm
      have HXN := HPL.out.2 x hxm
      have HXR : Hid (∀ w', Fr [] w w' → RowAt s.length x.1.A x.2 w') := fun w' hf => r3 w' hf
      obtain ⟨⟨FB, fm, fd, fe, fh⟩, rcs⟩ := x
      obtain ⟨cs, hcs⟩ : ∃ cs, cs = rcs.map (ccell s) := ⟨_, rfl⟩
      have HXF : Hid (ps[j]? = some (cs, fe, fh)) := by show _ = _; rw [HXF0, hcs]; rfl
      have HROW : Hid (∀ w', Fr [] wr w' → Calls Try.prog 35 #[.agg #[.pointer p, .bool tl, .int .i64 eo], .int .i64 (j : Nat)] w' fun e w'' => e = .returned (.tuple #[.agg #[.slice FB fm fd, .int .i64 fe, .bool fh], .bool true]) ∧ Fr [] w' w'') := by
        show ∀ _, _
        intro w' hf
        exact grow_any p (rs.map Prod.fst) tl eo j ⟨FB, fm, fd, fe, fh⟩ w' (HTR.out.fr0 (HFW.out.trans hf)) hxf (by rw [List.length_map]; have := HM.out; have := HM7.out; omega)
      have HC0 : Hid (∀ w', Fr [] wr w' → Calls Try.prog 36 #[.pointer (some ⟨g, 0, none⟩), .agg #[.slice FB fm fd, .int .i64 fe, .bool fh]] w' (P8Ans w' cs fe fh)) := by
        show ∀ _, _
        intro w' hf
        rw [hcs]
        exact p8_any w' g fm fd fe fh FB rcs s (HA.out.fr0 (HFW.out.trans hf)) (HXR.out w' (HFW.out.trans hf)) r1 HXP HLL.out (by simp only at r1 HXN; omega)
      have HN9 : Hid (k ≤ 1000) := by show _ ≤ _; have := HD.out.len; have := HM7.out; omega
      have i0 : (0 : Int) ≤ (j : Int) := by omega
      have i1 : (j : Int) < (m : Int) := by omega
      have i2 : (j : Int) < 1000 := by omega
      clear hx hxm hxg hxf HXF0 r1 r2 r3 HXP HXN hcs hjl
      go_wp2_with fail
      refine (HLEN.out wr (Fr.refl _ _)).mono ?_
      rintro en w1 ⟨rfl, hf1⟩
      have hgb := HGB.out.fr hf1 (by simp)
      have g0 : w1.cell? ⟨G, 0, none⟩ = some (.pointer p) := hgb.cell 0
      have g1 : w1.cell? ⟨G, 1, none⟩ = some (.bool tl) := hgb.cell 1
      have g2 : w1.cell? ⟨G, 2, none⟩ = some (.int .i64 eo) := hgb.cell 2
      have HF1 := Lib.hid hf1
      clear hgb hf1 HLEN HGB
      go_wp2_with fail
      refine (HROW.out w1 HF1.out).mono ?_
      rintro en w2 ⟨rfl, hf2⟩
      have HF2 := Lib.hid (HF1.out.trans hf2)
      have HWA : Hid (∀ wa, wa = w2.alloc (.cells #[.slice FB fm fd, .int .i64 fe, .bool fh] TRow) → Fr [] wr wa ∧ Blk wa w2.heap.size TRow #[.slice FB fm fd, .int .i64 fe, .bool fh]) := by
        show ∀ _, _
        rintro wa rfl
        exact ⟨HF2.out.alloc _, Blk.new w2 TRow _⟩
      clear g0 g1 g2 HF1 hf2 HROW
      go_wp2_with fail
      obtain ⟨wa, hwa⟩ : ∃ wa, wa = w2.alloc (.cells #[.slice FB fm fd, .int .i64 fe, .bool fh] TRow) := ⟨_, rfl⟩
      obtain ⟨k1, k2⟩ := HWA.out wa hwa
      rw [← hwa]
      obtain ⟨X, hX⟩ : ∃ X, X = w2.heap.size := ⟨_, rfl⟩
      rw [← hX] at k2 ⊢
      have HXK := Lib.hid k2
      have HNE : Hid (T ≠ X) := by show _ ≠ _; have := HD.out.tb.lt; have := HF2.out.size; omega
      have hne : ¬ T = X := HNE.out
      have HP := Lib.hid (HD.out.fr0 k1)
      have HTB : Hid (∀ w', Fr [] wa w' → Blk w' T TD11 #[.slice A k n, .bool tl, .int .i64 eo]) := by
        show ∀ _, _
        intro w' hf
        exact HP.out.tb.fr hf (by simp)
      have HS : Hid (∀ w', Fr [] wa w' → w'.cell? ⟨X, 0, none⟩ = some (.slice FB fm fd) ∧ w'.cell? ⟨X, 1, none⟩ = some (.int .i64 fe) ∧ w'.cell? ⟨X, 2, none⟩ = some (.bool fh)) := by
        show ∀ _, _
        intro w' hf
        have q := HXK.out.fr hf (by simp)
        exact ⟨q.cell 0, q.cell 1, q.cell 2⟩
      have HC : Hid (∀ w', Fr [] wa w' → Calls Try.prog 36 #[.pointer (some ⟨g, 0, none⟩), .agg #[.slice FB fm fd, .int .i64 fe, .bool fh]] w' (P8Ans w' cs fe fh)) := by
        show ∀ _, _
        intro w' hf
        exact HC0.out w' (k1.trans hf)
      clear hwa hX k2 HWA HC0 HFW HD k1 HF2
      have hF := (Fr.refl [] wa).drew
      refine wp_region_noPanic ?_
      refine wp_region_held_drew (S := (fun w' => w'.cell? ⟨X, 0, none⟩ = some (.slice FB fm fd) ∧ w'.cell? ⟨X, 1, none⟩ = some (.int .i64 fe) ∧ w'.cell? ⟨X, 2, none⟩ = some (.bool fh))) (by kernel_rfl) (HS.out _ ((Fr.refl [] wa).drew)) (fun hHeld => ?_)
      refine wpAnyH_take (i := 0) (oi := _) (v := ?_) rfl (by kernel_rfl) (by kernel_rfl) (by kernel_rfl) (fun _ _ _ h => h) (Or.inl ⟨by rfl, ?_⟩) (by assumption) ?_
      rotate_left
      · intro w hSw
        (try dsimp only at hSw)
        go_simp
        try with_reducible rfl
      try simp only [Act.put, List.setIfInBounds_toArray, List.set_cons_zero, List.set_cons_succ]
      refine wpAnyH_take (i := 2) (oi := _) (v := ?_) rfl (by kernel_rfl) (by kernel_rfl) (by kernel_rfl) (fun _ _ _ h => h) (Or.inl ⟨by rfl, ?_⟩) (by assumption) ?_
      rotate_left
      · intro w hSw
        (try dsimp only at hSw)
        go_simp
        try with_reducible rfl
      try simp only [Act.put, List.setIfInBounds_toArray, List.set_cons_zero, List.set_cons_succ]
      refine wpAnyH_take (i := 3) (oi := _) (v := ?_) rfl (by kernel_rfl) (by kernel_rfl) (by kernel_rfl) (fun _ _ _ h => h) (Or.inl ⟨by rfl, ?_⟩) (by assumption) ?_
      rotate_left
      · intro w hSw
        (try dsimp only at hSw)
        go_simp
        try with_reducible rfl
      try simp only [Act.put, List.setIfInBounds_toArray, List.set_cons_zero, List.set_cons_succ]
      refine wpAnyH_ready (rs := [1, 4]) (by kernel_rfl) (by simp) ?_
      refine AllReadyH.cons rfl (fun K hK => ?_) (AllReadyH.cons rfl (fun K hK => ?_) AllReadyH.nil)
      · have t0 := (HTB.out _ hF).cell 0
        go_simp
        refine hK.out _ _ (HS.out _ hF) (fun hHeld => ?_)
        clear hK K
        try simp only [Act.put, List.setIfInBounds_toArray, List.set_cons_zero, List.set_cons_succ]
        clear t0
        refine wpAnyH_ready (rs := [4]) (by kernel_rfl) (by simp) ?_
        refine AllReadyH.cons rfl (fun K hK => ?_) AllReadyH.nil
        refine step_call _ (by rfl) 36 #[.pointer (some ⟨g, 0, none⟩), .agg #[.slice FB fm fd, .int .i64 fe, .bool fh]] (by go_simp) _ (HC.out _ hF) (by rintro e w' ⟨_, _, _, he, _⟩; exact ⟨_, he⟩) ?_
        intro v4 w4 hans
        obtain ⟨NB, nm, nd, hv4, hnm, hnk, hf4⟩ := hans
        injection hv4 with hv4
        subst hv4
        have hO := HP.out.oldE hF
        have hk4 := hnk _ hO
        have HK4 : Hid (nm = cs.length ∧ Kp (some T :: some L :: bk A :: E) w4 (RDAt ⟨NB, nm, nd, cs, fe, fh⟩)) := ⟨hnm, fun w'' hf => ⟨hk4 w'' hf, hnm⟩⟩
        have hF := hF.trans hf4
        have hG := Fr.refl [] w4
        clear hf4 hnm hnk hO hk4
        try go_simp
        refine hK.out _ _ (HS.out _ hF) (fun hHeld => ?_)
        clear hK K
        try simp only [Act.put, List.setIfInBounds_toArray, List.set_cons_zero, List.set_cons_succ]
        refine wpAnyH_ready (rs := [5]) (by kernel_rfl) (by simp) ?_
        refine AllReadyH.cons rfl (fun K hK => ?_) AllReadyH.nil
        have hF := hF.alloc (.cells #[.slice NB nm nd, .int .i64 fe, .bool fh] TD8)
        have hG := hG.alloc (.cells #[.slice NB nm nd, .int .i64 fe, .bool fh] TD8)
        go_simp
        refine hK.out _ _ (HS.out _ hF) (fun hHeld => ?_)
        clear hK K
        try simp only [Act.put, List.setIfInBounds_toArray, List.set_cons_zero, List.set_cons_succ]
        refine wpAnyH_ready (rs := [6]) (by kernel_rfl) (by simp) ?_
        refine AllReadyH.cons rfl (fun K hK => ?_) AllReadyH.nil
        refine step_app _ (by rfl) _ _ 33 TD8 (by rfl) (Value.agg #[.slice none 0 0, .int .i64 0, .bool false]) 3 40 Try.underlying33 infoD8 rfl (by decide) A n k (rdc xs) (by rfl) (ORow.fr HP.out.own hF (.inr List.not_mem_nil)) _ 1 1 [.slice NB nm nd, .int .i64 fe, .bool fh] (by rfl) rfl (by exact blk_sl (Blk.new w4 TD8 _) 3) (by simp [Value.oneCell']) (by have := HN9.out; simp only [maxLen]; omega) (by have := HN9.out; omega) ?_
        intro A2 c2 w5 hr2 hg2 hb2
        have hx := HP.out.step (x := ⟨NB, nm, nd, cs, fe, fh⟩) HXF.out HK4.out.2 hF hG hr2 hg2 hb2
        have HX5 := Lib.hid hx.1
        have g0 : w5.cell? ⟨T, 0, none⟩ = some (.slice A k n) := hx.2.cell 0
        have z0 := hx.2.frozen 0
        have lg := hx.2.lt
        have HS5 : Hid (∀ W, W = w5 ∨ W = w5.setCell ⟨T, 0, none⟩ (.slice A2 (k + 1) c2) → W.cell? ⟨X, 0, none⟩ = some (.slice FB fm fd) ∧ W.cell? ⟨X, 1, none⟩ = some (.int .i64 fe) ∧ W.cell? ⟨X, 2, none⟩ = some (.bool fh)) := by
          have hxA : some X ∉ [bk A] := fun e => by
            rw [List.mem_singleton] at e
            rcases ORow.neB HP.out.own HXK.out (by decide) with h | h
            · rw [h] at e; cases e
            · exact h e.symm
          have q5 := (HXK.out.fr hF (by simp)).fr hg2 hxA
          have q6 := q5.far (p := ⟨T, 0, none⟩) (fun e => HNE.out e.symm) (.slice A2 (k + 1) c2)
          show ∀ _, _
          rintro W (rfl | rfl)
          · exact ⟨q5.cell 0, q5.cell 1, q5.cell 2⟩
          · exact ⟨q6.cell 0, q6.cell 1, q6.cell 2⟩
        clear hr2 hg2 hb2 hx hF hG
        try go_simp
        refine hK.out _ _ (HS5.out _ (.inl rfl)) (fun hHeld => ?_)
        clear hK K
        try simp only [Act.put, List.setIfInBounds_toArray, List.set_cons_zero, List.set_cons_succ]
        refine wpAnyH_take (i := 7) (oi := _) (v := ?_) rfl (by kernel_rfl) (by kernel_rfl) (by kernel_rfl) (fun _ _ _ h => h) (Or.inl ⟨by rfl, ?_⟩) (by assumption) ?_
        rotate_left
        · intro w hSw
          (try dsimp only at hSw)
          go_simp
          try with_reducible rfl
        try simp only [Act.put, List.setIfInBounds_toArray, List.set_cons_zero, List.set_cons_succ]
        refine wpAnyH_ready (rs := [8]) (by kernel_rfl) (by simp) ?_
        refine AllReadyH.cons rfl (fun K hK => ?_) AllReadyH.nil
        go_simp
        refine hK.out _ _ (HS5.out _ (.inr rfl)) (fun hHeld => ?_)
        clear hK K
        try simp only [Act.put, List.setIfInBounds_toArray, List.set_cons_zero, List.set_cons_succ]
        refine wpAnyH_done (by kernel_rfl) ?_ _
        refine NoPanic.normal ?_
        clear hHeld g0 z0 lg
        go_wp2_with fail
        go_roundw
        case rel => exact ⟨j + 1, k + 1, c2, A2, _, by go_num, by omega, HX5.out⟩
        case measure => simp [intOf]; omega
      · refine step_call _ (by rfl) 36 #[.pointer (some ⟨g, 0, none⟩), .agg #[.slice FB fm fd, .int .i64 fe, .bool fh]] (by go_simp) _ (HC.out _ hF) (by rintro e w' ⟨_, _, _, he, _⟩; exact ⟨_, he⟩) ?_
        intro v4 w4 hans
        obtain ⟨NB, nm, nd, hv4, hnm, hnk, hf4⟩ := hans
        injection hv4 with hv4
        subst hv4
        have hO := HP.out.oldE hF
        have hk4 := hnk _ hO
        have HK4 : Hid (nm = cs.length ∧ Kp (some T :: some L :: bk A :: E) w4 (RDAt ⟨NB, nm, nd, cs, fe, fh⟩)) := ⟨hnm, fun w'' hf => ⟨hk4 w'' hf, hnm⟩⟩
        have hF := hF.trans hf4
        have hG := Fr.refl [] w4
        clear hf4 hnm hnk hO hk4
        try go_simp
        refine hK.out _ _ (HS.out _ hF) (fun hHeld => ?_)
        clear hK K
        try simp only [Act.put, List.setIfInBounds_toArray, List.set_cons_zero, List.set_cons_succ]
        refine wpAnyH_ready (rs := [1, 5]) (by kernel_rfl) (by simp) ?_
        refine AllReadyH.cons rfl (fun K hK => ?_) (AllReadyH.cons rfl (fun K hK => ?_) AllReadyH.nil)
        · have t0 := (HTB.out _ hF).cell 0
          go_simp
          refine hK.out _ _ (HS.out _ hF) (fun hHeld => ?_)
          clear hK K
          try simp only [Act.put, List.setIfInBounds_toArray, List.set_cons_zero, List.set_cons_succ]
          clear t0
          refine wpAnyH_ready (rs := [5]) (by kernel_rfl) (by simp) ?_
          refine AllReadyH.cons rfl (fun K hK => ?_) AllReadyH.nil
          have hF := hF.alloc (.cells #[.slice NB nm nd, .int .i64 fe, .bool fh] TD8)
          have hG := hG.alloc (.cells #[.slice NB nm nd, .int .i64 fe, .bool fh] TD8)
          go_simp
          refine hK.out _ _ (HS.out _ hF) (fun hHeld => ?_)
          clear hK K
          try simp only [Act.put, List.setIfInBounds_toArray, List.set_cons_zero, List.set_cons_succ]
          refine wpAnyH_ready (rs := [6]) (by kernel_rfl) (by simp) ?_
          refine AllReadyH.cons rfl (fun K hK => ?_) AllReadyH.nil
          refine step_app _ (by rfl) _ _ 33 TD8 (by rfl) (Value.agg #[.slice none 0 0, .int .i64 0, .bool false]) 3 40 Try.underlying33 infoD8 rfl (by decide) A n k (rdc xs) (by rfl) (ORow.fr HP.out.own hF (.inr List.not_mem_nil)) _ 1 1 [.slice NB nm nd, .int .i64 fe, .bool fh] (by rfl) rfl (by exact blk_sl (Blk.new w4 TD8 _) 3) (by simp [Value.oneCell']) (by have := HN9.out; simp only [maxLen]; omega) (by have := HN9.out; omega) ?_
          intro A2 c2 w5 hr2 hg2 hb2
          have hx := HP.out.step (x := ⟨NB, nm, nd, cs, fe, fh⟩) HXF.out HK4.out.2 hF hG hr2 hg2 hb2
          have HX5 := Lib.hid hx.1
          have g0 : w5.cell? ⟨T, 0, none⟩ = some (.slice A k n) := hx.2.cell 0
          have z0 := hx.2.frozen 0
          have lg := hx.2.lt
          have HS5 : Hid (∀ W, W = w5 ∨ W = w5.setCell ⟨T, 0, none⟩ (.slice A2 (k + 1) c2) → W.cell? ⟨X, 0, none⟩ = some (.slice FB fm fd) ∧ W.cell? ⟨X, 1, none⟩ = some (.int .i64 fe) ∧ W.cell? ⟨X, 2, none⟩ = some (.bool fh)) := by
            have hxA : some X ∉ [bk A] := fun e => by
              rw [List.mem_singleton] at e
              rcases ORow.neB HP.out.own HXK.out (by decide) with h | h
              · rw [h] at e; cases e
              · exact h e.symm
            have q5 := (HXK.out.fr hF (by simp)).fr hg2 hxA
            have q6 := q5.far (p := ⟨T, 0, none⟩) (fun e => HNE.out e.symm) (.slice A2 (k + 1) c2)
            show ∀ _, _
            rintro W (rfl | rfl)
            · exact ⟨q5.cell 0, q5.cell 1, q5.cell 2⟩
            · exact ⟨q6.cell 0, q6.cell 1, q6.cell 2⟩
          clear hr2 hg2 hb2 hx hF hG
          try go_simp
          refine hK.out _ _ (HS5.out _ (.inl rfl)) (fun hHeld => ?_)
          clear hK K
          try simp only [Act.put, List.setIfInBounds_toArray, List.set_cons_zero, List.set_cons_succ]
          refine wpAnyH_take (i := 7) (oi := _) (v := ?_) rfl (by kernel_rfl) (by kernel_rfl) (by kernel_rfl) (fun _ _ _ h => h) (Or.inl ⟨by rfl, ?_⟩) (by assumption) ?_
          rotate_left
          · intro w hSw
            (try dsimp only at hSw)
            go_simp
            try with_reducible rfl
          try simp only [Act.put, List.setIfInBounds_toArray, List.set_cons_zero, List.set_cons_succ]
          refine wpAnyH_ready (rs := [8]) (by kernel_rfl) (by simp) ?_
          refine AllReadyH.cons rfl (fun K hK => ?_) AllReadyH.nil
          go_simp
          refine hK.out _ _ (HS5.out _ (.inr rfl)) (fun hHeld => ?_)
          clear hK K
          try simp only [Act.put, List.setIfInBounds_toArray, List.set_cons_zero, List.set_cons_succ]
          refine wpAnyH_done (by kernel_rfl) ?_ _
          refine NoPanic.normal ?_
          clear hHeld g0 z0 lg
          go_wp2_with fail
          go_roundw
          case rel => exact ⟨j + 1, k + 1, c2, A2, _, by go_num, by omega, HX5.out⟩
          case measure => simp [intOf]; omega
        · have hF := hF.alloc (.cells #[.slice NB nm nd, .int .i64 fe, .bool fh] TD8)
          have hG := hG.alloc (.cells #[.slice NB nm nd, .int .i64 fe, .bool fh] TD8)
          go_simp
          refine hK.out _ _ (HS.out _ hF) (fun hHeld => ?_)
          clear hK K
          try simp only [Act.put, List.setIfInBounds_toArray, List.set_cons_zero, List.set_cons_succ]
          refine wpAnyH_ready (rs := [1]) (by kernel_rfl) (by simp) ?_
          refine AllReadyH.cons rfl (fun K hK => ?_) AllReadyH.nil
          have t0 := (HTB.out _ hF).cell 0
          go_simp
          refine hK.out _ _ (HS.out _ hF) (fun hHeld => ?_)
          clear hK K
          try simp only [Act.put, List.setIfInBounds_toArray, List.set_cons_zero, List.set_cons_succ]
          clear t0
          refine wpAnyH_ready (rs := [6]) (by kernel_rfl) (by simp) ?_
          refine AllReadyH.cons rfl (fun K hK => ?_) AllReadyH.nil
          refine step_app _ (by rfl) _ _ 33 TD8 (by rfl) (Value.agg #[.slice none 0 0, .int .i64 0, .bool false]) 3 40 Try.underlying33 infoD8 rfl (by decide) A n k (rdc xs) (by rfl) (ORow.fr HP.out.own hF (.inr List.not_mem_nil)) _ 1 1 [.slice NB nm nd, .int .i64 fe, .bool fh] (by rfl) rfl (by exact blk_sl (Blk.new w4 TD8 _) 3) (by simp [Value.oneCell']) (by have := HN9.out; simp only [maxLen]; omega) (by have := HN9.out; omega) ?_
          intro A2 c2 w5 hr2 hg2 hb2
          have hx := HP.out.step (x := ⟨NB, nm, nd, cs, fe, fh⟩) HXF.out HK4.out.2 hF hG hr2 hg2 hb2
          have HX5 := Lib.hid hx.1
          have g0 : w5.cell? ⟨T, 0, none⟩ = some (.slice A k n) := hx.2.cell 0
          have z0 := hx.2.frozen 0
          have lg := hx.2.lt
          have HS5 : Hid (∀ W, W = w5 ∨ W = w5.setCell ⟨T, 0, none⟩ (.slice A2 (k + 1) c2) → W.cell? ⟨X, 0, none⟩ = some (.slice FB fm fd) ∧ W.cell? ⟨X, 1, none⟩ = some (.int .i64 fe) ∧ W.cell? ⟨X, 2, none⟩ = some (.bool fh)) := by
            have hxA : some X ∉ [bk A] := fun e => by
              rw [List.mem_singleton] at e
              rcases ORow.neB HP.out.own HXK.out (by decide) with h | h
              · rw [h] at e; cases e
              · exact h e.symm
            have q5 := (HXK.out.fr hF (by simp)).fr hg2 hxA
            have q6 := q5.far (p := ⟨T, 0, none⟩) (fun e => HNE.out e.symm) (.slice A2 (k + 1) c2)
            show ∀ _, _
            rintro W (rfl | rfl)
            · exact ⟨q5.cell 0, q5.cell 1, q5.cell 2⟩
            · exact ⟨q6.cell 0, q6.cell 1, q6.cell 2⟩
          clear hr2 hg2 hb2 hx hF hG
          try go_simp
          refine hK.out _ _ (HS5.out _ (.inl rfl)) (fun hHeld => ?_)
          clear hK K
          try simp only [Act.put, List.setIfInBounds_toArray, List.set_cons_zero, List.set_cons_succ]
          refine wpAnyH_take (i := 7) (oi := _) (v := ?_) rfl (by kernel_rfl) (by kernel_rfl) (by kernel_rfl) (fun _ _ _ h => h) (Or.inl ⟨by rfl, ?_⟩) (by assumption) ?_
          rotate_left
          · intro w hSw
            (try dsimp only at hSw)
            go_simp
            try with_reducible rfl
          try simp only [Act.put, List.setIfInBounds_toArray, List.set_cons_zero, List.set_cons_succ]
          refine wpAnyH_ready (rs := [8]) (by kernel_rfl) (by simp) ?_
          refine AllReadyH.cons rfl (fun K hK => ?_) AllReadyH.nil
          go_simp
          refine hK.out _ _ (HS5.out _ (.inr rfl)) (fun hHeld => ?_)
          clear hK K
          try simp only [Act.put, List.setIfInBounds_toArray, List.set_cons_zero, List.set_cons_succ]
          refine wpAnyH_done (by kernel_rfl) ?_ _
          refine NoPanic.normal ?_
          clear hHeld g0 z0 lg
          go_wp2_with fail
          go_roundw
          case rel => exact ⟨j + 1, k + 1, c2, A2, _, by go_num, by omega, HX5.out⟩
          case measure => simp [intOf]; omega
    · obtain rfl : j = m := by omega
      have HEND : Hid (∀ w', Fr [some L] wr w' → GDAns E w ps tl eo (.returned (.agg #[.slice A k n, .bool tl, .int .i64 eo])) w') := by
        show ∀ _, _
        intro w' hf
        have hjx : j = ps.length := by rw [HPS.out, List.length_map]; exact HM.out
        have hd := HD.out
        rw [hjx] at hd
        exact hd.fin H0.out HTL.out.1 HTL.out.2.1 hf
      go_wp2_with fail
      refine (HLEN.out wr (Fr.refl _ _)).mono ?_
      rintro en w1 ⟨rfl, hf1⟩
      have hD := HD.out.fr0 hf1
      have t0 : w1.cell? ⟨T, 0, none⟩ = some (.slice A k n) := hD.tb.cell 0
      have t1 : w1.cell? ⟨T, 1, none⟩ = some (.bool tl) := hD.tb.cell 1
      have t2 : w1.cell? ⟨T, 2, none⟩ = some (.int .i64 eo) := hD.tb.cell 2
      have l0 : w1.cell? ⟨L, 0, none⟩ = some (.slice none 0 0) := hD.lb.cell 0
      have l1 : w1.cell? ⟨L, 1, none⟩ = some (.bool false) := hD.lb.cell 1
      have l2 : w1.cell? ⟨L, 2, none⟩ = some (.int .i64 0) := hD.lb.cell 2
      have z0 := hD.lb.frozen 0
      have z1 := hD.lb.frozen 1
      have z2 := hD.lb.frozen 2
      have ll := hD.lb.lt
      have HF1 := Lib.hid hf1
      clear hD hf1 g0 g1 g2
      go_wp2_with fail
      refine bodyPost_ret (v := .agg #[.slice A k n, .bool tl, .int .i64 eo]) (by simp [results, Try.results11, go_sem, *]) rfl ?_
      exact HEND.out _ ((((HF1.out.of_nil.setB (fun _ => by simp) _ _).setB (fun _ => by simp) _ _).setB (fun _ => by simp) _ _))
end Go.Proofs.Ytblafakafgediaa
