import Derived.Test.YtblafakafgediaaH48
import Derived.Lib.SlBytesConst
namespace Go.Proofs.Ytblafakafgediaa
open Go.RowKit Go.Proofs.Dm

set_option maxHeartbeats 800000 in
theorem cut_k (w : World) (s : List UInt8) (k : Nat) (hk : k ≤ 100000) : Calls Try.prog 7 #[.string ⟨s.toArray⟩, .int .i64 (k : Nat)] w fun e w' => e = .returned (.string ⟨(s.take k).toArray⟩) ∧ w = w' := by
  have HC : Hid ((⟨s.toArray⟩ : ByteArray).extract 0 k = ⟨(s.take k).toArray⟩) := by show _ = _; rw [str_cut, List.drop_zero]
  by_cases h : k < s.length
  · have h1 : (k : Int) < (s.length : Int) := by omega
    have h2 : (k : Int) ≤ (s.length : Int) := by omega
    have h3 : (0 : Int) ≤ (k : Int) := by omega
    clear h
    go_enter Try.func7, Try.ntmps7
    go_wp2_with fail
    go_ret
    rw [HC.out]
    exact ⟨rfl, rfl⟩
  · have h1 : ¬ (k : Int) < (s.length : Int) := by omega
    have ht : s.take k = s := List.take_of_length_le (by omega)
    rw [ht]
    clear h HC ht
    go_enter Try.func7, Try.ntmps7
    go_wp2_with fail
    go_ret
    exact ⟨rfl, rfl⟩
def BegunAns (w : World) (s : List UInt8) (en : Ending) (w' : World) : Prop :=
  ∃ (g : Nat) (p : Option Addr) (tl : Bool) (eo : Int) (sA : List UInt8) (rs : List RW) (x : GD), en = .returned (.tuple #[.agg #[.pointer p, .bool tl, .int .i64 eo], .pointer (some ⟨g, 0, none⟩), .agg #[.slice x.B x.m x.d, .bool x.t, .int .i64 x.e], .bool (decide (loadErrP s = 0))]) ∧ PG s g p tl eo sA rs w' ∧ x.pic = docPic s ∧ GDAt x w' ∧ Fr [] w w'
theorem GDAt.fr0 {x : GD} {w w' : World} (h : GDAt x w) (hf : Fr [] w w') : GDAt x w' :=
  ⟨h.1.fr hf (.inr List.not_mem_nil), h.2.1, fun r hr => ⟨(h.2.2 r hr).1.fr hf (.inr List.not_mem_nil), (h.2.2 r hr).2⟩⟩
def GLAnsE (E : List (Option Nat)) (w : World) (s : List UInt8) (en : Ending) (w' : World) : Prop :=
  ∃ (g : Nat) (p : Option Addr) (tl : Bool) (eo : Int) (sA : List UInt8) (rs : List RW), en = .returned (.tuple #[.agg #[.pointer p, .bool tl, .int .i64 eo], .pointer (some ⟨g, 0, none⟩), .int .i64 (loadErrP s : Nat)]) ∧ Kp E w' (PG s g p tl eo sA rs) ∧ Fr [] w w'
theorem gload_allE (E : List (Option Nat)) (w : World) (A : Option Addr) (n c : Nat) (s : List UInt8) (hE : Old E w) (hA : Sl w A (bts s)) (hn : n = s.length) (hs : s.length ≤ 5000) : Calls Try.prog 8 #[.slice A n c] w (GLAnsE E w s) := by
  have key : Calls Try.prog 8 #[.slice A n c] w (LoadAns E w s) := by
    rcases Nat.lt_or_ge 4096 n with h | h
    · exact gload_big E w A n c s hE hn h (by omega)
    · exact gload_any E w A n c s hE hA hn h
  refine key.mono ?_
  rintro en w' (⟨h0, g, he, hg, hf⟩ | ⟨h0, g, p, rs, he, ha, ht, hr, hv, hf⟩)
  · refine ⟨g, none, false, 2, [], [], he, fun w'' h => ⟨hg w'' h, .inl ⟨rfl, rfl⟩, fun r hr => by simp at hr, ?_, fun _ => ⟨rfl, rfl, rfl, rfl⟩, fun h => absurd h h0⟩, hf⟩
    unfold docPic
    rw [if_neg h0]
    rfl
  · refine ⟨g, p, _, _, s, rs, by rw [h0]; exact he, fun w'' h => ⟨ha w'' h, (ht.fr h).grow (E' := []) (Fr.refl _ _) fun k hk => by simp at hk, hr.grow h fun k hk => by simp at hk, ?_, fun h => absurd h0 h, fun _ => ⟨rfl, hv, rfl, rfl, ?_⟩⟩, hf⟩
    · unfold docPic
      rw [if_pos h0, rpics s rs (allLines s) hv]
    · unfold loadErrP at h0
      split at h0
      · cases h0
      · split at h0
        · cases h0
        · omega
def DGAnsE (E : List (Option Nat)) (w : World) (s : List UInt8) (en : Ending) (w' : World) : Prop :=
  ∃ x : GD, en = .returned (.tuple #[.agg #[.slice x.B x.m x.d, .bool x.t, .int .i64 x.e], .int .i64 (loadErrP s : Nat)]) ∧ x.pic = docPic s ∧ Kp E w' (GDAt x) ∧ Fr [] w w'
theorem dload_allE (E : List (Option Nat)) (w : World) (s : List UInt8) (hE : Old E w) (hs : s.length ≤ 5000) : Calls Try.prog 9 #[.string ⟨s.toArray⟩] w (DGAnsE E w s) := by
  have key : Calls Try.prog 9 #[.string ⟨s.toArray⟩] w (D11Ans E w s) := by
    rcases Nat.lt_or_ge 4096 s.length with h | h
    · exact d11load_big E w s h (by omega)
    · exact d11load_any E w s hE h
  refine key.mono ?_
  rintro en w' (⟨h0, he, hf⟩ | ⟨h0, B, m, d, rs, he, hm, hv, hk, hf⟩)
  · refine ⟨⟨none, 0, 0, [], false, 2⟩, he, ?_, fun w'' _ => ⟨.inl rfl, rfl, fun x hx => by simp at hx⟩, hf⟩
    unfold docPic
    rw [if_neg h0]
    rfl
  · refine ⟨⟨B, m, d, rs, _, _⟩, by rw [h0]; exact he, ?_, fun w'' h => ⟨(hk w'' h).1, hm, (hk w'' h).2⟩, hf⟩
    unfold docPic
    rw [if_pos h0, ← hv]
    rfl
set_option maxRecDepth 100000 in
set_option maxHeartbeats 1600000 in
theorem begun_any (w : World) (s : List UInt8) (hs : s.length ≤ 5000) : Calls Try.prog 16 #[.string ⟨s.toArray⟩] w (BegunAns w s) := by
  have HS := Lib.hid hs
  obtain ⟨n, hn⟩ : ∃ n, n = loadErrP s := ⟨_, rfl⟩
  have HN := Lib.hid hn
  obtain ⟨c0, wb, hcv, hfb, hsb, _, _⟩ := run_bytes (P := Try.prog) ((w.alloc (.cells #[.pointer none, .bool false, .int .i64 0] TGr)).alloc (.cells #[.slice none 0 0, .bool false, .int .i64 0] TD11)) 9 32 TU8 ⟨s.toArray⟩ Try.underlying9 Try.underlying32 Try.underlying5
  have HB : Hid (Fr [] w wb ∧ Sl wb (some ⟨w.heap.size + 1 + 1, 0, none⟩) (bts s) ∧ Blk wb w.heap.size TGr #[.pointer none, .bool false, .int .i64 0] ∧ Blk wb (w.heap.size + 1) TD11 #[.slice none 0 0, .bool false, .int .i64 0]) := by
    have b2 := Blk.new (w.alloc (.cells #[.pointer none, .bool false, .int .i64 0] TGr)) TD11 #[.slice none 0 0, .bool false, .int .i64 0]
    rw [World.size_alloc] at b2
    refine ⟨(((Fr.refl [] w).alloc _).alloc _).trans hfb, by simpa using hsb, ((Blk.new w TGr _).alloc _).fr hfb (by simp), b2.fr hfb (by simp)⟩
  have hsz : (⟨s.toArray⟩ : ByteArray).size = s.length := by simp [ByteArray.size]
  rw [hsz] at hcv
  simp only [World.size_alloc] at hcv
  clear hs hn hfb hsb hsz
  go_enter Try.func16, Try.ntmps16
  go_wp2_with fail
  obtain ⟨RB, hRB⟩ : ∃ RB, RB = w.heap.size := ⟨_, rfl⟩
  obtain ⟨RD, hRD⟩ : ∃ RD, RD = w.heap.size + 1 := ⟨_, rfl⟩
  have HR : Hid (RB = w.heap.size ∧ RD = w.heap.size + 1 ∧ Blk wb RB TGr #[.pointer none, .bool false, .int .i64 0] ∧ Blk wb RD TD11 #[.slice none 0 0, .bool false, .int .i64 0]) := ⟨hRB, hRD, by rw [hRB]; exact HB.out.2.2.1, by rw [hRD]; exact HB.out.2.2.2⟩
  have HO : Hid (Old [some RB, some RD] wb) := fun k hk => by
    have h1 := HR.out.2.2.1.lt
    have h2 := HR.out.2.2.2.lt
    rcases List.mem_cons.1 hk with e | e
    · injection e with e; omega
    · rw [List.mem_singleton] at e; injection e with e; omega
  refine (gload_allE [some RB, some RD] wb _ s.length c0 s HO.out HB.out.2.1 rfl HS.out).mono ?_
  rintro en w2 ⟨g, p, tl, eo, sA, rs, rfl, hpg, hf2⟩
  rw [← hRD, ← hRB, ← HN.out]
  clear hRB hRD hcv
  have HF2 := Lib.hid (HB.out.1.trans hf2)
  have HRL : Hid (RB < w2.heap.size ∧ RD < w2.heap.size ∧ w.heap.size ≤ w2.heap.size) := ⟨by have := HR.out.2.2.1.lt; have := hf2.size; omega, by have := HR.out.2.2.2.lt; have := hf2.size; omega, HF2.out.size⟩
  have HW2 : Hid (∀ W T, W = w2.alloc (.cells #[.pointer p, .bool tl, .int .i64 eo] TGr) → T = w2.heap.size → Fr [] w W ∧ Blk W T TGr #[.pointer p, .bool tl, .int .i64 eo] ∧ Kp [some RB, some RD] W (PG s g p tl eo sA rs) ∧ Blk W RB TGr #[.pointer none, .bool false, .int .i64 0] ∧ Blk W RD TD11 #[.slice none 0 0, .bool false, .int .i64 0]) := by
    show ∀ _, _
    rintro W T rfl rfl
    exact ⟨HF2.out.alloc _, Blk.new w2 TGr _, hpg.fr0 ((Fr.refl [] w2).alloc _), (HR.out.2.2.1.fr hf2 (by simp)).alloc _, (HR.out.2.2.2.fr hf2 (by simp)).alloc _⟩
  have HF2b := Lib.hid hf2
  clear hpg hf2 HB
  go_wp2_with fail
  obtain ⟨w3, hw3⟩ : ∃ w3, w3 = w2.alloc (.cells #[.pointer p, .bool tl, .int .i64 eo] TGr) := ⟨_, rfl⟩
  obtain ⟨T, hT⟩ : ∃ T, T = w2.heap.size := ⟨_, rfl⟩
  obtain ⟨k1, k2, k3, k4, k5⟩ := HW2.out w3 T hw3 hT
  rw [← hw3, ← hT]
  have HX3 := Lib.hid k3
  have HF3 := Lib.hid k1
  have HB3 : Hid (Blk w3 T TGr #[.pointer p, .bool tl, .int .i64 eo] ∧ Blk w3 RB TGr #[.pointer none, .bool false, .int .i64 0] ∧ Blk w3 RD TD11 #[.slice none 0 0, .bool false, .int .i64 0]) := ⟨k2, k4, k5⟩
  have HTN : Hid (w.heap.size ≤ T ∧ RB < T ∧ RD < T ∧ RB ≠ RD ∧ w.heap.size ≤ RB ∧ w.heap.size ≤ RD) := by
    have h1 := HRL.out
    have h3 := HR.out
    exact ⟨by omega, by omega, by omega, by omega, by omega, by omega⟩
  have hfw3 : Fr [] wb w3 := by rw [hw3]; exact HF2b.out.alloc _
  clear hw3 hT k1 k2 k3 k4 k5 HW2
  refine (dload_allE [some RB, some RD] w3 s (HO.out.fr hfw3) HS.out).mono ?_
  rintro en w4 ⟨⟨xB, xm, xd, xrs, xt, xe⟩, rfl, hxp, hxa, hf4⟩
  rw [← HN.out]
  have HF4 := Lib.hid (HF3.out.trans hf4)
  have HW4 : Hid (∀ W H, W = w4.alloc (.cells #[.slice xB xm xd, .bool xt, .int .i64 xe] TD11) → H = w4.heap.size → Fr [] w W ∧ Blk W H TD11 #[.slice xB xm xd, .bool xt, .int .i64 xe] ∧ Blk W T TGr #[.pointer p, .bool tl, .int .i64 eo] ∧ Blk W RB TGr #[.pointer none, .bool false, .int .i64 0] ∧ Blk W RD TD11 #[.slice none 0 0, .bool false, .int .i64 0] ∧ Kp [some RB, some RD] W (PG s g p tl eo sA rs) ∧ Kp [some RB, some RD] W (GDAt ⟨xB, xm, xd, xrs, xt, xe⟩) ∧ T < H) := by
    show ∀ _, _
    rintro W H rfl rfl
    have ha : Fr [] w4 (w4.alloc (.cells #[.slice xB xm xd, .bool xt, .int .i64 xe] TD11)) := (Fr.refl [] w4).alloc _
    have hh := hf4.trans ha
    exact ⟨HF4.out.alloc _, Blk.new w4 TD11 _, HB3.out.1.fr hh (by simp), HB3.out.2.1.fr hh (by simp), HB3.out.2.2.fr hh (by simp), HX3.out.fr0 hh, hxa.fr0 ha, (HB3.out.1.fr hf4 (by simp)).lt⟩
  have HXP := Lib.hid hxp
  clear hf4 hxa hxp
  simp only
  go_wp2_with fail
  obtain ⟨w5, hw5⟩ : ∃ w5, w5 = w4.alloc (.cells #[.slice xB xm xd, .bool xt, .int .i64 xe] TD11) := ⟨_, rfl⟩
  obtain ⟨H, hH⟩ : ∃ H, H = w4.heap.size := ⟨_, rfl⟩
  obtain ⟨k1, k2, k3, k4, k5, k6, k7, k8⟩ := HW4.out w5 H hw5 hH
  rw [← hw5, ← hH]
  have HX5 := Lib.hid k6
  have HD5 := Lib.hid k7
  have HF5 := Lib.hid k1
  have t0 : w5.cell? ⟨T, 0, none⟩ = some (.pointer p) := k3.cell 0
  have t1 : w5.cell? ⟨T, 1, none⟩ = some (.bool tl) := k3.cell 1
  have t2 : w5.cell? ⟨T, 2, none⟩ = some (.int .i64 eo) := k3.cell 2
  have d0 : w5.cell? ⟨H, 0, none⟩ = some (.slice xB xm xd) := k2.cell 0
  have d1 : w5.cell? ⟨H, 1, none⟩ = some (.bool xt) := k2.cell 1
  have d2 : w5.cell? ⟨H, 2, none⟩ = some (.int .i64 xe) := k2.cell 2
  have a0 : w5.cell? ⟨RB, 0, none⟩ = some (.pointer none) := k4.cell 0
  have a1 : w5.cell? ⟨RB, 1, none⟩ = some (.bool false) := k4.cell 1
  have a2 : w5.cell? ⟨RB, 2, none⟩ = some (.int .i64 0) := k4.cell 2
  have b0 : w5.cell? ⟨RD, 0, none⟩ = some (.slice none 0 0) := k5.cell 0
  have b1 : w5.cell? ⟨RD, 1, none⟩ = some (.bool false) := k5.cell 1
  have b2 : w5.cell? ⟨RD, 2, none⟩ = some (.int .i64 0) := k5.cell 2
  have y0 := k4.frozen 0
  have y1 := k4.frozen 1
  have y2 := k4.frozen 2
  have z0 := k5.frozen 0
  have z1 := k5.frozen 1
  have z2 := k5.frozen 2
  have ly := k4.lt
  have lz := k5.lt
  have ne1 : ¬ RB = RD := HTN.out.2.2.2.1
  have ne2 : ¬ RD = RB := fun e => ne1 e.symm
  have ne3 : ¬ T = RB := by have := HTN.out; omega
  have ne4 : ¬ T = RD := by have := HTN.out; omega
  have ne5 : ¬ H = RB := by have := HTN.out; omega
  have ne6 : ¬ H = RD := by have := HTN.out; omega
  have HTT : Hid (T < H) := k8
  have HFIN : Hid (∀ w', Fr [some RB, some RD] w5 w' → BegunAns w s (.returned (.tuple #[.agg #[.pointer p, .bool tl, .int .i64 eo], .pointer (some ⟨g, 0, none⟩), .agg #[.slice xB xm xd, .bool xt, .int .i64 xe], .bool (decide (n = 0))])) w') := by
    show ∀ _, _
    intro w' hf
    have h1 := HTN.out
    refine ⟨g, p, tl, eo, sA, rs, ⟨xB, xm, xd, xrs, xt, xe⟩, by rw [← HN.out], HX5.out w' hf, HXP.out, HD5.out w' hf, HF5.out.seq hf fun x hx => ?_⟩
    rcases List.mem_cons.1 hx with e | e
    · exact .inr (.inr ⟨RB, by omega, e⟩)
    · rw [List.mem_singleton] at e; exact .inr (.inr ⟨RD, by omega, e⟩)
  clear hw5 hH k1 k2 k3 k4 k5 k6 k7 k8 HW4
  by_cases h0 : n = 0
  · have h1 : (n : Int) = 0 := by omega
    have h2 : ((n : Int) == 0) = true := by rw [h1]; rfl
    have h3 : decide (n = 0) = true := decide_eq_true h0
    rw [h3] at HFIN
    clear h0 h3
    go_region
    go_wp2_with fail
    refine bodyPost_ret (v := .tuple #[.agg #[.pointer p, .bool tl, .int .i64 eo], .pointer (some ⟨g, 0, none⟩), .agg #[.slice xB xm xd, .bool xt, .int .i64 xe], .bool true]) (by simp [results, Try.results16, go_sem, *]) rfl ?_
    refine HFIN.out _ ?_
    exact (((((((Fr.refl [some RB, some RD] w5).setB (fun _ => by simp) _ _).setB (fun _ => by simp) _ _).setB (fun _ => by simp) _ _).setB (fun _ => by simp) _ _).setB (fun _ => by simp) _ _).setB (fun _ => by simp) _ _).drew
  · have h1 : ¬ (n : Int) = 0 := by omega
    have h2 : ((n : Int) == 0) = false := by simpa using h1
    have h3 : decide (n = 0) = false := decide_eq_false h0
    rw [h3] at HFIN
    clear h0 h3
    go_region
    go_wp2_with fail
    refine bodyPost_ret (v := .tuple #[.agg #[.pointer p, .bool tl, .int .i64 eo], .pointer (some ⟨g, 0, none⟩), .agg #[.slice xB xm xd, .bool xt, .int .i64 xe], .bool false]) (by simp [results, Try.results16, go_sem, *]) rfl ?_
    refine HFIN.out _ ?_
    exact (((((((Fr.refl [some RB, some RD] w5).setB (fun _ => by simp) _ _).setB (fun _ => by simp) _ _).setB (fun _ => by simp) _ _).setB (fun _ => by simp) _ _).setB (fun _ => by simp) _ _).setB (fun _ => by simp) _ _).drew
end Go.Proofs.Ytblafakafgediaa
namespace Go.Proofs.Ytblafakafgediaa
open Go.RowKit Go.Proofs.Dm

/-- A grid of the example's rows. -/
structure Ex14 (g : Nat) (p : Option Addr) (rs : List RW) (w : World) : Prop where
  ar : ArAt g e14 w
  tr : TreeAt TN [] w p (rs.map Prod.fst)
  ok : RowsAt [] w 6 rs
theorem Ex14.fr0 {g : Nat} {p : Option Addr} {rs : List RW} {w w' : World} (h : Ex14 g p rs w) (hf : Fr [] w w') : Ex14 g p rs w' :=
  ⟨h.ar.fr0 hf, h.tr.fr0 hf, h.ok.grow hf fun k hk => .inl hk⟩
def Load14 (w : World) (e : Ending) (w' : World) : Prop :=
  ∃ (g : Nat) (p : Option Addr) (rs : List RW), e = .returned (.tuple #[.agg #[.pointer p, .bool true, .int .i64 1], .pointer (some ⟨g, 0, none⟩), .int .i64 0]) ∧ Ex14 g p rs w' ∧ rs.map rview = v14 ∧ Fr [] w w'
theorem load14 (w : World) (A : Option Addr) (c : Nat) (hA : Sl w A (bts e14)) : Calls Try.prog 8 #[.slice A 6 c] w (Load14 w) := by
  refine (gload_any [] w A 6 c e14 (Old.nil_ w) hA rfl (by omega)).mono ?_
  rintro e w' (⟨h, _⟩ | ⟨_, g, p, rs, he, ha, ht, hr, hv, hf⟩)
  · exact absurd e14_err h
  · rw [e14_tail, e14_eol] at he
    exact ⟨g, p, rs, he, ⟨ha.now, ht, hr⟩, hv, hf⟩
section
variable {w : World} {g : Nat} {p : Option Addr} {rs : List RW}
theorem len14 (hv : rs.map rview = v14) : rs.length = 2 := by
  have := congrArg List.length hv
  rw [List.length_map, e14_len] at this
  exact this
theorem wid14 (hx : Ex14 g p rs w) (hv : rs.map rview = v14) : widthP (rs.map Prod.fst) = 2 ∧ ∀ r ∈ rs, r.1.n ≤ 2 := by
  have h1 : (rs.map Prod.fst).map RV.n = [2, 1] := by
    rw [← e14_flds, ← hv, List.map_map, List.map_map]
    apply List.map_congr_left
    intro r hr
    show r.1.n = (r.2.map CV.view).length
    rw [List.length_map]
    exact (hx.ok r hr).1
  refine ⟨by unfold widthP; rw [h1]; rfl, fun r hr => ?_⟩
  have h2 : r.1.n ∈ (rs.map Prod.fst).map RV.n := List.mem_map.2 ⟨r.1, List.mem_map.2 ⟨r, hr, rfl⟩, rfl⟩
  rw [h1] at h2
  simp at h2
  omega
def Over14 (g : Nat) (w : World) (en : Ending) (w' : World) : Prop :=
  ∃ (p : Option Addr) (ys : List RW), en = .returned (.tuple #[.agg #[.pointer p, .bool true, .int .i64 1], .int .i64 0]) ∧ Ex14 g p ys w' ∧ ys.map rview = overV 2 v14 ∧ Fr [] w w'
theorem over14 (hx : Ex14 g p rs w) (hv : rs.map rview = v14) : Calls Try.prog 18 #[.agg #[.pointer p, .bool true, .int .i64 1]] w (Over14 g w) := by
  obtain ⟨h1, h2⟩ := wid14 hx hv
  refine (over_go w p true 1 rs 6 2 hx.tr hx.ok (len14 hv).symm (by omega) (by omega) (fun r hr => by have := h2 r hr; omega)).mono ?_
  rintro en w' (⟨h, _⟩ | ⟨_, p2, ys, he, ht, hr, hy, hf⟩)
  · rw [len14 hv] at h; exact absurd rfl h
  · refine ⟨p2, ys, he, ⟨hx.ar.fr0 hf, ht, hr⟩, ?_, hf⟩
    rw [over_view rs ys hy, h1, hv]
def Down14 (g : Nat) (rs : List RW) (w : World) (en : Ending) (w' : World) : Prop :=
  ∃ p : Option Addr, en = .returned (.agg #[.pointer p, .bool true, .int .i64 1]) ∧ Ex14 g p rs.reverse w' ∧ Fr [] w w'
theorem down14 (hx : Ex14 g p rs w) (hv : rs.map rview = v14) : Calls Try.prog 43 #[.agg #[.pointer p, .bool true, .int .i64 1]] w (Down14 g rs w) := by
  refine (down_flip w p true 1 2 (rs.map Prod.fst) hx.tr (by rw [List.length_map, len14 hv]) (by omega)).mono ?_
  rintro en w' ⟨p2, he, ht, hf⟩
  rw [← List.map_reverse] at ht
  exact ⟨p2, he, ⟨hx.ar.fr0 hf, ht, fun r hr => (hx.fr0 hf).ok r (List.mem_reverse.1 hr)⟩, hf⟩
theorem save14 (vs : List VR) (l : List UInt8) (hx : Ex14 g p rs w) (hv : rs.map rview = vs) (hn : vs.length = 2) (hok : vs.all okV = true) (hl : saveV e14 2 true 1 0 vs = l) :
    Calls Try.prog 14 #[.agg #[.pointer p, .bool true, .int .i64 1], .pointer (some ⟨g, 0, none⟩)] w (BytesAns w l) := by
  have := save_view w p true 1 g 2 e14 rs vs hx.ar hx.tr hx.ok hv hn.symm (by omega) hok (by omega) (by decide)
  rw [hl] at this
  exact this
end
set_option maxRecDepth 100000 in
set_option maxHeartbeats 1600000 in
theorem awake14_yes (w : World) : Calls Try.prog 17 #[] w fun e w' => e = .returned (.bool true) ∧ Fr [] w w' := by
  have HW : Hid (∀ W1, W1 = w.alloc (.cells #[.int .u8 97, .int .u8 44, .int .u8 98, .int .u8 10, .int .u8 99, .int .u8 10] TU8 (6, 7)) → Fr [] w W1 ∧ Sl W1 (some ⟨w.heap.size, 0, none⟩) (bts e14)) := by
    show ∀ _, _
    rintro W1 rfl
    refine ⟨(Fr.refl [] w).alloc _, .inr ⟨_, rfl, fun j u hu => ?_⟩⟩
    rw [add_lit, World.cell?_alloc_mark, ← hu, show bts e14 = (#[.int .u8 97, .int .u8 44, .int .u8 98, .int .u8 10, .int .u8 99, .int .u8 10] : Array Value).toList from rfl, Array.getElem?_toList]
  have hcb := Lib.run_convert_bytes_const (P := Try.prog) w 32 TU8 #[.int .u8 97, .int .u8 44, .int .u8 98, .int .u8 10, .int .u8 99, .int .u8 10] 6 6 Try.underlying32 Try.underlying5
  go_enter Try.func17, Try.ntmps17
  go_wp2_with fail
  obtain ⟨W1, hW1⟩ : ∃ W1, W1 = w.alloc (.cells #[.int .u8 97, .int .u8 44, .int .u8 98, .int .u8 10, .int .u8 99, .int .u8 10] TU8 (6, 7)) := ⟨_, rfl⟩
  obtain ⟨k1, k2⟩ := HW.out W1 hW1
  rw [← hW1]
  clear hW1 HW hcb
  refine (load14 W1 _ 6 k2).mono ?_
  rintro en w2 ⟨g, p, rs, rfl, hx2, hv, hf2⟩
  have HV := Lib.hid hv
  have HF2 := Lib.hid (k1.trans hf2)
  have HW2 : Hid (∀ W, W = w2.alloc (.cells #[.pointer p, .bool true, .int .i64 1] TGr) → Fr [] w W ∧ Blk W w2.heap.size TGr #[.pointer p, .bool true, .int .i64 1] ∧ Ex14 g p rs W) := by
    show ∀ _, _
    rintro W rfl
    exact ⟨HF2.out.alloc _, Blk.new w2 TGr _, hx2.fr0 ((Fr.refl [] w2).alloc _)⟩
  clear hv hx2 hf2 k1 k2
  go_wp2_with fail
  obtain ⟨w3, hw3⟩ : ∃ w3, w3 = w2.alloc (.cells #[.pointer p, .bool true, .int .i64 1] TGr) := ⟨_, rfl⟩
  obtain ⟨k1, k2, k3⟩ := HW2.out w3 hw3
  rw [← hw3]
  obtain ⟨T, hT⟩ : ∃ T, T = w2.heap.size := ⟨_, rfl⟩
  rw [← hT] at k2 ⊢
  have HX3 := Lib.hid k3
  have HF3 := Lib.hid k1
  have HB3 := Lib.hid k2
  clear hw3 hT k1 k2 k3 HW2
  refine (over14 HX3.out HV.out).mono ?_
  rintro en w4 ⟨p2, ys, rfl, hx4, hy, hf4⟩
  have HF4 := Lib.hid hf4
  have HY := Lib.hid hy
  have HW4 : Hid (∀ W, W = w4.alloc (.cells #[.pointer p2, .bool true, .int .i64 1] TGr) → Fr [] w3 W ∧ Blk W w4.heap.size TGr #[.pointer p2, .bool true, .int .i64 1] ∧ Ex14 g p2 ys W) := by
    show ∀ _, _
    rintro W rfl
    exact ⟨HF4.out.alloc _, Blk.new w4 TGr _, hx4.fr0 ((Fr.refl [] w4).alloc _)⟩
  have hb4 := HB3.out.fr hf4 (by simp)
  have hb5 := hb4.alloc (.cells #[.pointer p2, .bool true, .int .i64 1] TGr)
  have hb6 := Blk.new w4 TGr #[.pointer p2, .bool true, .int .i64 1]
  have t0 : (w4.alloc (.cells #[.pointer p2, .bool true, .int .i64 1] TGr)).cell? ⟨T, 0, none⟩ = some (.pointer p) := hb5.cell 0
  have t1 : (w4.alloc (.cells #[.pointer p2, .bool true, .int .i64 1] TGr)).cell? ⟨T, 1, none⟩ = some (.bool true) := hb5.cell 1
  have t2 : (w4.alloc (.cells #[.pointer p2, .bool true, .int .i64 1] TGr)).cell? ⟨T, 2, none⟩ = some (.int .i64 1) := hb5.cell 2
  clear hx4 hf4 hb4 hb5 hb6 hy
  go_wp2_with fail
  obtain ⟨w5, hw5⟩ : ∃ w5, w5 = w4.alloc (.cells #[.pointer p2, .bool true, .int .i64 1] TGr) := ⟨_, rfl⟩
  obtain ⟨k1, k2, k3⟩ := HW4.out w5 hw5
  rw [← hw5]
  obtain ⟨H, hH⟩ : ∃ H, H = w4.heap.size := ⟨_, rfl⟩
  rw [← hH] at k2 ⊢
  have HX5 := Lib.hid k3
  have HF5 := Lib.hid (HF3.out.trans k1)
  have HB5 : Hid (Blk w5 T TGr #[.pointer p, .bool true, .int .i64 1] ∧ Blk w5 H TGr #[.pointer p2, .bool true, .int .i64 1]) := ⟨HB3.out.fr k1 (by simp), k2⟩
  have HXG := Lib.hid (HX3.out.fr0 k1)
  have HCELL : Hid (∀ w', Fr [] w5 w' → w'.cell? ⟨T, 0, none⟩ = some (.pointer p) ∧ w'.cell? ⟨T, 1, none⟩ = some (.bool true) ∧ w'.cell? ⟨T, 2, none⟩ = some (.int .i64 1)) := by
    show ∀ _, _
    intro w' hf
    have h1 := HB5.out.1.fr hf (by simp)
    exact ⟨h1.cell 0, h1.cell 1, h1.cell 2⟩
  clear hw5 hH k1 k2 k3 HW4 t0 t1 t2
  refine (save14 _ _ HX5.out HY.out (by rfl) e14_ok.1 e14_over).mono ?_
  rintro en w8 ⟨B8, k8, m8, rfl, hk8, ho8, hf8, hn8⟩
  have hcv := run_str (P := Try.prog) w8 _ TU8 _ Try.underlying32 Try.underlying5 Try.underlying9 B8 k8 m8 _ hk8 (ORow.sl ho8)
  have HF8 := Lib.hid hf8
  clear hk8 ho8 hf8 hn8
  obtain ⟨c0, c1, c2⟩ := HCELL.out _ HF8.out
  go_wp2_with fail
  refine (down14 (HXG.out.fr0 HF8.out) HV.out).mono ?_
  rintro en w9 ⟨p3, rfl, hx9, hf9⟩
  have HX9 := Lib.hid hx9
  have HF9 := Lib.hid (HF8.out.trans hf9)
  clear c0 c1 c2 hcv hx9 hf9
  go_wp2_with fail
  refine (save14 _ _ HX9.out (by rw [List.map_reverse, HV.out]) (by rw [List.length_reverse, e14_len]) e14_ok.2 e14_down).mono ?_
  rintro en w10 ⟨B9, k9, m9, rfl, hk9, ho9, hf10, hn9⟩
  have hcv := run_str (P := Try.prog) w10 _ TU8 _ Try.underlying32 Try.underlying5 Try.underlying9 B9 k9 m9 _ hk9 (ORow.sl ho9)
  have HF10 := Lib.hid (HF9.out.trans hf10)
  clear hk9 ho9 hf10 hn9
  go_wp2_with fail
  go_ret
  exact ⟨rfl, HF5.out.trans HF10.out⟩
end Go.Proofs.Ytblafakafgediaa
