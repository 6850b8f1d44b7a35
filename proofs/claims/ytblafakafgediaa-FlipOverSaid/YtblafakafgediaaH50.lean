import Derived.Test.YtblafakafgediaaH49
namespace Go.Proofs.Ytblafakafgediaa
open Go.RowKit Go.Proofs.Dm

theorem gd_bd (x : GD) (w : World) (h : GDAt x w) (k l : Nat) (hk : x.pic.1.length ≤ k) (hl : ∀ t ∈ x.pic.1, t.1.length ≤ l) : x.m ≤ k ∧ ∀ r ∈ x.rs, r.m ≤ l := by
  have h3 : x.rs.map RD.pic = x.pic.1 := rfl
  rw [← h3] at hk hl
  rw [List.length_map] at hk
  refine ⟨by rw [h.2.1]; exact hk, fun r hr => ?_⟩
  have := hl r.pic (List.mem_map.2 ⟨r, hr, rfl⟩)
  rw [(h.2.2 r hr).2]
  exact this
theorem picWid_bd (ps : List Pic) (k : Nat) (h : ∀ t ∈ ps, t.1.length ≤ k) : picWid ps ≤ k := picWid_le ps k h
theorem overAll_bd (ps : List Pic) (tl : Bool) (eo : Int) (h1 : ps.length ≤ 5000) (h2 : ∀ t ∈ ps, t.1.length ≤ 6000) : (overAll ps tl eo).1.length ≤ 6000 ∧ ∀ t ∈ (overAll ps tl eo).1, t.1.length ≤ 5000 := by
  unfold overAll
  split
  · refine ⟨by show (overP ps).length ≤ _; rw [overP_len]; exact picWid_le ps _ h2, fun t ht => ?_⟩
    obtain ⟨c, _, rfl⟩ := List.mem_map.1 (show t ∈ (List.range (picWid ps)).map _ from ht)
    show (colP ps c).length ≤ _
    unfold colP
    rw [List.length_map]
    exact h1
  · exact ⟨Nat.zero_le _, fun t ht => by simp at ht⟩
section
variable {s sA : List UInt8} {g : Nat} {p : Option Addr} {tl : Bool} {eo : Int} {rs : List RW} {w : World}
theorem PG.key (h : PG s g p tl eo sA rs w) (h0 : loadErrP s = 0) (hs : s.length ≤ 5000) : sA = s ∧ rs.length ≤ 400 ∧ ∀ r ∈ rs, r.1.n = r.2.length ∧ r.2.length ≤ 40 ∧ ∀ c ∈ r.2, (plc c.sp).length ≤ 1000000 := by
  obtain ⟨h1, hv, _, _, h4⟩ := h.yes h0
  have h5 : errP (allLines s) = 0 := by
    unfold loadErrP at h0
    split at h0
    · cases h0
    · split at h0
      · cases h0
      · exact h0
  refine ⟨h1, by rw [view_len hv]; omega, fun r hr => ⟨(h.ok r hr).1, ?_, fun c hc => ?_⟩⟩
  · have h6 : r.2.length ∈ rs.map (·.2.length) := List.mem_map.2 ⟨r, hr, rfl⟩
    rw [view_flds hv] at h6
    obtain ⟨l, hl, hl2⟩ := List.mem_map.1 h6
    have := errP_rows _ h5 l hl
    omega
  · have h1 : rview r ∈ (allLines s).map lview := by rw [← hv]; exact List.mem_map.2 ⟨r, hr, rfl⟩
    obtain ⟨l, hl, hl2⟩ := List.mem_map.1 h1
    have h2 : r.2.map CV.view = l.fields.map fview := congrArg (fun x => x.2.2) hl2.symm
    have h3 : CV.view c ∈ l.fields.map fview := by rw [← h2]; exact List.mem_map.2 ⟨c, hc, rfl⟩
    obtain ⟨f, hf, hf2⟩ := List.mem_map.1 h3
    have h5 : plc c.sp = f.places := (congrArg Prod.fst hf2).symm
    have := (linesP_bd s (s.length + 1) 0 l hl f hf).2
    rw [h5]
    omega
/-- The turned grid: it can be read, and what it is in the document. -/
structure OG (s : List UInt8) (g : Nat) (p : Option Addr) (tl : Bool) (eo : Int) (ys : List RW) (w : World) : Prop where
  ar : ArAt g s w
  tr : TreeAt TN [] w p (ys.map Prod.fst)
  ok : RowsAt [] w s.length ys
  pic : (ys.map (rpic s), tl, eo) = overAll (docPic s).1 (docPic s).2.1 (docPic s).2.2
  bd : ys.length ≤ 700 ∧ (∀ r ∈ ys, ∀ c ∈ r.2, (plc c.sp).length ≤ 1000000) ∧ ∀ r ∈ ys, r.2.length ≤ 1000000
theorem OG.fr0 {ys : List RW} {w' : World} (h : OG s g p tl eo ys w) (hf : Fr [] w w') : OG s g p tl eo ys w' :=
  ⟨h.ar.fr0 hf, h.tr.fr0 hf, h.ok.grow hf fun k hk => .inl hk, h.pic, h.bd⟩
def OGAns (s : List UInt8) (g n : Nat) (w : World) (en : Ending) (w' : World) : Prop :=
  ∃ (p : Option Addr) (tl : Bool) (eo : Int) (ys : List RW), en = .returned (.tuple #[.agg #[.pointer p, .bool tl, .int .i64 eo], .int .i64 (overErr n : Nat)]) ∧ OG s g p tl eo ys w' ∧ Fr [] w w'
theorem PG.over (h : PG s g p tl eo sA rs w) (h0 : loadErrP s = 0) (hs : s.length ≤ 5000) : Calls Try.prog 18 #[.agg #[.pointer p, .bool tl, .int .i64 eo]] w (OGAns s g rs.length w) := by
  obtain ⟨rfl, h1, h2⟩ := h.key h0 hs
  have hc : Calls Try.prog 18 #[.agg #[.pointer p, .bool tl, .int .i64 eo]] w (OverAns w sA.length tl eo rs) := by
    by_cases hb : rs.length = 0 ∨ 40 < rs.length
    · exact over_bad w p tl eo rs sA.length rs.length h.tr rfl hb (by omega)
    · exact over_go w p tl eo rs sA.length rs.length h.tr h.ok rfl (fun e => hb (.inl e)) (by omega) fun r hr => by
        have := h2 r hr
        omega
  have hpl : (docPic sA).1.length = rs.length := by rw [← h.pic]; exact List.length_map ..
  refine hc.mono ?_
  rintro en w' (⟨he, e1, hf⟩ | ⟨he, p2, ys, e1, ht, hr, hy, hf⟩)
  · refine ⟨none, false, 0, [], e1, ⟨h.ar.fr0 hf, .inl ⟨rfl, rfl⟩, fun r hr => by simp at hr, ?_, ⟨Nat.zero_le _, fun r hr => by simp at hr, fun r hr => by simp at hr⟩⟩, hf⟩
    unfold overAll
    rw [hpl, if_neg he]
    rfl
  · refine ⟨p2, tl, eo, ys, by rw [he]; exact e1, ⟨h.ar.fr0 hf, ht, hr, ?_, ?_, ?_, ?_⟩, hf⟩
    · unfold overAll
      rw [hpl, if_pos he, ← h.pic, overR_pic sA rs ys (fun r hr => (h2 r hr).1) hy]
    · have := congrArg List.length hy
      unfold overR at this
      rw [List.length_map, List.length_map, List.length_range] at this
      rw [this]
      refine wid_le _ _ fun r hr => ?_
      obtain ⟨x, hx, rfl⟩ := List.mem_map.1 hr
      have := h2 x hx
      omega
    · intro y hm c hcm
      have h5 : rww y ∈ overR rs := by rw [← hy]; exact List.mem_map.2 ⟨y, hm, rfl⟩
      obtain ⟨k, _, hk⟩ := List.mem_map.1 h5
      have h6 : y.2 = colR rs k := (congrArg (fun v => v.2.2) hk).symm
      rw [h6] at hcm
      obtain ⟨r, hr, rfl⟩ := List.mem_map.1 hcm
      rw [atC_nat]
      cases hg : r.2[k]? with
      | none => simp [CV.zero, plc]
      | some z => exact (h2 r hr).2.2 z (List.mem_of_getElem? hg)
    · intro y hm
      have h5 : rww y ∈ overR rs := by rw [← hy]; exact List.mem_map.2 ⟨y, hm, rfl⟩
      obtain ⟨k, _, hk⟩ := List.mem_map.1 h5
      have h6 : y.2 = colR rs k := (congrArg (fun v => v.2.2) hk).symm
      rw [h6, colR_len]
      omega
theorem OG.plain {ys : List RW} (h : OG s g p tl eo ys w) (hs : s.length ≤ 5000) :
    Calls Try.prog 11 #[.pointer (some ⟨g, 0, none⟩), .agg #[.pointer p, .bool tl, .int .i64 eo]] w fun en w' => ∃ x : GD, en = .returned (.agg #[.slice x.B x.m x.d, .bool x.t, .int .i64 x.e]) ∧ x.pic = overAll (docPic s).1 (docPic s).2.1 (docPic s).2.2 ∧ GDAt x w' ∧ Fr [] w w' := by
  refine (p11_any [] w p tl eo g ys.length s ys (Old.nil_ w) h.ar h.tr h.ok rfl h.bd.1 h.bd.2.1 h.bd.2.2 (by omega)).mono ?_
  rintro en w' ⟨x, he, hx, hk, hf⟩
  have h1 := hx.trans h.pic
  have h2 : x.t = tl := congrArg (fun y => y.2.1) hx
  have h3 : x.e = eo := congrArg (fun y => y.2.2) hx
  exact ⟨x, by rw [h2, h3]; exact he, h1, hk.now, hf⟩
end
theorem doc_over (w : World) (s : List UInt8) (x : GD) (n : Nat) (hx : GDAt x w) (hp : x.pic = docPic s) (hn : n = (docPic s).1.length) (hs : s.length ≤ 5000) :
    Calls Try.prog 19 #[.agg #[.slice x.B x.m x.d, .bool x.t, .int .i64 x.e]] w (GDErr [] w (overAll (docPic s).1 (docPic s).2.1 (docPic s).2.2) (overErr n)) := by
  obtain ⟨h1, h2⟩ := docPic_bd s hs
  obtain ⟨h3, h4⟩ := gd_bd x w hx 5000 6000 (by rw [hp]; exact h1) (by rw [hp]; exact h2)
  have h5 : x.rs.map RD.pic = (docPic s).1 := congrArg Prod.fst hp
  have h6 : x.t = (docPic s).2.1 := congrArg (fun y => y.2.1) hp
  have h7 : x.e = (docPic s).2.2 := congrArg (fun y => y.2.2) hp
  have h8 : x.m = n := by rw [hx.2.1, hn, ← h5, List.length_map]
  have key : Calls Try.prog 19 #[.agg #[.slice x.B x.m x.d, .bool x.t, .int .i64 x.e]] w (GDErr [] w (overAll (x.rs.map RD.pic) x.t x.e) (overErr x.m)) := by
    by_cases hb : x.m = 0 ∨ 40 < x.m
    · exact dover_bad [] w x hx hb (by omega)
    · exact dover_go [] w x (Old.nil_ w) hx (fun e => hb (.inl e)) (by omega) fun r hr => by have := h4 r hr; omega
  rw [h5, h6, h7, h8] at key
  rw [h6, h7, h8]
  exact key
end Go.Proofs.Ytblafakafgediaa
namespace Go.Proofs.Ytblafakafgediaa
open Go.RowKit Go.Proofs.Dm

set_option maxRecDepth 100000 in
set_option maxHeartbeats 1600000 in
theorem flipOver_any (w : World) (b : ByteArray) : Calls Try.prog 4 #[.string b] w fun e w' => e = .returned (.bool true) ∧ Fr [] w w' := by
  obtain ⟨s0, rfl⟩ : ∃ s0 : List UInt8, b = ⟨s0.toArray⟩ := ⟨b.data.toList, by simp⟩
  obtain ⟨s, hs⟩ : ∃ s, s = s0.take 1500 := ⟨_, rfl⟩
  have hcut := cut_k w s0 1500 (by omega)
  rw [← hs] at hcut
  have HC := Lib.hid hcut
  have HS : Hid (s.length ≤ 5000) := by show _ ≤ _; rw [hs, List.length_take]; omega
  have HBG := Lib.hid (begun_any w s HS.out)
  obtain ⟨ok, hok⟩ : ∃ ok, ok = decide (loadErrP s = 0) := ⟨_, rfl⟩
  have HOK := Lib.hid hok
  clear hcut hs hok
  go_enter Try.func4, Try.ntmps4
  go_wp2_with fail
  refine HC.out.mono ?_
  rintro en w1 ⟨rfl, rfl⟩
  clear HC
  go_wp2_with fail
  refine HBG.out.mono ?_
  rintro en w2 ⟨g, p, tl, eo, sA, rs, ⟨xB, xm, xd, xrs, xt, xe⟩, rfl, hpg, hxp, hxa, hf2⟩
  rw [← HOK.out]
  have HF2 := Lib.hid hf2
  have HX2 : Hid (PG s g p tl eo sA rs w2 ∧ GDAt ⟨xB, xm, xd, xrs, xt, xe⟩ w2) := ⟨hpg, hxa⟩
  have HXP := Lib.hid hxp
  clear hpg hxp hxa hf2 HBG
  simp only
  obtain ⟨W3, hW3⟩ : ∃ W3, W3 = (w2.alloc (.cells #[.pointer p, .bool tl, .int .i64 eo] TGr)).alloc (.cells #[.slice xB xm xd, .bool xt, .int .i64 xe] TD11) := ⟨_, rfl⟩
  have HW3 : Hid (Fr [] w W3 ∧ Blk W3 w2.heap.size TGr #[.pointer p, .bool tl, .int .i64 eo] ∧ Blk W3 (w2.heap.size + 1) TD11 #[.slice xB xm xd, .bool xt, .int .i64 xe] ∧ PG s g p tl eo sA rs W3 ∧ GDAt ⟨xB, xm, xd, xrs, xt, xe⟩ W3) := by
    have b2 := Blk.new (w2.alloc (.cells #[.pointer p, .bool tl, .int .i64 eo] TGr)) TD11 #[.slice xB xm xd, .bool xt, .int .i64 xe]
    rw [World.size_alloc, ← hW3] at b2
    have hf : Fr [] w2 W3 := by rw [hW3]; exact ((Fr.refl [] w2).alloc _).alloc _
    exact ⟨HF2.out.trans hf, by rw [hW3]; exact (Blk.new w2 TGr _).alloc _, b2, HX2.out.1.fr0 hf, HX2.out.2.fr0 hf⟩
  have HE3 := Lib.hid hW3
  clear hW3
  cases ok with
  | false =>
    go_wp2_with fail
    rw [← HE3.out]
    refine (awake14_yes W3).mono ?_
    rintro en w4 ⟨rfl, hf4⟩
    have HF4 := Lib.hid (HW3.out.1.trans hf4)
    clear hf4
    go_wp2_with fail
    go_ret
    exact ⟨rfl, HF4.out⟩
  | true =>
    have HZ : Hid (loadErrP s = 0) := by show _ = _; exact of_decide_eq_true HOK.out.symm
    obtain ⟨n, hn⟩ : ∃ n, n = rs.length := ⟨_, rfl⟩
    have HN := Lib.hid hn
    have HNP : Hid (n = (docPic s).1.length) := by
      show _ = _
      have h1 := HX2.out.1.pic
      obtain ⟨h2, _, _⟩ := HX2.out.1.key HZ.out HS.out
      rw [← h1, hn]
      exact (List.length_map ..).symm
    clear hn
    go_wp2_with fail
    rw [← HE3.out]
    obtain ⟨T, hT⟩ : ∃ T, T = w2.heap.size := ⟨_, rfl⟩
    obtain ⟨X, hX⟩ : ∃ X, X = w2.heap.size + 1 := ⟨_, rfl⟩
    have HBX : Hid (Blk W3 X TD11 #[.slice xB xm xd, .bool xt, .int .i64 xe]) := by show Blk _ _ _ _; rw [hX]; exact HW3.out.2.2.1
    rw [← hX, ← hT]
    clear hX hT
    refine (HW3.out.2.2.2.1.over HZ.out HS.out).mono ?_
    rintro en w4 ⟨p4, tl4, eo4, ys, rfl, hog, hf4⟩
    obtain ⟨rfl⟩ : sA = s := (HX2.out.1.key HZ.out HS.out).1
    rw [← HN.out]
    obtain ⟨k, hk⟩ : ∃ k, k = overErr n := ⟨_, rfl⟩
    rw [← hk]
    have HKN := Lib.hid hk
    have HF4 : Hid (Fr [] w w4) := HW3.out.1.trans hf4
    have HW5 : Hid (∀ W H, W = w4.alloc (.cells #[.pointer p4, .bool tl4, .int .i64 eo4] TGr) → H = w4.heap.size → Fr [] w W ∧ Blk W H TGr #[.pointer p4, .bool tl4, .int .i64 eo4] ∧ Blk W X TD11 #[.slice xB xm xd, .bool xt, .int .i64 xe] ∧ OG s g p4 tl4 eo4 ys W ∧ GDAt ⟨xB, xm, xd, xrs, xt, xe⟩ W) := by
      show ∀ _, _
      rintro W H rfl rfl
      have ha : Fr [] w4 (w4.alloc (.cells #[.pointer p4, .bool tl4, .int .i64 eo4] TGr)) := (Fr.refl [] w4).alloc _
      exact ⟨HF4.out.alloc _, Blk.new w4 TGr _, HBX.out.fr (hf4.trans ha) (by simp), hog.fr0 ha, HW3.out.2.2.2.2.fr0 (hf4.trans ha)⟩
    have hbx := HBX.out.fr hf4 (by simp)
    have hby := hbx.alloc (.cells #[.pointer p4, .bool tl4, .int .i64 eo4] TGr)
    have x0 : (w4.alloc (.cells #[.pointer p4, .bool tl4, .int .i64 eo4] TGr)).cell? ⟨X, 0, none⟩ = some (.slice xB xm xd) := hby.cell 0
    have x1 : (w4.alloc (.cells #[.pointer p4, .bool tl4, .int .i64 eo4] TGr)).cell? ⟨X, 1, none⟩ = some (.bool xt) := hby.cell 1
    have x2 : (w4.alloc (.cells #[.pointer p4, .bool tl4, .int .i64 eo4] TGr)).cell? ⟨X, 2, none⟩ = some (.int .i64 xe) := hby.cell 2
    clear hk hog hf4 hbx hby
    go_wp2_with fail
    obtain ⟨W5, hW5⟩ : ∃ W5, W5 = w4.alloc (.cells #[.pointer p4, .bool tl4, .int .i64 eo4] TGr) := ⟨_, rfl⟩
    obtain ⟨H, hH⟩ : ∃ H, H = w4.heap.size := ⟨_, rfl⟩
    obtain ⟨k1, k2, k3, k4, k5⟩ := HW5.out W5 H hW5 hH
    rw [← hW5, ← hH]
    have HF5 := Lib.hid k1
    have HBH := Lib.hid k2
    have HOG := Lib.hid k4
    have HDX := Lib.hid k5
    clear hW5 hH k1 k2 k3 k4 k5 HW5 x0 x1 x2
    refine (doc_over W5 s ⟨xB, xm, xd, xrs, xt, xe⟩ n HDX.out HXP.out HNP.out HS.out).mono ?_
    rintro en w6 ⟨⟨yB, ym, yd, yrs, yt, ye⟩, rfl, hyp, hyk, hf6⟩
    rw [← HKN.out]
    have HYP := Lib.hid hyp
    have HF6 : Hid (Fr [] w w6) := HF5.out.trans hf6
    have HW7 : Hid (∀ W K, W = w6.alloc (.cells #[.slice yB ym yd, .bool yt, .int .i64 ye] TD11) → K = w6.heap.size → Fr [] w W ∧ Blk W K TD11 #[.slice yB ym yd, .bool yt, .int .i64 ye] ∧ Blk W H TGr #[.pointer p4, .bool tl4, .int .i64 eo4] ∧ OG s g p4 tl4 eo4 ys W ∧ GDAt ⟨yB, ym, yd, yrs, yt, ye⟩ W) := by
      show ∀ _, _
      rintro W K rfl rfl
      have ha : Fr [] w6 (w6.alloc (.cells #[.slice yB ym yd, .bool yt, .int .i64 ye] TD11)) := (Fr.refl [] w6).alloc _
      exact ⟨HF6.out.alloc _, Blk.new w6 TD11 _, HBH.out.fr (hf6.trans ha) (by simp), HOG.out.fr0 (hf6.trans ha), hyk.now.fr0 ha⟩
    clear hyp hyk hf6
    simp only
    go_wp2_with fail
    obtain ⟨W7, hW7⟩ : ∃ W7, W7 = w6.alloc (.cells #[.slice yB ym yd, .bool yt, .int .i64 ye] TD11) := ⟨_, rfl⟩
    obtain ⟨K, hK⟩ : ∃ K, K = w6.heap.size := ⟨_, rfl⟩
    obtain ⟨k1, k2, k3, k4, k5⟩ := HW7.out W7 K hW7 hK
    rw [← hW7, ← hK]
    have HF7 := Lib.hid k1
    have HOG7 := Lib.hid k4
    have HDY7 := Lib.hid k5
    have HCELL : Hid (∀ w', Fr [] W7 w' → w'.cell? ⟨H, 0, none⟩ = some (.pointer p4) ∧ w'.cell? ⟨H, 1, none⟩ = some (.bool tl4) ∧ w'.cell? ⟨H, 2, none⟩ = some (.int .i64 eo4) ∧ w'.cell? ⟨K, 0, none⟩ = some (.slice yB ym yd) ∧ w'.cell? ⟨K, 1, none⟩ = some (.bool yt) ∧ w'.cell? ⟨K, 2, none⟩ = some (.int .i64 ye)) := by
      show ∀ _, _
      intro w' hf
      have h1 := k3.fr hf (by simp)
      have h2 := k2.fr hf (by simp)
      exact ⟨h1.cell 0, h1.cell 1, h1.cell 2, h2.cell 0, h2.cell 1, h2.cell 2⟩
    have HSM : Hid (∀ (x : GD) (w' : World), GDAt x w' → x.pic = overAll (docPic s).1 (docPic s).2.1 (docPic s).2.2 → x.m ≤ 100000 ∧ ∀ r ∈ x.rs, r.m ≤ 1000000) := by
      show ∀ _, _
      intro x w' h hp
      obtain ⟨h1, h2⟩ := docPic_bd s HS.out
      obtain ⟨h3, h4⟩ := overAll_bd (docPic s).1 (docPic s).2.1 (docPic s).2.2 h1 h2
      obtain ⟨h5, h6⟩ := gd_bd x w' h 6000 5000 (by rw [hp]; exact h3) (by rw [hp]; exact h4)
      exact ⟨by omega, fun r hr => by have := h6 r hr; omega⟩
    clear hW7 hK k1 k2 k3 k4 k5 HW7
    obtain ⟨t0, t1, t2, d0, d1, d2⟩ := HCELL.out W7 (Fr.refl _ _)
    have hkk : ((k : Int) == (k : Int)) = true := by simp
    go_region_held3 (fun w' => w'.cell? ⟨H, 0, none⟩ = some (.pointer p4) ∧ w'.cell? ⟨H, 1, none⟩ = some (.bool tl4) ∧ w'.cell? ⟨H, 2, none⟩ = some (.int .i64 eo4) ∧ w'.cell? ⟨K, 0, none⟩ = some (.slice yB ym yd) ∧ w'.cell? ⟨K, 1, none⟩ = some (.bool yt) ∧ w'.cell? ⟨K, 2, none⟩ = some (.int .i64 ye)) (go_keep) ((first
      | (go_at_call 11; go_must (
           refine ((HOG7.out.fr0 (Fr.refl [] W7).drew).plain HS.out).mono ?_
           rintro e w8 ⟨⟨zB, zm, zd, zrs, zt, ze⟩, rfl, hzp, hza, hf8⟩
           have HF8 : Hid (Fr [] W7 w8) := (Fr.refl [] W7).drew.trans hf8
           have HZP : Hid (GD.pic ⟨zB, zm, zd, zrs, zt, ze⟩ = overAll (docPic s).1 (docPic s).2.1 (docPic s).2.2 ∧ GDAt ⟨zB, zm, zd, zrs, zt, ze⟩ w8) := ⟨hzp, hza⟩
           obtain ⟨t0', t1', t2', d0', d1', d2'⟩ := HCELL.out w8 HF8.out
           clear hzp hza hf8
           simp only))
      | (go_at_call 10; go_must (
           refine (g11same_any w8 ⟨zB, zm, zd, zrs, zt, ze⟩ ⟨yB, ym, yd, yrs, yt, ye⟩ HZP.out.2 (HDY7.out.fr0 HF8.out) (HSM.out _ _ HZP.out.2 HZP.out.1).1 (HSM.out _ _ HDY7.out HYP.out).1 (HSM.out _ _ HZP.out.2 HZP.out.1).2 (HSM.out _ _ HDY7.out HYP.out).2).mono ?_
           rintro e w9 ⟨⟨bb, rfl, hbb⟩, hf9⟩
           obtain rfl : bb = true := hbb.2 (HZP.out.1.trans HYP.out.symm)
           have HF9 : Hid (Fr [] W7 w9) := HF8.out.trans hf9
           obtain ⟨t0'', t1'', t2'', d0'', d1'', d2''⟩ := HCELL.out w9 HF9.out
           clear hbb hf9))
      | (go_at_call 17; go_must (
           refine (awake14_yes w9).mono ?_
           rintro e w10 ⟨rfl, hf10⟩
           have HF10 : Hid (Fr [] W7 w10) := HF9.out.trans hf10
           obtain ⟨t0a, t1a, t2a, d0a, d1a, d2a⟩ := HCELL.out w10 HF10.out
           clear hf10))))
    all_goals
      go_wp2_with fail
      go_ret
      exact ⟨rfl, HF7.out.trans HF10.out⟩
end Go.Proofs.Ytblafakafgediaa
