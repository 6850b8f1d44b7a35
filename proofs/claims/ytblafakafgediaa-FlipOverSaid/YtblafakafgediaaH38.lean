import Derived.Test.YtblafakafgediaaH37
namespace Go.Proofs.Ytblafakafgediaa
open Go.RowKit Go.Proofs.Dm

/-- What a file is in the document. -/
def docPic (s : List UInt8) : List Pic × Bool × Int :=
  if loadErrP s = 0 then ((allLines s).map (lpic s), tailP ((allLines s).map (·.e)), ((eolP ((allLines s).map (·.e)) : Nat) : Int)) else ([], false, 2)
theorem docPic_bd (s : List UInt8) (hs : s.length ≤ 5000) : (docPic s).1.length ≤ 5000 ∧ ∀ t ∈ (docPic s).1, t.1.length ≤ 6000 := by
  unfold docPic
  split
  · refine ⟨?_, fun t ht => ?_⟩
    · show ((allLines s).map (lpic s)).length ≤ _
      rw [List.length_map]
      have := linesP_len s (s.length + 1) 0
      unfold allLines
      omega
    · obtain ⟨l, hl, rfl⟩ := List.mem_map.1 ht
      have := linesP_fl s (s.length + 1) 0 l hl
      show (l.fields.map (fcell s)).length ≤ _
      rw [List.length_map]
      omega
  · exact ⟨Nat.zero_le _, fun t ht => by simp at ht⟩
/-- A grid in the document's memory: small. -/
theorem gd_small (x : GD) (w : World) (s : List UInt8) (h : GDAt x w) (hp : x.pic = docPic s) (hs : s.length ≤ 5000) : x.m ≤ 100000 ∧ ∀ r ∈ x.rs, r.m ≤ 1000000 := by
  obtain ⟨h1, h2⟩ := docPic_bd s hs
  have h3 : x.rs.map RD.pic = (docPic s).1 := congrArg Prod.fst hp
  rw [← h3] at h1 h2
  rw [List.length_map] at h1
  refine ⟨by rw [h.2.1]; omega, fun r hr => ?_⟩
  have := h2 r.pic (List.mem_map.2 ⟨r, hr, rfl⟩)
  rw [(h.2.2 r hr).2]
  show r.cs.length ≤ _
  have h5 : r.pic.1.length = r.cs.length := rfl
  omega
def DGAns (w : World) (s : List UInt8) (en : Ending) (w' : World) : Prop :=
  ∃ x : GD, en = .returned (.tuple #[.agg #[.slice x.B x.m x.d, .bool x.t, .int .i64 x.e], .int .i64 (loadErrP s : Nat)]) ∧ x.pic = docPic s ∧ GDAt x w' ∧ Fr [] w w'
theorem dload_all (w : World) (s : List UInt8) (hs : s.length ≤ 5000) : Calls Try.prog 9 #[.string ⟨s.toArray⟩] w (DGAns w s) := by
  have key : Calls Try.prog 9 #[.string ⟨s.toArray⟩] w (D11Ans [] w s) := by
    rcases Nat.lt_or_ge 4096 s.length with h | h
    · exact d11load_big [] w s h (by omega)
    · exact d11load_any [] w s (Old.nil_ w) h
  refine key.mono ?_
  rintro en w' (⟨h0, he, hf⟩ | ⟨h0, B, m, d, rs, he, hm, hv, hk, hf⟩)
  · refine ⟨⟨none, 0, 0, [], false, 2⟩, he, ?_, ⟨.inl rfl, rfl, fun x hx => by simp at hx⟩, hf⟩
    unfold docPic
    rw [if_neg h0]
    rfl
  · refine ⟨⟨B, m, d, rs, _, _⟩, by rw [h0]; exact he, ?_, ⟨hk.now.1, hm, hk.now.2⟩, hf⟩
    unfold docPic
    rw [if_pos h0, ← hv]
    rfl
/-- The program's grid of a file. -/
structure PG (s : List UInt8) (g : Nat) (p : Option Addr) (tl : Bool) (eo : Int) (sA : List UInt8) (rs : List RW) (w : World) : Prop where
  ar : ArAt g sA w
  tr : TreeAt TN [] w p (rs.map Prod.fst)
  ok : RowsAt [] w sA.length rs
  pic : (rs.map (rpic sA), tl, eo) = docPic s
  no : loadErrP s ≠ 0 → rs = [] ∧ sA = [] ∧ tl = false ∧ eo = 2
  yes : loadErrP s = 0 → sA = s ∧ rs.map rview = (allLines s).map lview ∧ tl = tailP ((allLines s).map (·.e)) ∧ eo = ((eolP ((allLines s).map (·.e)) : Nat) : Int) ∧ (allLines s).length ≤ 400
theorem PG.fr0 {s sA : List UInt8} {g : Nat} {p : Option Addr} {tl : Bool} {eo : Int} {rs : List RW} {w w' : World} (h : PG s g p tl eo sA rs w) (hf : Fr [] w w') : PG s g p tl eo sA rs w' :=
  ⟨h.ar.fr0 hf, h.tr.fr0 hf, h.ok.grow hf fun k hk => .inl hk, h.pic, h.no, h.yes⟩
def GLAns (w : World) (s : List UInt8) (en : Ending) (w' : World) : Prop :=
  ∃ (g : Nat) (p : Option Addr) (tl : Bool) (eo : Int) (sA : List UInt8) (rs : List RW), en = .returned (.tuple #[.agg #[.pointer p, .bool tl, .int .i64 eo], .pointer (some ⟨g, 0, none⟩), .int .i64 (loadErrP s : Nat)]) ∧ PG s g p tl eo sA rs w' ∧ Fr [] w w'
theorem gload_all (w : World) (A : Option Addr) (n c : Nat) (s : List UInt8) (hA : Sl w A (bts s)) (hn : n = s.length) (hs : s.length ≤ 5000) : Calls Try.prog 8 #[.slice A n c] w (GLAns w s) := by
  have key : Calls Try.prog 8 #[.slice A n c] w (LoadAns [] w s) := by
    rcases Nat.lt_or_ge 4096 n with h | h
    · exact gload_big [] w A n c s (Old.nil_ w) hn h (by omega)
    · exact gload_any [] w A n c s (Old.nil_ w) hA hn h
  refine key.mono ?_
  rintro en w' (⟨h0, g, he, hg, hf⟩ | ⟨h0, g, p, rs, he, ha, ht, hr, hv, hf⟩)
  · refine ⟨g, none, false, 2, [], [], he, ⟨hg.now, .inl ⟨rfl, rfl⟩, fun r hr => by simp at hr, ?_, fun _ => ⟨rfl, rfl, rfl, rfl⟩, fun h => absurd h h0⟩, hf⟩
    unfold docPic
    rw [if_neg h0]
    rfl
  · refine ⟨g, p, _, _, s, rs, by rw [h0]; exact he, ⟨ha.now, ht, hr, ?_, fun h => absurd h0 h, fun _ => ⟨rfl, hv, rfl, rfl, ?_⟩⟩, hf⟩
    · unfold docPic
      rw [if_pos h0, rpics s rs (allLines s) hv]
    · unfold loadErrP at h0
      split at h0
      · cases h0
      · split at h0
        · cases h0
        · omega
section
variable {s sA : List UInt8} {g : Nat} {p : Option Addr} {tl : Bool} {eo : Int} {rs : List RW} {w : World}
theorem PG.plain (h : PG s g p tl eo sA rs w) (hs : s.length ≤ 5000) :
    Calls Try.prog 11 #[.pointer (some ⟨g, 0, none⟩), .agg #[.pointer p, .bool tl, .int .i64 eo]] w fun en w' => ∃ x : GD, en = .returned (.agg #[.slice x.B x.m x.d, .bool x.t, .int .i64 x.e]) ∧ x.pic = docPic s ∧ GDAt x w' ∧ Fr [] w w' := by
  have key : rs.length ≤ 700 ∧ (∀ r ∈ rs, ∀ c ∈ r.2, (plc c.sp).length ≤ 1000000) ∧ (∀ r ∈ rs, r.2.length ≤ 1000000) ∧ sA.length ≤ 1000000 := by
    by_cases h0 : loadErrP s = 0
    · obtain ⟨h1, hv, _, _, h4⟩ := h.yes h0
      rw [h1]
      refine ⟨by rw [view_len hv]; omega, fun r hr c hc => ?_, fun r hr => ?_, by omega⟩
      · have h1 : rview r ∈ (allLines s).map lview := by rw [← hv]; exact List.mem_map.2 ⟨r, hr, rfl⟩
        obtain ⟨l, hl, hl2⟩ := List.mem_map.1 h1
        have h2 : r.2.map CV.view = l.fields.map fview := congrArg (fun x => x.2.2) hl2.symm
        have h3 : CV.view c ∈ l.fields.map fview := by rw [← h2]; exact List.mem_map.2 ⟨c, hc, rfl⟩
        obtain ⟨f, hf, hf2⟩ := List.mem_map.1 h3
        have h5 : plc c.sp = f.places := (congrArg Prod.fst hf2).symm
        have := (linesP_bd s (s.length + 1) 0 l hl f hf).2
        rw [h5]
        omega
      · have h1 : r.2.length ∈ rs.map (·.2.length) := List.mem_map.2 ⟨r, hr, rfl⟩
        rw [view_flds hv] at h1
        obtain ⟨l, hl, hl2⟩ := List.mem_map.1 h1
        have := linesP_fl s (s.length + 1) 0 l hl
        omega
    · obtain ⟨rfl, rfl, _, _⟩ := h.no h0
      exact ⟨Nat.zero_le _, fun r hr => by simp at hr, fun r hr => by simp at hr, Nat.zero_le _⟩
  refine (p11_any [] w p tl eo g rs.length sA rs (Old.nil_ w) h.ar h.tr h.ok rfl key.1 key.2.1 key.2.2.1 key.2.2.2).mono ?_
  rintro en w' ⟨x, he, hx, hk, hf⟩
  have h1 : x.pic = docPic s := hx.trans h.pic
  have h2 : x.t = tl := congrArg (fun y => y.2.1) hx
  have h3 : x.e = eo := congrArg (fun y => y.2.2) hx
  exact ⟨x, by rw [h2, h3]; exact he, h1, hk.now, hf⟩
theorem PG.save_no (h : PG s g p tl eo sA rs w) (h0 : loadErrP s ≠ 0) :
    Calls Try.prog 14 #[.agg #[.pointer p, .bool tl, .int .i64 eo], .pointer (some ⟨g, 0, none⟩)] w (BytesAns w []) := by
  obtain ⟨rfl, rfl, rfl, rfl⟩ := h.no h0
  exact save_any w p false 2 g 0 [] [] h.ar h.tr h.ok rfl (by omega) (fun r hr => by simp at hr) (fun r hr => by simp at hr) (by omega) (by simp) (fun r hr => by simp at hr)
theorem PG.len_no (h : PG s g p tl eo sA rs w) (h0 : loadErrP s ≠ 0) :
    Calls Try.prog 13 #[.agg #[.pointer p, .bool tl, .int .i64 eo]] w fun e w' => e = .returned (.int .i64 0) ∧ Fr [] w w' := by
  obtain ⟨rfl, rfl, rfl, rfl⟩ := h.no h0
  exact glen_any [] p [] false 2 w h.tr
theorem PG.arlen_no (h : PG s g p tl eo sA rs w) (h0 : loadErrP s ≠ 0) :
    Calls Try.prog 12 #[.pointer (some ⟨g, 0, none⟩)] w fun e w' => e = .returned (.int .i64 0) ∧ Fr [] w w' := by
  obtain ⟨rfl, rfl, rfl, rfl⟩ := h.no h0
  exact arlen_any w g [] h.ar
theorem eolP_le (es : List Nat) (h : ∀ e ∈ es, e ≤ 3) : eolP es ≤ 3 := by
  induction es with
  | nil => decide
  | cons e es ih =>
    show (if e = 0 then eolP es else e) ≤ 3
    split
    · exact ih fun x hx => h x (List.mem_cons_of_mem _ hx)
    · exact h e (List.mem_cons_self ..)
theorem endP_le (s : List UInt8) (t : Nat) : (endP s t).1 ≤ 3 := by
  unfold endP
  split
  · decide
  · split
    · split <;> decide
    · decide
theorem linesP_e (s : List UInt8) : ∀ (k a : Nat), ∀ l ∈ linesP s k a, l.e ≤ 3
  | 0, a => by simp [linesP]
  | k + 1, a => by
    intro x hx
    by_cases h : a < s.length
    · rw [show linesP s (k + 1) a = (lineP s a).1 :: linesP s k (lineP s a).2 by show (if a < s.length then _ else _) = _; rw [if_pos h]] at hx
      rcases List.mem_cons.1 hx with rfl | hx
      · exact endP_le s _
      · exact linesP_e s k _ x hx
    · rw [show linesP s (k + 1) a = [] by show (if a < s.length then _ else _) = _; rw [if_neg h]] at hx
      simp at hx
theorem errP_rows (ls : List LineP) (h : errP ls = 0) : ∀ l ∈ ls, l.fields.length ≤ 40 := by
  induction ls with
  | nil => intro l hl; simp at hl
  | cons a ls ih =>
    have h1 : (if rowErrP a.fields = 0 then errP ls else rowErrP a.fields) = 0 := h
    split at h1
    · rename_i h2
      intro l hl
      rcases List.mem_cons.1 hl with rfl | hl
      · unfold rowErrP at h2
        split at h2
        · cases h2
        · omega
      · exact ih h1 l hl
    · rename_i h2
      exact absurd h1 h2
theorem PG.save_yes (h : PG s g p tl eo sA rs w) (h0 : loadErrP s = 0) (hs : s.length ≤ 5000) :
    Calls Try.prog 14 #[.agg #[.pointer p, .bool tl, .int .i64 eo], .pointer (some ⟨g, 0, none⟩)] w (BytesAns w s) := by
  obtain ⟨h1, hv, h2, h3, h4⟩ := h.yes h0
  have h5 : errP (allLines s) = 0 := by
    unfold loadErrP at h0
    split at h0
    · cases h0
    · split at h0
      · cases h0
      · exact h0
  have he : ∀ l ∈ allLines s, l.e ≤ 3 := linesP_e s (s.length + 1) 0
  have har := h.ar
  have hok := h.ok
  rw [h1] at har hok
  have hl := view_len hv
  have hsv := save_any w p tl (eolP ((allLines s).map (·.e))) g rs.length s rs har h.tr hok rfl (by omega) (view_kept hv) (view_end hv he) (eolP_le _ (fun e hm => by obtain ⟨l, hl, rfl⟩ := List.mem_map.1 hm; exact he l hl)) hs (fun r hr => by
    have h6 : r.2.length ∈ rs.map (·.2.length) := List.mem_map.2 ⟨r, hr, rfl⟩
    rw [view_flds hv] at h6
    obtain ⟨l, hl, hl2⟩ := List.mem_map.1 h6
    have := errP_rows _ h5 l hl
    omega)
  rw [saves_line s _ _ tl rs (allLines s) 0 hv, hl, h2, save_all] at hsv
  rw [h3, h2]
  exact hsv
end
set_option maxHeartbeats 800000 in
theorem cut_any (w : World) (s : List UInt8) : Calls Try.prog 7 #[.string ⟨s.toArray⟩, .int .i64 4200] w fun e w' => e = .returned (.string ⟨(s.take 4200).toArray⟩) ∧ w = w' := by
  have HC : Hid ((⟨s.toArray⟩ : ByteArray).extract 0 4200 = ⟨(s.take 4200).toArray⟩) := by show _ = _; rw [str_cut, List.drop_zero]
  by_cases h : 4200 < s.length
  · have h1 : (4200 : Int) < (s.length : Int) := by omega
    have h2 : (4200 : Int) ≤ (s.length : Int) := by omega
    clear h
    go_enter Try.func7, Try.ntmps7
    go_wp2_with fail
    go_ret
    rw [HC.out]
    exact ⟨rfl, rfl⟩
  · have h1 : ¬ (4200 : Int) < (s.length : Int) := by omega
    have ht : s.take 4200 = s := List.take_of_length_le (by omega)
    rw [ht]
    clear h HC ht
    go_enter Try.func7, Try.ntmps7
    go_wp2_with fail
    go_ret
    exact ⟨rfl, rfl⟩
end Go.Proofs.Ytblafakafgediaa
