import Derived.Test.YtblafakafgediaaH36
import Derived.Lib.SlBytesConst
namespace Go.Proofs.Ytblafakafgediaa
open Go.RowKit Go.Proofs.Dm

/-- The chapter's example. -/
def exS : List UInt8 := [97, 44, 98, 10, 99]
theorem exS_err : loadErrP exS = 0 := by decide
theorem exS_tail : tailP ((allLines exS).map (·.e)) = false := by decide
theorem exS_eol : eolP ((allLines exS).map (·.e)) = 1 := by decide
theorem exS_len : (allLines exS).length = 2 := by decide
theorem exS_flds : (allLines exS).map (·.fields.length) = [2, 1] := by decide
theorem exS_end : ∀ l ∈ allLines exS, l.e ≤ 3 := by decide
theorem exS_one : saveL exS 1 false 1 0 ((allLines exS).eraseIdx 0) = [99] := by decide
theorem exS_all : saveL exS 2 false 1 0 (allLines exS) = exS := by decide
/-- A grid of the example's rows. -/
structure ExAt (g : Nat) (p : Option Addr) (rs : List RW) (w : World) : Prop where
  ar : ArAt g exS w
  tr : TreeAt TN [] w p (rs.map Prod.fst)
  ok : RowsAt [] w exS.length rs
theorem ExAt.fr0 {g : Nat} {p : Option Addr} {rs : List RW} {w w' : World} (h : ExAt g p rs w) (hf : Fr [] w w') : ExAt g p rs w' :=
  ⟨h.ar.fr0 hf, h.tr.fr0 hf, h.ok.grow hf fun k hk => .inl hk⟩
def ExAns (w : World) (e : Ending) (w' : World) : Prop :=
  ∃ (g : Nat) (p : Option Addr) (rs : List RW), e = .returned (.tuple #[.agg #[.pointer p, .bool false, .int .i64 1], .pointer (some ⟨g, 0, none⟩), .int .i64 0]) ∧ ExAt g p rs w' ∧ rs.map rview = (allLines exS).map lview ∧ Fr [] w w'
theorem ex_load (w : World) (A : Option Addr) (c : Nat) (hA : Sl w A (bts exS)) : Calls Try.prog 8 #[.slice A 5 c] w (ExAns w) := by
  refine (gload_any [] w A 5 c exS (Old.nil_ w) hA rfl (by omega)).mono ?_
  rintro e w' (⟨h, _⟩ | ⟨_, g, p, rs, he, ha, ht, hr, hv, hf⟩)
  · exact absurd exS_err h
  · rw [exS_tail, exS_eol] at he
    exact ⟨g, p, rs, he, ⟨ha.now, ht, hr⟩, hv, hf⟩
theorem map_erase {α β : Type} (f : α → β) : ∀ (l : List α) (i : Nat), (l.eraseIdx i).map f = (l.map f).eraseIdx i
  | [], _ => rfl
  | _ :: _, 0 => rfl
  | a :: l, i + 1 => by
    show f a :: (l.eraseIdx i).map f = f a :: (l.map f).eraseIdx i
    rw [map_erase f l i]
section
variable {rs : List RW} {ls : List LineP}
theorem view_len (h : rs.map rview = ls.map lview) : rs.length = ls.length := by
  have := congrArg List.length h
  simpa using this
theorem view_kept (h : rs.map rview = ls.map lview) : ∀ r ∈ rs, ∀ c ∈ r.2, Short c := by
  intro r hr c hc
  left
  have h1 : rview r ∈ ls.map lview := by rw [← h]; exact List.mem_map.2 ⟨r, hr, rfl⟩
  obtain ⟨l, _, hl⟩ := List.mem_map.1 h1
  have h2 : r.2.map CV.view = l.fields.map fview := congrArg (fun x => x.2.2) hl.symm
  have h3 : CV.view c ∈ l.fields.map fview := by rw [← h2]; exact List.mem_map.2 ⟨c, hc, rfl⟩
  obtain ⟨f, _, hf⟩ := List.mem_map.1 h3
  exact (congrArg (fun x => x.2.2.2) hf).symm
theorem view_end (h : rs.map rview = ls.map lview) (hl : ∀ l ∈ ls, l.e ≤ 3) : ∀ r ∈ rs, ∃ k : Nat, r.1.e = (k : Int) ∧ k ≤ 3 := by
  intro r hr
  have h1 : rview r ∈ ls.map lview := by rw [← h]; exact List.mem_map.2 ⟨r, hr, rfl⟩
  obtain ⟨l, hm, hl2⟩ := List.mem_map.1 h1
  exact ⟨l.e, (congrArg Prod.fst hl2).symm, hl l hm⟩
theorem view_flds (h : rs.map rview = ls.map lview) : rs.map (·.2.length) = ls.map (·.fields.length) := by
  have h1 : rs.map (·.2.length) = (rs.map rview).map (·.2.2.length) := by rw [List.map_map]; apply List.map_congr_left; intro r _; simp [rview]
  have h2 : ls.map (·.fields.length) = (ls.map lview).map (·.2.2.length) := by rw [List.map_map]; apply List.map_congr_left; intro r _; simp [lview]
  rw [h1, h2, h]
theorem view_erase (h : rs.map rview = ls.map lview) (i : Nat) : (rs.eraseIdx i).map rview = (ls.eraseIdx i).map lview := by
  rw [map_erase, map_erase, h]
end
theorem ex_small {rs : List RW} (h : rs.map rview = (allLines exS).map lview) : ∀ r ∈ rs, r.2.length ≤ 2 := by
  intro r hr
  have h1 := view_flds h
  rw [exS_flds] at h1
  have h2 : r.2.length ∈ rs.map (·.2.length) := List.mem_map.2 ⟨r, hr, rfl⟩
  rw [h1] at h2
  simp at h2
  omega
theorem ex_save (w : World) (g n : Nat) (p : Option Addr) (rs : List RW) (ls : List LineP) (hx : ExAt g p rs w) (hv : rs.map rview = ls.map lview) (hn : n = rs.length) (h7 : n ≤ 2) (hc : ∀ r ∈ rs, r.2.length ≤ 2) (he : ∀ l ∈ ls, l.e ≤ 3) :
    Calls Try.prog 14 #[.agg #[.pointer p, .bool false, .int .i64 1], .pointer (some ⟨g, 0, none⟩)] w (BytesAns w (saveL exS n false 1 0 ls)) := by
  have h := save_any w p false 1 g n exS rs hx.ar hx.tr hx.ok hn (by omega) (view_kept hv) (view_end hv he) (by omega) (by decide) (fun r hr => by have := hc r hr; omega)
  rw [saves_line exS n 1 false rs ls 0 hv] at h
  exact h
theorem ex_width (w : World) (g : Nat) (p : Option Addr) (rs : List RW) (hx : ExAt g p rs w) (hv : rs.map rview = (allLines exS).map lview) :
    Calls Try.prog 42 #[.agg #[.pointer p, .bool false, .int .i64 1]] w fun e w' => e = .returned (.int .i64 2) ∧ Fr [] w w' := by
  have hl : rs.length = 2 := (view_len hv).trans exS_len
  have hn : ∀ r ∈ rs, r.1.n = r.2.length := fun r hr => (hx.ok r hr).1
  have hw : widthP (rs.map Prod.fst) = 2 := by
    unfold widthP
    have h1 : (rs.map Prod.fst).map RV.n = rs.map (·.2.length) := by rw [List.map_map]; apply List.map_congr_left; intro r hr; exact hn r hr
    rw [h1, view_flds hv, exS_flds]
    rfl
  have h := gwidth_any w p false 1 2 (rs.map Prod.fst) hx.tr (by rw [List.length_map, hl]) (by omega) (fun r hr => by
    obtain ⟨x, hx1, rfl⟩ := List.mem_map.1 hr
    rw [hn x hx1]
    have := ex_small hv x hx1
    omega)
  rw [hw] at h
  exact h
theorem ex_len (w : World) (g : Nat) (p : Option Addr) (rs : List RW) (hx : ExAt g p rs w) (hv : rs.map rview = (allLines exS).map lview) :
    Calls Try.prog 13 #[.agg #[.pointer p, .bool false, .int .i64 1]] w fun e w' => e = .returned (.int .i64 2) ∧ Fr [] w w' := by
  have h := glen_any [] p (rs.map Prod.fst) false 1 w hx.tr
  rw [List.length_map, view_len hv, exS_len] at h
  exact h
theorem ex_delete (w : World) (g : Nat) (p : Option Addr) (rs : List RW) (hx : ExAt g p rs w) (hv : rs.map rview = (allLines exS).map lview) :
    Calls Try.prog 41 #[.agg #[.pointer p, .bool false, .int .i64 1], .int .i64 0] w fun e w' => ∃ p2, e = .returned (.tuple #[.agg #[.pointer p2, .bool false, .int .i64 1], .int .i64 0]) ∧ ExAt g p2 (rs.eraseIdx 0) w' ∧ Fr [] w w' := by
  have hl : rs.length = 2 := (view_len hv).trans exS_len
  refine (gdelete_yes [] w p false 1 0 (rs.map Prod.fst) (Old.nil_ w) hx.tr (by rw [List.length_map, hl]; omega) (by rw [List.length_map, hl]; omega)).mono ?_
  rintro e w' ⟨p2, he, ht, hf⟩
  have h1 := hx.fr0 hf
  rw [← map_erase] at ht
  exact ⟨p2, he, ⟨h1.ar, ht, fun r hr => h1.ok r (List.mem_of_mem_eraseIdx hr)⟩, hf⟩
set_option maxRecDepth 100000 in
set_option maxHeartbeats 1600000 in
theorem awake_yes (w : World) : Calls Try.prog 15 #[] w fun e w' => e = .returned (.bool true) ∧ Fr [] w w' := by
  have HW : Hid (∀ W1, W1 = w.alloc (.cells #[.int .u8 97, .int .u8 44, .int .u8 98, .int .u8 10, .int .u8 99] TU8 (5, 6)) → Fr [] w W1 ∧ Sl W1 (some ⟨w.heap.size, 0, none⟩) (bts exS)) := by
    show ∀ _, _
    rintro W1 rfl
    refine ⟨(Fr.refl [] w).alloc _, .inr ⟨_, rfl, fun j u hu => ?_⟩⟩
    rw [add_lit, World.cell?_alloc_mark, ← hu, show bts exS = (#[.int .u8 97, .int .u8 44, .int .u8 98, .int .u8 10, .int .u8 99] : Array Value).toList from rfl, Array.getElem?_toList]
  have hcb := Lib.run_convert_bytes_const (P := Try.prog) w 32 TU8 #[.int .u8 97, .int .u8 44, .int .u8 98, .int .u8 10, .int .u8 99] 5 5 Try.underlying32 Try.underlying5
  go_enter Try.func15, Try.ntmps15
  go_wp2_with fail
  obtain ⟨W1, hW1⟩ : ∃ W1, W1 = w.alloc (.cells #[.int .u8 97, .int .u8 44, .int .u8 98, .int .u8 10, .int .u8 99] TU8 (5, 6)) := ⟨_, rfl⟩
  obtain ⟨k1, k2⟩ := HW.out W1 hW1
  rw [← hW1]
  clear hW1 HW hcb
  refine (ex_load W1 _ 5 k2).mono ?_
  rintro en w2 ⟨g, p, rs, rfl, hx2, hv, hf2⟩
  have HV := Lib.hid hv
  have HF2 := Lib.hid (k1.trans hf2)
  have HW2 : Hid (∀ W, W = w2.alloc (.cells #[.pointer p, .bool false, .int .i64 1] TGr) → Fr [] w W ∧ Blk W w2.heap.size TGr #[.pointer p, .bool false, .int .i64 1] ∧ ExAt g p rs W) := by
    show ∀ _, _
    rintro W rfl
    exact ⟨HF2.out.alloc _, Blk.new w2 TGr _, hx2.fr0 ((Fr.refl [] w2).alloc _)⟩
  clear hv hx2 hf2 k1 k2
  go_wp2_with fail
  obtain ⟨w3, hw3⟩ : ∃ w3, w3 = w2.alloc (.cells #[.pointer p, .bool false, .int .i64 1] TGr) := ⟨_, rfl⟩
  obtain ⟨k1, k2, k3⟩ := HW2.out w3 hw3
  rw [← hw3]
  obtain ⟨T, hT⟩ : ∃ T, T = w2.heap.size := ⟨_, rfl⟩
  rw [← hT] at k2 ⊢
  have HX3 := Lib.hid k3
  have HF3 := Lib.hid k1
  have HB3 := Lib.hid k2
  clear hw3 hT k1 k2 k3 HW2
  refine (ex_delete w3 g p rs HX3.out HV.out).mono ?_
  rintro en w4 ⟨p2, rfl, hx4, hf4⟩
  have HF4 := Lib.hid hf4
  have HW4 : Hid (∀ W, W = w4.alloc (.cells #[.pointer p2, .bool false, .int .i64 1] TGr) → Fr [] w3 W ∧ Blk W w4.heap.size TGr #[.pointer p2, .bool false, .int .i64 1] ∧ ExAt g p2 (rs.eraseIdx 0) W) := by
    show ∀ _, _
    rintro W rfl
    exact ⟨HF4.out.alloc _, Blk.new w4 TGr _, hx4.fr0 ((Fr.refl [] w4).alloc _)⟩
  have hb4 := HB3.out.fr hf4 (by simp)
  have hb5 := hb4.alloc (.cells #[.pointer p2, .bool false, .int .i64 1] TGr)
  have t0 : (w4.alloc (.cells #[.pointer p2, .bool false, .int .i64 1] TGr)).cell? ⟨T, 0, none⟩ = some (.pointer p) := hb5.cell 0
  have t1 : (w4.alloc (.cells #[.pointer p2, .bool false, .int .i64 1] TGr)).cell? ⟨T, 1, none⟩ = some (.bool false) := hb5.cell 1
  have t2 : (w4.alloc (.cells #[.pointer p2, .bool false, .int .i64 1] TGr)).cell? ⟨T, 2, none⟩ = some (.int .i64 1) := hb5.cell 2
  clear hx4 hf4 hb4 hb5
  go_wp2_with fail
  obtain ⟨w5, hw5⟩ : ∃ w5, w5 = w4.alloc (.cells #[.pointer p2, .bool false, .int .i64 1] TGr) := ⟨_, rfl⟩
  obtain ⟨k1, k2, k3⟩ := HW4.out w5 hw5
  rw [← hw5]
  obtain ⟨H, hH⟩ : ∃ H, H = w4.heap.size := ⟨_, rfl⟩
  rw [← hH] at k2 ⊢
  have HX5 := Lib.hid k3
  have HF5 := Lib.hid (HF3.out.trans k1)
  have HB5 : Hid (Blk w5 T TGr #[.pointer p, .bool false, .int .i64 1] ∧ Blk w5 H TGr #[.pointer p2, .bool false, .int .i64 1]) := ⟨HB3.out.fr k1 (by simp), k2⟩
  have HXG := Lib.hid (HX3.out.fr0 k1)
  have HCELL : Hid (∀ w', Fr [] w5 w' → w'.cell? ⟨T, 0, none⟩ = some (.pointer p) ∧ w'.cell? ⟨T, 1, none⟩ = some (.bool false) ∧ w'.cell? ⟨T, 2, none⟩ = some (.int .i64 1) ∧ w'.cell? ⟨H, 0, none⟩ = some (.pointer p2) ∧ w'.cell? ⟨H, 1, none⟩ = some (.bool false) ∧ w'.cell? ⟨H, 2, none⟩ = some (.int .i64 1)) := by
    show ∀ _, _
    intro w' hf
    have h1 := HB5.out.1.fr hf (by simp)
    have h2 := HB5.out.2.fr hf (by simp)
    exact ⟨h1.cell 0, h1.cell 1, h1.cell 2, h2.cell 0, h2.cell 1, h2.cell 2⟩
  clear hw5 hH k1 k2 k3 HW4 t0 t1 t2
  refine (ex_len w5 g p rs HXG.out HV.out).mono ?_
  rintro en w6 ⟨rfl, hf6⟩
  have HF6 := Lib.hid hf6
  obtain ⟨c0, c1, c2, d0, d1, d2⟩ := HCELL.out _ HF6.out
  clear hf6
  go_wp2_with fail
  refine (ex_width w6 g p rs (HXG.out.fr0 HF6.out) HV.out).mono ?_
  rintro en w7 ⟨rfl, hf7⟩
  have HF7 := Lib.hid (HF6.out.trans hf7)
  clear c0 c1 c2 d0 d1 d2 hf7
  obtain ⟨c0, c1, c2, d0, d1, d2⟩ := HCELL.out _ HF7.out
  go_wp2_with fail
  refine (ex_save w7 g 1 p2 (rs.eraseIdx 0) ((allLines exS).eraseIdx 0) (HX5.out.fr0 HF7.out) (view_erase HV.out 0) ?_ (by omega) (fun r hr => ex_small HV.out r (List.mem_of_mem_eraseIdx hr)) (fun l hl => exS_end l (List.mem_of_mem_eraseIdx hl))).mono ?_
  · rw [List.length_eraseIdx, view_len HV.out, exS_len]; rfl
  rw [exS_one]
  rintro en w8 ⟨B8, k8, m8, rfl, hk8, ho8, hf8, hn8⟩
  have hcv := run_str (P := Try.prog) w8 _ TU8 _ Try.underlying32 Try.underlying5 Try.underlying9 B8 k8 m8 _ hk8 (ORow.sl ho8)
  have HF8 := Lib.hid (HF7.out.trans hf8)
  clear c0 c1 c2 d0 d1 d2 hk8 ho8 hf8 hn8
  obtain ⟨c0, c1, c2, d0, d1, d2⟩ := HCELL.out _ HF8.out
  go_wp2_with fail
  refine (ex_save w8 g 2 p rs (allLines exS) (HXG.out.fr0 HF8.out) HV.out ((view_len HV.out).trans exS_len).symm (by omega) (ex_small HV.out) exS_end).mono ?_
  rw [exS_all]
  rintro en w9 ⟨B9, k9, m9, rfl, hk9, ho9, hf9, hn9⟩
  have hcv := run_str (P := Try.prog) w9 _ TU8 _ Try.underlying32 Try.underlying5 Try.underlying9 B9 k9 m9 _ hk9 (ORow.sl ho9)
  have HF9 := Lib.hid (HF8.out.trans hf9)
  clear c0 c1 c2 d0 d1 d2 hk9 ho9 hf9 hn9
  obtain ⟨c0, c1, c2, d0, d1, d2⟩ := HCELL.out _ HF9.out
  unfold exS at hcv
  go_wp2_with fail
  go_ret
  exact ⟨rfl, HF5.out.trans HF9.out⟩
end Go.Proofs.Ytblafakafgediaa
