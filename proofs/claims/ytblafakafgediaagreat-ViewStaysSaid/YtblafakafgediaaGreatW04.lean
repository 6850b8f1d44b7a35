import Derived.Test.YtblafakafgediaaGreatW03
import Derived.Deep.RegionWith
import Derived.Deep.RegionLaw
namespace Go.Proofs.YtblafakafgediaaGreat
open Go.RowKit Go.Proofs.Dm

abbrev TSp : TypeId := 102
abbrev TPs : TypeId := 312
/-- Spans as they lie. -/
def sp2 (x : Nat × Nat) : List Value := [.int .i64 (x.1 : Nat), .int .i64 (x.2 : Nat)]
def spc (sp : List (Nat × Nat)) : List Value := sp.flatMap sp2
theorem spc_len (sp : List (Nat × Nat)) : (spc sp).length = sp.length * 2 := enc_len (sz := 2) (fun _ => rfl) sp
theorem spc_app (a b : List (Nat × Nat)) : spc (a ++ b) = spc a ++ spc b := by simp [spc]
theorem spc_one (sp : List (Nat × Nat)) : ∀ u ∈ spc sp, u.oneCell' = true := by
  refine enc_one (fun x u hu => ?_) sp
  simp only [sp2, List.mem_cons, List.not_mem_nil, or_false] at hu
  rcases hu with rfl | rfl <;> rfl
/-- The places of spans. -/
def plc (sp : List (Nat × Nat)) : List Nat := sp.flatMap fun x => List.range' x.1 x.2
theorem plc_app (a b : List (Nat × Nat)) : plc (a ++ b) = plc a ++ plc b := by simp [plc]
theorem plc_one (a n : Nat) : plc [(a, n)] = List.range' a n := by simp [plc]
set_option maxHeartbeats 400000 in
theorem join_yes (a n m : Nat) (w : World) (h : a + n + m ≤ 1000000) :
    Calls Tryz.prog 239 #[.agg #[.int .i64 (a : Nat), .int .i64 (n : Nat)], .agg #[.int .i64 ((a + n : Nat) : Int), .int .i64 (m : Nat)]] w fun e w' => e = .returned (.tuple #[.agg #[.int .i64 (a : Nat), .int .i64 ((n + m : Nat) : Int)], .bool true]) ∧ Fr [] w w' := by
  obtain ⟨b, hb⟩ : ∃ b, b = a + n := ⟨_, rfl⟩
  obtain ⟨k, hk⟩ : ∃ k, k = n + m := ⟨_, rfl⟩
  rw [← hb, ← hk]
  have h1 : (a : Int) + (n : Int) = (b : Int) := by omega
  have h2 : (n : Int) + (m : Int) = (k : Int) := by omega
  have b1 : (b : Int) ≤ 1000000 := by omega
  have b2 : (k : Int) ≤ 1000000 := by omega
  clear hb hk h
  go_enter Tryz.func239, Tryz.ntmps239
  go_wp2_with fail
  exact bodyPost_ret (v := .tuple #[.agg #[.int .i64 (a : Nat), .int .i64 (k : Nat)], .bool true]) (by simp [results, Tryz.results239, go_sem]) rfl ⟨rfl, (((Fr.refl [] w).alloc _).alloc _).alloc _⟩
set_option maxHeartbeats 400000 in
theorem join_no (a n b m : Nat) (w : World) (h : a + n ≤ 1000000) (hne : b ≠ a + n) :
    Calls Tryz.prog 239 #[.agg #[.int .i64 (a : Nat), .int .i64 (n : Nat)], .agg #[.int .i64 (b : Nat), .int .i64 (m : Nat)]] w fun e w' => e = .returned (.tuple #[.agg #[.int .i64 0, .int .i64 0], .bool false]) ∧ Fr [] w w' := by
  obtain ⟨k, hk⟩ : ∃ k, k = a + n := ⟨_, rfl⟩
  rw [← hk] at hne
  have h1 : (a : Int) + (n : Int) = (k : Int) := by omega
  have h2 : ¬ (b : Int) = (k : Int) := by omega
  have b1 : (k : Int) ≤ 1000000 := by omega
  clear hk h
  go_enter Tryz.func239, Tryz.ntmps239
  go_wp2_with fail
  exact bodyPost_ret (v := .tuple #[.agg #[.int .i64 0, .int .i64 0], .bool false]) (by simp [results, Tryz.results239, go_sem]) rfl ⟨rfl, (((Fr.refl [] w).alloc _).alloc _).alloc _⟩
/-- Parts: spans that grow. -/
def PartsAt (w : World) (p : Nat) (B : Option Addr) (d : Nat) (sp : List (Nat × Nat)) : Prop := Blk w p TPs #[.slice B sp.length d] ∧ ORow w TSp 2 B d sp.length (spc sp) ∧ bk B ≠ some p
def AddAns (w : World) (p N : Nat) (B : Option Addr) (sp : List (Nat × Nat)) (f t : Nat) (e : Ending) (w' : World) : Prop :=
  ∃ (B' : Option Addr) (d' : Nat) (sp' : List (Nat × Nat)), e = .returned (.tuple #[]) ∧ PartsAt w' p B' d' sp' ∧ plc sp' = plc sp ++ List.range' f (t - f) ∧ (∀ x ∈ sp', 1 ≤ x.2 ∧ x.1 + x.2 ≤ N) ∧ sp'.length ≤ sp.length + 1 ∧ Fr [some p, bk B] w w' ∧ (bk B' = bk B ∨ ∃ j, bk B' = some j ∧ w.heap.size ≤ j)
theorem add_nothing (w : World) (p N d f t : Nat) (B : Option Addr) (sp : List (Nat × Nat)) (h : PartsAt w p B d sp) (hN : ∀ x ∈ sp, 1 ≤ x.2 ∧ x.1 + x.2 ≤ N) (ht : t ≤ f) :
    Calls Tryz.prog 246 #[.pointer (some ⟨p, 0, none⟩), .int .i64 (f : Nat), .int .i64 (t : Nat)] w (AddAns w p N B sp f t) := by
  have HEND : Hid (AddAns w p N B sp f t (.returned (.tuple #[])) w) := ⟨B, d, sp, rfl, h, by rw [show t - f = 0 by omega]; simp, hN, by omega, Fr.refl _ _, .inl rfl⟩
  have h1 : (t : Int) ≤ (f : Int) := by omega
  clear h hN ht
  go_enter Tryz.func246, Tryz.ntmps246
  go_wp2_with fail
  refine bodyPost_ret (results_none rfl _ _ _) rfl ?_
  exact HEND.out
/-- One span more. -/
theorem parts_push {w wa w2 : World} {p d d2 : Nat} {B B2 : Option Addr} {sp : List (Nat × Nat)} {x : Nat × Nat} (h : PartsAt w p B d sp) (hfa : Fr [] w wa) (hr : ORow w2 TSp 2 B2 d2 (sp.length + 1) (spc sp ++ sp2 x)) (hg : Fr [bk B] wa w2) (hb : bk B2 = bk B ∨ bk B2 = some wa.heap.size) :
    PartsAt (w2.setCell ⟨p, 0, none⟩ (.slice B2 (sp.length + 1) d2)) p B2 d2 (sp ++ [x]) ∧ Fr [some p, bk B] w (w2.setCell ⟨p, 0, none⟩ (.slice B2 (sp.length + 1) d2)) ∧ (bk B2 = bk B ∨ ∃ j, bk B2 = some j ∧ w.heap.size ≤ j) := by
  obtain ⟨h1, h2, h3⟩ := h
  have hsz := hfa.size
  have hpl := h1.lt
  have hblk : Blk w2 p TPs #[.slice B sp.length d] := (h1.fr hfa (by simp)).fr hg (by rw [List.mem_singleton]; exact fun e => h3 e.symm)
  have hne : bk B2 ≠ some p := by
    rcases hb with hb | hb
    · rw [hb]; exact h3
    · rw [hb]; intro e; injection e with e; omega
  have hset : Fr [some p] w2 (w2.setCell ⟨p, 0, none⟩ (.slice B2 (sp.length + 1) d2)) := (Fr.refl _ w2).setB (by simp) 0 _
  refine ⟨⟨by rw [List.length_append]; exact hblk.set_ 0 _, ?_, hne⟩, ?_, ?_⟩
  · rw [spc_app, List.length_append]
    refine ORow.fr ?_ hset ?_
    · simpa [spc] using hr
    · cases hb2 : bk B2 with
      | none => exact .inl rfl
      | some j => exact .inr (by rw [List.mem_singleton, ← hb2]; exact hne)
  · exact (hfa.of_nil.trans (hg.weaken fun i _ hi => by rw [List.mem_singleton] at hi; rw [hi]; exact List.mem_cons_of_mem _ (List.mem_singleton.2 rfl))).trans (hset.weaken fun i _ hi => by rw [List.mem_singleton] at hi; rw [hi]; exact List.mem_cons_self ..)
  · rcases hb with hb | hb
    · exact .inl hb
    · exact .inr ⟨_, hb, hsz⟩
theorem parts_cells {w wa w2 : World} {p d : Nat} {B : Option Addr} {sp : List (Nat × Nat)} (h : PartsAt w p B d sp) (hfa : Fr [] w wa) (hg : Fr [bk B] wa w2) : w2.cell? ⟨p, 0, none⟩ = some (.slice B sp.length d) ∧ w2.frozen? ⟨p, 0, none⟩ = false ∧ p < w2.heap.size := by
  have hblk : Blk w2 p TPs #[.slice B sp.length d] := (h.1.fr hfa (by simp)).fr hg (by rw [List.mem_singleton]; exact fun e => h.2.2 e.symm)
  exact ⟨hblk.cell 0, hblk.frozen 0, hblk.lt⟩
theorem sl_span (w : World) (x : Nat × Nat) (t : TypeId) : Sl (w.alloc (.cells #[.int .i64 (x.1 : Nat), .int .i64 (x.2 : Nat)] t)) (some ⟨w.heap.size, 0, none⟩) (sp2 x) := blk_sl (cs := sp2 x) (Blk.new w t _) 2
theorem infoSp : (Tryz.prog.info? TSp).map (fun i => (i.zero, i.size, i.bytes)) = some (some (Value.agg #[.int .i64 0, .int .i64 0]), 2, 16) := by kernel_rfl
set_option maxRecDepth 100000 in
set_option maxHeartbeats 800000 in
theorem add_first (w : World) (p N d f t : Nat) (B : Option Addr) (h : PartsAt w p B d []) (ht : f < t) (hN : t ≤ N) (hn : N ≤ 1000000) :
    Calls Tryz.prog 246 #[.pointer (some ⟨p, 0, none⟩), .int .i64 (f : Nat), .int .i64 (t : Nat)] w (AddAns w p N B [] f t) := by
  obtain ⟨m, hm⟩ : ∃ m, m = t - f := ⟨_, rfl⟩
  have c0 : w.cell? ⟨p, 0, none⟩ = some (.slice B 0 d) := h.1.cell 0
  have hpl := h.1.lt
  have h1 : ¬ (t : Int) ≤ (f : Int) := by omega
  have hsub : (t : Int) - (f : Int) = (m : Int) := by omega
  have hf1 : (f : Int) ≤ 1000000 := by omega
  have ht1 : (t : Int) ≤ 1000000 := by omega
  have HP := Lib.hid h
  have HEND : Hid (∀ (B' : Option Addr) (d' : Nat) (w' : World), PartsAt w' p B' d' [(f, m)] → Fr [some p, bk B] w w' → (bk B' = bk B ∨ ∃ j, bk B' = some j ∧ w.heap.size ≤ j) → AddAns w p N B [] f t (.returned (.tuple #[])) w') := by
    show ∀ _, _
    intro B' d' w' q1 q2 q3
    refine ⟨B', d', [(f, m)], rfl, q1, by rw [plc_one, hm]; rfl, fun x hx => ?_, by simp, q2, q3⟩
    rw [List.mem_singleton] at hx
    subst hx
    show 1 ≤ m ∧ f + m ≤ N
    omega
  clear h hm ht hN
  go_enter Tryz.func246, Tryz.ntmps246
  go_wp2_with fail
  have hbox : (w.alloc (.cells #[.int .i64 (f : Nat), .int .i64 (m : Nat)] TSp)).cell? ⟨w.heap.size, 0, none⟩ = some (.int .i64 (f : Nat)) ∧ (w.alloc (.cells #[.int .i64 (f : Nat), .int .i64 (m : Nat)] TSp)).cell? ⟨w.heap.size, 1, none⟩ = some (.int .i64 (m : Nat)) := ⟨(Blk.new w TSp #[.int .i64 (f : Nat), .int .i64 (m : Nat)]).cell 0, (Blk.new w TSp #[.int .i64 (f : Nat), .int .i64 (m : Nat)]).cell 1⟩
  obtain ⟨wb, hwb⟩ : ∃ wb, wb = w.alloc (.cells #[.int .i64 (f : Nat), .int .i64 (m : Nat)] TSp) := ⟨_, rfl⟩
  rw [← hwb] at hbox ⊢
  have HPB : Hid (PartsAt wb p B d [] ∧ Fr [] w wb) := by
    have hf : Fr [] w wb := by rw [hwb]; exact (Fr.refl [] w).alloc _
    exact ⟨⟨HP.out.1.fr hf (by simp), ORow.fr HP.out.2.1 hf (.inr List.not_mem_nil), HP.out.2.2⟩, hf⟩
  have cb : wb.cell? ⟨p, 0, none⟩ = some (.slice B 0 d) := HPB.out.1.1.cell 0
  obtain ⟨x0, x1⟩ := hbox
  have HX : Hid (∀ wa w2, Fr [] wb wa → Fr [bk B] wa w2 → w2.cell? ⟨w.heap.size, 0, none⟩ = some (.int .i64 (f : Nat)) ∧ w2.cell? ⟨w.heap.size, 1, none⟩ = some (.int .i64 (m : Nat))) := by
    show ∀ _, _
    intro wa w2 hfa hg
    have hl : w.heap.size < wb.heap.size := World.block_lt_of_cell? wb _ x0
    have hno : some w.heap.size ∉ [bk B] := fun h => by
      rw [List.mem_singleton] at h
      have := ORow.lt HP.out.2.1 h.symm
      omega
    have key : ∀ i, w2.cell? ⟨w.heap.size, i, none⟩ = wb.cell? ⟨w.heap.size, i, none⟩ := fun i => (hg.cell (p := ⟨w.heap.size, i, none⟩) (Nat.lt_of_lt_of_le hl hfa.size) hno).trans (hfa.cell (p := ⟨w.heap.size, i, none⟩) hl (by simp))
    exact ⟨(key 0).trans x0, (key 1).trans x1⟩
  clear hwb c0 hpl HP
  have q1 : (wb.alloc (.cells #[.int .i64 (f : Nat), .int .i64 (m : Nat)] TSp)).cell? ⟨p, 0, none⟩ = some (.slice B 0 d) := (parts_cells HPB.out.1 ((Fr.refl [] wb).alloc _) (Fr.refl _ _)).1
  go_region_law (
    (refine step_app _ (by rfl) _ _ 312 TSp (by rfl) (Value.agg #[.int .i64 0, .int .i64 0]) 2 16 Tryz.underlying312 infoSp rfl (by decide) B d 0 [] (by rfl) (ORow.fr HPB.out.1.2.1 (((Fr.refl [] wb).alloc _).drew) (.inr List.not_mem_nil)) _ 1 1 (sp2 (f, m)) (by rfl) rfl (sl_span wb (f, m) TSp) (spc_one [(f, m)]) (by simp only [maxLen]; omega) (by omega) ?_
     intro A2 c2 w2 hr2 hg2 hb2
     have HPU := Lib.hid (parts_push (x := (f, m)) HPB.out.1 ((Fr.refl [] wb).alloc _).drew hr2 hg2 hb2)
     have k0 := (parts_cells HPB.out.1 ((Fr.refl [] wb).alloc _).drew hg2).1
     have k1 := (parts_cells HPB.out.1 ((Fr.refl [] wb).alloc _).drew hg2).2.1
     have k2 := (parts_cells HPB.out.1 ((Fr.refl [] wb).alloc _).drew hg2).2.2))
  all_goals
    refine bodyPost_ret (results_none rfl _ _ _) rfl ?_
    refine HEND.out _ _ _ HPU.out.1 (HPB.out.2.of_nil.trans HPU.out.2.1) ?_
    rcases HPU.out.2.2 with h | ⟨j, hj, hle⟩
    · exact .inl h
    · exact .inr ⟨j, hj, Nat.le_trans HPB.out.2.size hle⟩
end Go.Proofs.YtblafakafgediaaGreat
