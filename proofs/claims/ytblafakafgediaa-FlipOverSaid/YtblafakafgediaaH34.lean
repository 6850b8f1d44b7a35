import Derived.Test.YtblafakafgediaaH33
namespace Go.Proofs.Ytblafakafgediaa
open Go.RowKit Go.Proofs.Dm

/-- A cell as the document has it. -/
def ccell (s : List UInt8) (x : CV) : DC := ⟨atP s (plc x.sp), if x.kept then cutP s x.a x.n else [], x.kept⟩
set_option maxRecDepth 100000 in
set_option maxHeartbeats 1600000 in
theorem p7_any (w : World) (g : Nat) (x : CV) (s : List UInt8) (ha : ArAt g s w) (hc : CellAt s.length x w) (hp : (plc x.sp).length ≤ 1000000) (hl : s.length ≤ 1000000) :
    Calls Try.prog 72 #[.pointer (some ⟨g, 0, none⟩), x.val] w fun e w' => e = .returned (.agg (ccell s x).cells.toArray) ∧ Fr [] w w' := by
  obtain ⟨B, m, d, sp, q, a, n, b⟩ := x
  show Calls Try.prog 72 #[.pointer (some ⟨g, 0, none⟩), .agg #[.slice B m d, .int .i64 (q : Nat), .int .i64 (a : Nat), .int .i64 (n : Nat), .bool b]] w fun e w' => e = .returned (.agg #[.string ⟨(atP s (plc sp)).toArray⟩, .string ⟨(if b then cutP s a n else []).toArray⟩, .bool b]) ∧ Fr [] w w'
  simp only at hp
  obtain ⟨W1, hW1⟩ : ∃ W1, W1 = (w.alloc (.cells #[.slice B m d, .int .i64 (q : Nat), .int .i64 (a : Nat), .int .i64 (n : Nat), .bool b] TCl)).alloc (.cells #[.string ⟨#[]⟩, .string ⟨#[]⟩, .bool false] TDc) := ⟨_, rfl⟩
  have HW : Hid (Fr [] w W1 ∧ Blk W1 (w.heap.size + 1) TDc #[.string ⟨#[]⟩, .string ⟨#[]⟩, .bool false] ∧ w.heap.size + 1 < W1.heap.size) := by
    have b2 := Blk.new (w.alloc (.cells #[.slice B m d, .int .i64 (q : Nat), .int .i64 (a : Nat), .int .i64 (n : Nat), .bool b] TCl)) TDc #[.string ⟨#[]⟩, .string ⟨#[]⟩, .bool false]
    rw [World.size_alloc, ← hW1] at b2
    exact ⟨by rw [hW1]; exact ((Fr.refl [] w).alloc _).alloc _, b2, b2.lt⟩
  have HS : Hid (∀ w', Fr [] W1 w' → w'.cell? ⟨w.heap.size, 0, none⟩ = some (.slice B m d) ∧ w'.cell? ⟨w.heap.size, 1, none⟩ = some (.int .i64 (q : Nat)) ∧ w'.cell? ⟨w.heap.size, 2, none⟩ = some (.int .i64 (a : Nat)) ∧ w'.cell? ⟨w.heap.size, 3, none⟩ = some (.int .i64 (n : Nat)) ∧ w'.cell? ⟨w.heap.size, 4, none⟩ = some (.bool b)) := by
    show ∀ _, _
    intro w' hf
    have b1 := (Blk.new w TCl #[.slice B m d, .int .i64 (q : Nat), .int .i64 (a : Nat), .int .i64 (n : Nat), .bool b]).alloc (.cells #[.string ⟨#[]⟩, .string ⟨#[]⟩, .bool false] TDc)
    rw [← hW1] at b1
    have b1 := b1.fr hf (by simp)
    exact ⟨b1.cell 0, b1.cell 1, b1.cell 2, b1.cell 3, b1.cell 4⟩
  have HC : Hid (∀ w', Fr [] W1 w' → Calls Try.prog 104 #[.agg #[.slice B m d, .int .i64 (q : Nat), .int .i64 (a : Nat), .int .i64 (n : Nat), .bool b], .pointer (some ⟨g, 0, none⟩)] w' (BytesAns w' (atP s (plc sp)))) := by
    show ∀ _, _
    intro w' hf
    have hf2 := HW.out.1.trans hf
    exact cellbytes_any w' g m d q a n b B sp s (ha.fr0 hf2) (hc.fr0 hf2) hp hl
  have HB : Hid (∀ w', Fr [] w w' → Calls Try.prog 114 #[.pointer (some ⟨g, 0, none⟩), .agg #[.int .i64 (a : Nat), .int .i64 (n : Nat)]] w' (BytesAns w' (cutP s a n))) := by
    show ∀ _, _
    intro w' hf
    exact bytes_yes w' g a n s (ha.fr0 hf) hc.2.2.2.2 hl
  have HW1 := Lib.hid hW1
  clear ha hc hp hl hW1
  go_enter Try.func72, Try.ntmps72
  go_wp2_with fail
  rw [← HW1.out]
  have hF := (Fr.refl [] W1).drew
  refine wp_region_noPanic ?_
  refine wp_region_held_drew (S := (fun w' => w'.cell? ⟨w.heap.size, 0, none⟩ = some (.slice B m d) ∧ w'.cell? ⟨w.heap.size, 1, none⟩ = some (.int .i64 (q : Nat)) ∧ w'.cell? ⟨w.heap.size, 2, none⟩ = some (.int .i64 (a : Nat)) ∧ w'.cell? ⟨w.heap.size, 3, none⟩ = some (.int .i64 (n : Nat)) ∧ w'.cell? ⟨w.heap.size, 4, none⟩ = some (.bool b))) (by kernel_rfl) (HS.out _ ((Fr.refl [] W1).drew)) (fun hHeld => ?_)
  refine wpAnyH_take (i := 0) (oi := _) (v := ?_) rfl (by kernel_rfl) (by kernel_rfl) (by kernel_rfl) (fun _ _ _ h => h) (Or.inl ⟨by rfl, ?_⟩) (by assumption) ?_
  rotate_left
  · intro w hSw
    (try dsimp only at hSw)
    go_simp
    try with_reducible rfl
  try simp only [Act.put, List.setIfInBounds_toArray, List.set_cons_zero, List.set_cons_succ]
  refine wpAnyH_take (i := 1) (oi := _) (v := ?_) rfl (by kernel_rfl) (by kernel_rfl) (by kernel_rfl) (fun _ _ _ h => h) (Or.inl ⟨by rfl, ?_⟩) (by assumption) ?_
  rotate_left
  · intro w hSw
    (try dsimp only at hSw)
    go_simp
    try with_reducible rfl
  try simp only [Act.put, List.setIfInBounds_toArray, List.set_cons_zero, List.set_cons_succ]
  refine wpAnyH_take (i := 4) (oi := _) (v := ?_) rfl (by kernel_rfl) (by kernel_rfl) (by kernel_rfl) (fun _ _ _ h => h) (Or.inl ⟨by rfl, ?_⟩) (by assumption) ?_
  rotate_left
  · intro w hSw
    (try dsimp only at hSw)
    go_simp
    try with_reducible rfl
  try simp only [Act.put, List.setIfInBounds_toArray, List.set_cons_zero, List.set_cons_succ]
  refine wpAnyH_take (i := 5) (oi := _) (v := ?_) rfl (by kernel_rfl) (by kernel_rfl) (by kernel_rfl) (fun _ _ _ h => h) (Or.inl ⟨by rfl, ?_⟩) (by assumption) ?_
  rotate_left
  · intro w hSw
    (try dsimp only at hSw)
    go_simp
    try with_reducible rfl
  try simp only [Act.put, List.setIfInBounds_toArray, List.set_cons_zero, List.set_cons_succ]
  refine wpAnyH_ready (rs := [2, 7]) (by kernel_rfl) (by simp) ?_
  refine AllReadyH.cons rfl (fun K hK => ?_) (AllReadyH.cons rfl (fun K hK => ?_) AllReadyH.nil)
  · refine step_call _ (by rfl) 104 #[.agg #[.slice B m d, .int .i64 (q : Nat), .int .i64 (a : Nat), .int .i64 (n : Nat), .bool b], .pointer (some ⟨g, 0, none⟩)] (by go_simp) _ (HC.out _ hF) (by rintro e w' ⟨_, _, _, he, _⟩; exact ⟨_, he⟩) ?_
    intro v4 w4 hans
    obtain ⟨B2, k2, d2, hv4, hk2, ho2, hf4, hn4⟩ := hans
    injection hv4 with hv4
    subst hv4
    have HCV : Hid (∀ W, Fr [] w4 W → (convert 32 9 (.slice B2 k2 d2)).run Try.prog W = .ok (.string ⟨(atP s (plc sp)).toArray⟩) W) := by
      show ∀ _, _
      intro W hf
      exact run_str W _ TU8 _ Try.underlying32 Try.underlying5 Try.underlying9 B2 k2 d2 _ hk2 ((ORow.sl ho2).fr hf (.inr List.not_mem_nil))
    have hF := hF.trans hf4
    have hG := Fr.refl [] w4
    clear hk2 ho2 hn4 hf4
    refine hK.out _ _ (HS.out _ hF) (fun hHeld => ?_)
    clear hK K
    try simp only [Act.put, List.setIfInBounds_toArray, List.set_cons_zero, List.set_cons_succ]
    refine wpAnyH_ready (rs := [3, 7]) (by kernel_rfl) (by simp) ?_
    refine AllReadyH.cons rfl (fun K hK => ?_) (AllReadyH.cons rfl (fun K hK => ?_) AllReadyH.nil)
    · have hcv := HCV.out _ hG
      go_simp
      refine hK.out _ _ (HS.out _ hF) (fun hHeld => ?_)
      clear hK K
      try simp only [Act.put, List.setIfInBounds_toArray, List.set_cons_zero, List.set_cons_succ]
      clear hcv
      refine wpAnyH_take (i := 6) (oi := _) (v := ?_) rfl (by kernel_rfl) (by kernel_rfl) (by kernel_rfl) (fun _ _ _ h => h) (Or.inl ⟨by rfl, ?_⟩) (by assumption) ?_
      rotate_left
      · intro w hSw
        (try dsimp only at hSw)
        go_simp
        try with_reducible rfl
      try simp only [Act.put, List.setIfInBounds_toArray, List.set_cons_zero, List.set_cons_succ]
      refine wpAnyH_ready (rs := [7]) (by kernel_rfl) (by simp) ?_
      refine AllReadyH.cons rfl (fun K hK => ?_) AllReadyH.nil
      have hT := Blk.new (w4) TDc #[.string ⟨#[]⟩, .string ⟨#[]⟩, .bool false]
      obtain ⟨T, hTe⟩ : ∃ T, T = (w4).heap.size := ⟨_, rfl⟩
      have HTL : Hid (W1.heap.size ≤ T) := by show _ ≤ _; rw [hTe]; exact hF.size
      have hF := hF.alloc (.cells #[.string ⟨#[]⟩, .string ⟨#[]⟩, .bool false] TDc)
      have hG := hG.alloc (.cells #[.string ⟨#[]⟩, .string ⟨#[]⟩, .bool false] TDc)
      go_simp
      refine hK.out _ _ (HS.out _ hF) (fun hHeld => ?_)
      clear hK K
      try simp only [Act.put, List.setIfInBounds_toArray, List.set_cons_zero, List.set_cons_succ]
      rw [← hTe] at hT
      try rw [← hTe]
      try simp only [World.size_drew] at hTe
      try rw [← hTe]
      clear hTe
      refine wpAnyH_ready (rs := [8]) (by kernel_rfl) (by simp) ?_
      refine AllReadyH.cons rfl (fun K hK => ?_) AllReadyH.nil
      have t0 := hT.cell 0
      have t1 := hT.cell 1
      have t2 := hT.cell 2
      have z0 := hT.frozen 0
      have z1 := hT.frozen 1
      have z2 := hT.frozen 2
      have lt := hT.lt
      obtain ⟨wz, hwz⟩ : ∃ wz, wz = (w4).alloc (.cells #[.string ⟨#[]⟩, .string ⟨#[]⟩, .bool false] TDc) := ⟨_, rfl⟩
      rw [← hwz] at t0 t1 t2 z0 z1 z2 lt hF hT ⊢
      clear hwz
      have HX : Hid (Fr [] W1 (((wz.setCell ⟨T, 0, none⟩ (.string ⟨(atP s (plc sp)).toArray⟩)).setCell ⟨T, 1, none⟩ (.string ⟨#[]⟩)).setCell ⟨T, 2, none⟩ (.bool b)) ∧ Blk (((wz.setCell ⟨T, 0, none⟩ (.string ⟨(atP s (plc sp)).toArray⟩)).setCell ⟨T, 1, none⟩ (.string ⟨#[]⟩)).setCell ⟨T, 2, none⟩ (.bool b)) T TDc #[.string ⟨(atP s (plc sp)).toArray⟩, .string ⟨#[]⟩, .bool b]) := by
        have hx : T < W1.heap.size → some T ∈ ([] : List (Option Nat)) := fun h => absurd h (by have := HTL.out; omega)
        exact ⟨((hF.setB hx _ _).setB hx _ _).setB hx _ _, ((hT.set_ 0 _).set_ 1 _).set_ 2 _⟩
      go_simp
      refine hK.out _ _ (HS.out _ HX.out.1) (fun hHeld => ?_)
      clear hK K
      try simp only [Act.put, List.setIfInBounds_toArray, List.set_cons_zero, List.set_cons_succ]
      refine wpAnyH_done (by kernel_rfl) ?_ _
      refine NoPanic.normal ?_
      clear hHeld t0 t1 t2 z0 z1 z2 lt
      obtain ⟨wy, hwy⟩ : ∃ wy, wy = ((wz.setCell ⟨T, 0, none⟩ (.string ⟨(atP s (plc sp)).toArray⟩)).setCell ⟨T, 1, none⟩ (.string ⟨#[]⟩)).setCell ⟨T, 2, none⟩ (.bool b) := ⟨_, rfl⟩
      rw [← hwy] at HX ⊢
      clear hwy hF hT hG
      have t0 : wy.cell? ⟨T, 0, none⟩ = some (.string ⟨(atP s (plc sp)).toArray⟩) := HX.out.2.cell 0
      have t1 : wy.cell? ⟨T, 1, none⟩ = some (.string ⟨#[]⟩) := HX.out.2.cell 1
      have t2 : wy.cell? ⟨T, 2, none⟩ = some (.bool b) := HX.out.2.cell 2
      have z1 := HX.out.2.frozen 1
      have lt := HX.out.2.lt
      have HFY : Hid (Fr [] w wy) := HW.out.1.trans HX.out.1
      obtain ⟨c0, c1, c2, c3, c4⟩ := HS.out _ HX.out.1
      have LB := (HW.out.2.1.fr HX.out.1 (by simp))
      have r0 : wy.cell? ⟨w.heap.size + 1, 0, none⟩ = some (.string ⟨#[]⟩) := LB.cell 0
      have r1 : wy.cell? ⟨w.heap.size + 1, 1, none⟩ = some (.string ⟨#[]⟩) := LB.cell 1
      have r2 : wy.cell? ⟨w.heap.size + 1, 2, none⟩ = some (.bool false) := LB.cell 2
      have y0 := LB.frozen 0
      have y1 := LB.frozen 1
      have y2 := LB.frozen 2
      have ly := LB.lt
      have hne : ¬ w.heap.size + 1 = T := by have := HTL.out; have := HW.out.2.2; omega
      have hne2 : ¬ T = w.heap.size + 1 := fun e => hne e.symm
      clear LB
      cases b
      · go_wp2_with fail
        refine bodyPost_ret (v := .agg #[.string ⟨(atP s (plc sp)).toArray⟩, .string ⟨#[]⟩, .bool false]) (by simp [results, Try.results72, go_sem, *]) rfl ?_
        refine ⟨rfl, ?_⟩
        have hx : w.heap.size + 1 < w.heap.size → some (w.heap.size + 1) ∈ ([] : List (Option Nat)) := fun h => absurd h (by omega)
        exact ((HFY.out.setB hx _ _).setB hx _ _).setB hx _ _
      · clear c0 c1
        go_wp2_with fail
        refine (HB.out _ HFY.out).mono ?_
        rintro e w6 ⟨B6, k6, d6, rfl, hk6, ho6, hf6, hn6⟩
        have hcv := run_str (P := Try.prog) w6 _ TU8 _ Try.underlying32 Try.underlying5 Try.underlying9 B6 k6 d6 _ hk6 (ORow.sl ho6)
        have TB := HX.out.2.fr hf6 (by simp)
        have t0 : w6.cell? ⟨T, 0, none⟩ = some (.string ⟨(atP s (plc sp)).toArray⟩) := TB.cell 0
        have t1 : w6.cell? ⟨T, 1, none⟩ = some (.string ⟨#[]⟩) := TB.cell 1
        have t2 : w6.cell? ⟨T, 2, none⟩ = some (.bool true) := TB.cell 2
        have z1 := TB.frozen 1
        have lt := TB.lt
        have LB := (HW.out.2.1.fr (HX.out.1.trans hf6) (by simp))
        have r0 : w6.cell? ⟨w.heap.size + 1, 0, none⟩ = some (.string ⟨#[]⟩) := LB.cell 0
        have r1 : w6.cell? ⟨w.heap.size + 1, 1, none⟩ = some (.string ⟨#[]⟩) := LB.cell 1
        have r2 : w6.cell? ⟨w.heap.size + 1, 2, none⟩ = some (.bool false) := LB.cell 2
        have y0 := LB.frozen 0
        have y1 := LB.frozen 1
        have y2 := LB.frozen 2
        have ly := LB.lt
        have HF6 : Hid (Fr [] w w6) := HFY.out.trans hf6
        clear hk6 ho6 hn6 hf6 TB LB
        go_wp2_with fail
        refine bodyPost_ret (v := .agg #[.string ⟨(atP s (plc sp)).toArray⟩, .string ⟨(cutP s a n).toArray⟩, .bool true]) (by simp [results, Try.results72, go_sem, *]) rfl ?_
        refine ⟨rfl, ?_⟩
        have hx : w.heap.size + 1 < w.heap.size → some (w.heap.size + 1) ∈ ([] : List (Option Nat)) := fun h => absurd h (by omega)
        have hy : T < w.heap.size → some T ∈ ([] : List (Option Nat)) := fun h => absurd h (by have := HTL.out; have := HW.out.1.size; omega)
        exact (((HF6.out.setB hy _ _).setB hx _ _).setB hx _ _).setB hx _ _
    · have hT := Blk.new (w4) TDc #[.string ⟨#[]⟩, .string ⟨#[]⟩, .bool false]
      obtain ⟨T, hTe⟩ : ∃ T, T = (w4).heap.size := ⟨_, rfl⟩
      have HTL : Hid (W1.heap.size ≤ T) := by show _ ≤ _; rw [hTe]; exact hF.size
      have hF := hF.alloc (.cells #[.string ⟨#[]⟩, .string ⟨#[]⟩, .bool false] TDc)
      have hG := hG.alloc (.cells #[.string ⟨#[]⟩, .string ⟨#[]⟩, .bool false] TDc)
      go_simp
      refine hK.out _ _ (HS.out _ hF) (fun hHeld => ?_)
      clear hK K
      try simp only [Act.put, List.setIfInBounds_toArray, List.set_cons_zero, List.set_cons_succ]
      rw [← hTe] at hT
      try rw [← hTe]
      try simp only [World.size_drew] at hTe
      try rw [← hTe]
      clear hTe
      refine wpAnyH_ready (rs := [3]) (by kernel_rfl) (by simp) ?_
      refine AllReadyH.cons rfl (fun K hK => ?_) AllReadyH.nil
      have hcv := HCV.out _ hG
      go_simp
      refine hK.out _ _ (HS.out _ hF) (fun hHeld => ?_)
      clear hK K
      try simp only [Act.put, List.setIfInBounds_toArray, List.set_cons_zero, List.set_cons_succ]
      clear hcv
      refine wpAnyH_take (i := 6) (oi := _) (v := ?_) rfl (by kernel_rfl) (by kernel_rfl) (by kernel_rfl) (fun _ _ _ h => h) (Or.inl ⟨by rfl, ?_⟩) (by assumption) ?_
      rotate_left
      · intro w hSw
        (try dsimp only at hSw)
        go_simp
        try with_reducible rfl
      try simp only [Act.put, List.setIfInBounds_toArray, List.set_cons_zero, List.set_cons_succ]
      refine wpAnyH_ready (rs := [8]) (by kernel_rfl) (by simp) ?_
      refine AllReadyH.cons rfl (fun K hK => ?_) AllReadyH.nil
      have t0 := hT.cell 0
      have t1 := hT.cell 1
      have t2 := hT.cell 2
      have z0 := hT.frozen 0
      have z1 := hT.frozen 1
      have z2 := hT.frozen 2
      have lt := hT.lt
      obtain ⟨wz, hwz⟩ : ∃ wz, wz = (w4).alloc (.cells #[.string ⟨#[]⟩, .string ⟨#[]⟩, .bool false] TDc) := ⟨_, rfl⟩
      rw [← hwz] at t0 t1 t2 z0 z1 z2 lt hF hT ⊢
      clear hwz
      have HX : Hid (Fr [] W1 (((wz.setCell ⟨T, 0, none⟩ (.string ⟨(atP s (plc sp)).toArray⟩)).setCell ⟨T, 1, none⟩ (.string ⟨#[]⟩)).setCell ⟨T, 2, none⟩ (.bool b)) ∧ Blk (((wz.setCell ⟨T, 0, none⟩ (.string ⟨(atP s (plc sp)).toArray⟩)).setCell ⟨T, 1, none⟩ (.string ⟨#[]⟩)).setCell ⟨T, 2, none⟩ (.bool b)) T TDc #[.string ⟨(atP s (plc sp)).toArray⟩, .string ⟨#[]⟩, .bool b]) := by
        have hx : T < W1.heap.size → some T ∈ ([] : List (Option Nat)) := fun h => absurd h (by have := HTL.out; omega)
        exact ⟨((hF.setB hx _ _).setB hx _ _).setB hx _ _, ((hT.set_ 0 _).set_ 1 _).set_ 2 _⟩
      go_simp
      refine hK.out _ _ (HS.out _ HX.out.1) (fun hHeld => ?_)
      clear hK K
      try simp only [Act.put, List.setIfInBounds_toArray, List.set_cons_zero, List.set_cons_succ]
      refine wpAnyH_done (by kernel_rfl) ?_ _
      refine NoPanic.normal ?_
      clear hHeld t0 t1 t2 z0 z1 z2 lt
      obtain ⟨wy, hwy⟩ : ∃ wy, wy = ((wz.setCell ⟨T, 0, none⟩ (.string ⟨(atP s (plc sp)).toArray⟩)).setCell ⟨T, 1, none⟩ (.string ⟨#[]⟩)).setCell ⟨T, 2, none⟩ (.bool b) := ⟨_, rfl⟩
      rw [← hwy] at HX ⊢
      clear hwy hF hT hG
      have t0 : wy.cell? ⟨T, 0, none⟩ = some (.string ⟨(atP s (plc sp)).toArray⟩) := HX.out.2.cell 0
      have t1 : wy.cell? ⟨T, 1, none⟩ = some (.string ⟨#[]⟩) := HX.out.2.cell 1
      have t2 : wy.cell? ⟨T, 2, none⟩ = some (.bool b) := HX.out.2.cell 2
      have z1 := HX.out.2.frozen 1
      have lt := HX.out.2.lt
      have HFY : Hid (Fr [] w wy) := HW.out.1.trans HX.out.1
      obtain ⟨c0, c1, c2, c3, c4⟩ := HS.out _ HX.out.1
      have LB := (HW.out.2.1.fr HX.out.1 (by simp))
      have r0 : wy.cell? ⟨w.heap.size + 1, 0, none⟩ = some (.string ⟨#[]⟩) := LB.cell 0
      have r1 : wy.cell? ⟨w.heap.size + 1, 1, none⟩ = some (.string ⟨#[]⟩) := LB.cell 1
      have r2 : wy.cell? ⟨w.heap.size + 1, 2, none⟩ = some (.bool false) := LB.cell 2
      have y0 := LB.frozen 0
      have y1 := LB.frozen 1
      have y2 := LB.frozen 2
      have ly := LB.lt
      have hne : ¬ w.heap.size + 1 = T := by have := HTL.out; have := HW.out.2.2; omega
      have hne2 : ¬ T = w.heap.size + 1 := fun e => hne e.symm
      clear LB
      cases b
      · go_wp2_with fail
        refine bodyPost_ret (v := .agg #[.string ⟨(atP s (plc sp)).toArray⟩, .string ⟨#[]⟩, .bool false]) (by simp [results, Try.results72, go_sem, *]) rfl ?_
        refine ⟨rfl, ?_⟩
        have hx : w.heap.size + 1 < w.heap.size → some (w.heap.size + 1) ∈ ([] : List (Option Nat)) := fun h => absurd h (by omega)
        exact ((HFY.out.setB hx _ _).setB hx _ _).setB hx _ _
      · clear c0 c1
        go_wp2_with fail
        refine (HB.out _ HFY.out).mono ?_
        rintro e w6 ⟨B6, k6, d6, rfl, hk6, ho6, hf6, hn6⟩
        have hcv := run_str (P := Try.prog) w6 _ TU8 _ Try.underlying32 Try.underlying5 Try.underlying9 B6 k6 d6 _ hk6 (ORow.sl ho6)
        have TB := HX.out.2.fr hf6 (by simp)
        have t0 : w6.cell? ⟨T, 0, none⟩ = some (.string ⟨(atP s (plc sp)).toArray⟩) := TB.cell 0
        have t1 : w6.cell? ⟨T, 1, none⟩ = some (.string ⟨#[]⟩) := TB.cell 1
        have t2 : w6.cell? ⟨T, 2, none⟩ = some (.bool true) := TB.cell 2
        have z1 := TB.frozen 1
        have lt := TB.lt
        have LB := (HW.out.2.1.fr (HX.out.1.trans hf6) (by simp))
        have r0 : w6.cell? ⟨w.heap.size + 1, 0, none⟩ = some (.string ⟨#[]⟩) := LB.cell 0
        have r1 : w6.cell? ⟨w.heap.size + 1, 1, none⟩ = some (.string ⟨#[]⟩) := LB.cell 1
        have r2 : w6.cell? ⟨w.heap.size + 1, 2, none⟩ = some (.bool false) := LB.cell 2
        have y0 := LB.frozen 0
        have y1 := LB.frozen 1
        have y2 := LB.frozen 2
        have ly := LB.lt
        have HF6 : Hid (Fr [] w w6) := HFY.out.trans hf6
        clear hk6 ho6 hn6 hf6 TB LB
        go_wp2_with fail
        refine bodyPost_ret (v := .agg #[.string ⟨(atP s (plc sp)).toArray⟩, .string ⟨(cutP s a n).toArray⟩, .bool true]) (by simp [results, Try.results72, go_sem, *]) rfl ?_
        refine ⟨rfl, ?_⟩
        have hx : w.heap.size + 1 < w.heap.size → some (w.heap.size + 1) ∈ ([] : List (Option Nat)) := fun h => absurd h (by omega)
        have hy : T < w.heap.size → some T ∈ ([] : List (Option Nat)) := fun h => absurd h (by have := HTL.out; have := HW.out.1.size; omega)
        exact (((HF6.out.setB hy _ _).setB hx _ _).setB hx _ _).setB hx _ _
  · have hT := Blk.new (W1.drew) TDc #[.string ⟨#[]⟩, .string ⟨#[]⟩, .bool false]
    obtain ⟨T, hTe⟩ : ∃ T, T = (W1.drew).heap.size := ⟨_, rfl⟩
    have HTL : Hid (W1.heap.size ≤ T) := by show _ ≤ _; rw [hTe]; exact hF.size
    have hF := hF.alloc (.cells #[.string ⟨#[]⟩, .string ⟨#[]⟩, .bool false] TDc)
    go_simp
    refine hK.out _ _ (HS.out _ hF) (fun hHeld => ?_)
    clear hK K
    try simp only [Act.put, List.setIfInBounds_toArray, List.set_cons_zero, List.set_cons_succ]
    rw [← hTe] at hT
    try rw [← hTe]
    try simp only [World.size_drew] at hTe
    try rw [← hTe]
    clear hTe
    refine wpAnyH_ready (rs := [2]) (by kernel_rfl) (by simp) ?_
    refine AllReadyH.cons rfl (fun K hK => ?_) AllReadyH.nil
    refine step_call _ (by rfl) 104 #[.agg #[.slice B m d, .int .i64 (q : Nat), .int .i64 (a : Nat), .int .i64 (n : Nat), .bool b], .pointer (some ⟨g, 0, none⟩)] (by go_simp) _ (HC.out _ hF) (by rintro e w' ⟨_, _, _, he, _⟩; exact ⟨_, he⟩) ?_
    intro v4 w4 hans
    obtain ⟨B2, k2, d2, hv4, hk2, ho2, hf4, hn4⟩ := hans
    injection hv4 with hv4
    subst hv4
    have HCV : Hid (∀ W, Fr [] w4 W → (convert 32 9 (.slice B2 k2 d2)).run Try.prog W = .ok (.string ⟨(atP s (plc sp)).toArray⟩) W) := by
      show ∀ _, _
      intro W hf
      exact run_str W _ TU8 _ Try.underlying32 Try.underlying5 Try.underlying9 B2 k2 d2 _ hk2 ((ORow.sl ho2).fr hf (.inr List.not_mem_nil))
    have hF := hF.trans hf4
    have hG := Fr.refl [] w4
    have hT := hT.fr hf4 (by simp)
    clear hk2 ho2 hn4 hf4
    refine hK.out _ _ (HS.out _ hF) (fun hHeld => ?_)
    clear hK K
    try simp only [Act.put, List.setIfInBounds_toArray, List.set_cons_zero, List.set_cons_succ]
    refine wpAnyH_ready (rs := [3]) (by kernel_rfl) (by simp) ?_
    refine AllReadyH.cons rfl (fun K hK => ?_) AllReadyH.nil
    have hcv := HCV.out _ hG
    go_simp
    refine hK.out _ _ (HS.out _ hF) (fun hHeld => ?_)
    clear hK K
    try simp only [Act.put, List.setIfInBounds_toArray, List.set_cons_zero, List.set_cons_succ]
    clear hcv
    refine wpAnyH_take (i := 6) (oi := _) (v := ?_) rfl (by kernel_rfl) (by kernel_rfl) (by kernel_rfl) (fun _ _ _ h => h) (Or.inl ⟨by rfl, ?_⟩) (by assumption) ?_
    rotate_left
    · intro w hSw
      (try dsimp only at hSw)
      go_simp
      try with_reducible rfl
    try simp only [Act.put, List.setIfInBounds_toArray, List.set_cons_zero, List.set_cons_succ]
    refine wpAnyH_ready (rs := [8]) (by kernel_rfl) (by simp) ?_
    refine AllReadyH.cons rfl (fun K hK => ?_) AllReadyH.nil
    have t0 := hT.cell 0
    have t1 := hT.cell 1
    have t2 := hT.cell 2
    have z0 := hT.frozen 0
    have z1 := hT.frozen 1
    have z2 := hT.frozen 2
    have lt := hT.lt
    obtain ⟨wz, hwz⟩ : ∃ wz, wz = w4 := ⟨_, rfl⟩
    rw [← hwz] at t0 t1 t2 z0 z1 z2 lt hF hT ⊢
    clear hwz
    have HX : Hid (Fr [] W1 (((wz.setCell ⟨T, 0, none⟩ (.string ⟨(atP s (plc sp)).toArray⟩)).setCell ⟨T, 1, none⟩ (.string ⟨#[]⟩)).setCell ⟨T, 2, none⟩ (.bool b)) ∧ Blk (((wz.setCell ⟨T, 0, none⟩ (.string ⟨(atP s (plc sp)).toArray⟩)).setCell ⟨T, 1, none⟩ (.string ⟨#[]⟩)).setCell ⟨T, 2, none⟩ (.bool b)) T TDc #[.string ⟨(atP s (plc sp)).toArray⟩, .string ⟨#[]⟩, .bool b]) := by
      have hx : T < W1.heap.size → some T ∈ ([] : List (Option Nat)) := fun h => absurd h (by have := HTL.out; omega)
      exact ⟨((hF.setB hx _ _).setB hx _ _).setB hx _ _, ((hT.set_ 0 _).set_ 1 _).set_ 2 _⟩
    go_simp
    refine hK.out _ _ (HS.out _ HX.out.1) (fun hHeld => ?_)
    clear hK K
    try simp only [Act.put, List.setIfInBounds_toArray, List.set_cons_zero, List.set_cons_succ]
    refine wpAnyH_done (by kernel_rfl) ?_ _
    refine NoPanic.normal ?_
    clear hHeld t0 t1 t2 z0 z1 z2 lt
    obtain ⟨wy, hwy⟩ : ∃ wy, wy = ((wz.setCell ⟨T, 0, none⟩ (.string ⟨(atP s (plc sp)).toArray⟩)).setCell ⟨T, 1, none⟩ (.string ⟨#[]⟩)).setCell ⟨T, 2, none⟩ (.bool b) := ⟨_, rfl⟩
    rw [← hwy] at HX ⊢
    clear hwy hF hT hG
    have t0 : wy.cell? ⟨T, 0, none⟩ = some (.string ⟨(atP s (plc sp)).toArray⟩) := HX.out.2.cell 0
    have t1 : wy.cell? ⟨T, 1, none⟩ = some (.string ⟨#[]⟩) := HX.out.2.cell 1
    have t2 : wy.cell? ⟨T, 2, none⟩ = some (.bool b) := HX.out.2.cell 2
    have z1 := HX.out.2.frozen 1
    have lt := HX.out.2.lt
    have HFY : Hid (Fr [] w wy) := HW.out.1.trans HX.out.1
    obtain ⟨c0, c1, c2, c3, c4⟩ := HS.out _ HX.out.1
    have LB := (HW.out.2.1.fr HX.out.1 (by simp))
    have r0 : wy.cell? ⟨w.heap.size + 1, 0, none⟩ = some (.string ⟨#[]⟩) := LB.cell 0
    have r1 : wy.cell? ⟨w.heap.size + 1, 1, none⟩ = some (.string ⟨#[]⟩) := LB.cell 1
    have r2 : wy.cell? ⟨w.heap.size + 1, 2, none⟩ = some (.bool false) := LB.cell 2
    have y0 := LB.frozen 0
    have y1 := LB.frozen 1
    have y2 := LB.frozen 2
    have ly := LB.lt
    have hne : ¬ w.heap.size + 1 = T := by have := HTL.out; have := HW.out.2.2; omega
    have hne2 : ¬ T = w.heap.size + 1 := fun e => hne e.symm
    clear LB
    cases b
    · go_wp2_with fail
      refine bodyPost_ret (v := .agg #[.string ⟨(atP s (plc sp)).toArray⟩, .string ⟨#[]⟩, .bool false]) (by simp [results, Try.results72, go_sem, *]) rfl ?_
      refine ⟨rfl, ?_⟩
      have hx : w.heap.size + 1 < w.heap.size → some (w.heap.size + 1) ∈ ([] : List (Option Nat)) := fun h => absurd h (by omega)
      exact ((HFY.out.setB hx _ _).setB hx _ _).setB hx _ _
    · clear c0 c1
      go_wp2_with fail
      refine (HB.out _ HFY.out).mono ?_
      rintro e w6 ⟨B6, k6, d6, rfl, hk6, ho6, hf6, hn6⟩
      have hcv := run_str (P := Try.prog) w6 _ TU8 _ Try.underlying32 Try.underlying5 Try.underlying9 B6 k6 d6 _ hk6 (ORow.sl ho6)
      have TB := HX.out.2.fr hf6 (by simp)
      have t0 : w6.cell? ⟨T, 0, none⟩ = some (.string ⟨(atP s (plc sp)).toArray⟩) := TB.cell 0
      have t1 : w6.cell? ⟨T, 1, none⟩ = some (.string ⟨#[]⟩) := TB.cell 1
      have t2 : w6.cell? ⟨T, 2, none⟩ = some (.bool true) := TB.cell 2
      have z1 := TB.frozen 1
      have lt := TB.lt
      have LB := (HW.out.2.1.fr (HX.out.1.trans hf6) (by simp))
      have r0 : w6.cell? ⟨w.heap.size + 1, 0, none⟩ = some (.string ⟨#[]⟩) := LB.cell 0
      have r1 : w6.cell? ⟨w.heap.size + 1, 1, none⟩ = some (.string ⟨#[]⟩) := LB.cell 1
      have r2 : w6.cell? ⟨w.heap.size + 1, 2, none⟩ = some (.bool false) := LB.cell 2
      have y0 := LB.frozen 0
      have y1 := LB.frozen 1
      have y2 := LB.frozen 2
      have ly := LB.lt
      have HF6 : Hid (Fr [] w w6) := HFY.out.trans hf6
      clear hk6 ho6 hn6 hf6 TB LB
      go_wp2_with fail
      refine bodyPost_ret (v := .agg #[.string ⟨(atP s (plc sp)).toArray⟩, .string ⟨(cutP s a n).toArray⟩, .bool true]) (by simp [results, Try.results72, go_sem, *]) rfl ?_
      refine ⟨rfl, ?_⟩
      have hx : w.heap.size + 1 < w.heap.size → some (w.heap.size + 1) ∈ ([] : List (Option Nat)) := fun h => absurd h (by omega)
      have hy : T < w.heap.size → some T ∈ ([] : List (Option Nat)) := fun h => absurd h (by have := HTL.out; have := HW.out.1.size; omega)
      exact (((HF6.out.setB hy _ _).setB hx _ _).setB hx _ _).setB hx _ _
end Go.Proofs.Ytblafakafgediaa
namespace Go.Proofs.Ytblafakafgediaa
open Go.RowKit Go.Proofs.Dm

/-- A row of cells that grows: T the row's variable, L the result. -/
structure PS (W1 w : World) (T L : Nat) (e : Int) (h : Bool) (xs : List DC) (j : Nat) (B : Option Addr) (d m : Nat) : Prop where
  tb : Blk w T TD8 #[.slice B m d, .int .i64 e, .bool h]
  lb : Blk w L TD8 #[.slice none 0 0, .int .i64 0, .bool false]
  own : ORow w TDc 3 B d m (dcc (xs.take j))
  ln : m = j
  fr : Fr [some T] W1 w
  tl : T < W1.heap.size
  ll : L < W1.heap.size
  ne : T ≠ L
  bn : ∀ k, bk B = some k → W1.heap.size ≤ k
  jn : j ≤ xs.length
def P8Ans (w : World) (xs : List DC) (e : Int) (h : Bool) (en : Ending) (w' : World) : Prop :=
  ∃ (B : Option Addr) (m d : Nat), en = .returned (.agg #[.slice B m d, .int .i64 e, .bool h]) ∧ m = xs.length ∧ (∀ E, Old E w → Kp E w' (fun w => Sl w B (dcc xs))) ∧ Fr [] w w'
section
variable {W1 w w' : World} {T L j d m : Nat} {e : Int} {h : Bool} {B : Option Addr} {xs : List DC}
theorem PS.fr0 (p : PS W1 w T L e h xs j B d m) (hf : Fr [] w w') : PS W1 w' T L e h xs j B d m :=
  ⟨p.tb.fr hf (by simp), p.lb.fr hf (by simp), ORow.fr p.own hf (.inr List.not_mem_nil), p.ln, p.fr.trans hf.of_nil, p.tl, p.ll, p.ne, p.bn, p.jn⟩
theorem PS.step {wa w5 : World} {B2 : Option Addr} {d2 : Nat} {x : DC} (p : PS W1 w T L e h xs j B d m) (hx : xs[j]? = some x) (hfa : Fr [] w wa)
    (hr : ORow w5 TDc 3 B2 d2 (m + 1) (dcc (xs.take j) ++ DC.cells x)) (hg : Fr [bk B] wa w5) (hb : bk B2 = bk B ∨ bk B2 = some wa.heap.size) :
    PS W1 (w5.setCell ⟨T, 0, none⟩ (.slice B2 (m + 1) d2)) T L e h xs (j + 1) B2 d2 (m + 1) ∧ Blk w5 T TD8 #[.slice B m d, .int .i64 e, .bool h] := by
  have hjl : j < xs.length := by
    rcases Nat.lt_or_ge j xs.length with h | h
    · exact h
    · rw [List.getElem?_eq_none h] at hx; cases hx
  have ht : xs.take (j + 1) = xs.take j ++ [x] := by
    rw [List.take_succ_eq_append_getElem hjl]
    rw [List.getElem?_eq_getElem hjl] at hx
    injection hx with hx
    rw [hx]
  have hs := p.fr.size
  have hsa := hfa.size
  have hn : ∀ b, b < W1.heap.size → some b ∉ [bk B] := fun b hb e => by
    rw [List.mem_singleton] at e
    have := p.bn b e.symm
    omega
  have t5 := (p.tb.fr hfa (by simp)).fr hg (hn T p.tl)
  have l5 := (p.lb.fr hfa (by simp)).fr hg (hn L p.ll)
  have hset : Fr [some T] w5 (w5.setCell ⟨T, 0, none⟩ (.slice B2 (m + 1) d2)) := (Fr.refl _ w5).setB (by simp) 0 _
  have hB2 : ∀ k, bk B2 = some k → W1.heap.size ≤ k := fun k hk => by
    rcases hb with e | e
    · exact p.bn k (e ▸ hk)
    · rw [e] at hk; injection hk with hk; omega
  refine ⟨⟨t5.set_ 0 _, l5.fr hset (fun e => by rw [List.mem_singleton] at e; injection e with e; exact p.ne e.symm), ?_, by rw [p.ln], ?_, p.tl, p.ll, p.ne, hB2, hjl⟩, t5⟩
  · rw [ht, dcc_app]
    refine ORow.fr ?_ hset (newS p.tl hB2)
    simpa [dcc] using hr
  · refine ((p.fr.trans hfa.of_nil).seq hg fun z hz => ?_).trans hset
    rw [List.mem_singleton] at hz
    subst hz
    cases hB : bk B with
    | none => exact .inr (.inl rfl)
    | some k => exact .inr (.inr ⟨k, p.bn k hB, rfl⟩)
theorem PS.fin {w0 : World} (p : PS W1 w T L e h xs xs.length B d m) (h0 : Fr [] w0 W1) (hT : w0.heap.size ≤ T) (hL : w0.heap.size ≤ L) (hw : Fr [some L] w w') : P8Ans w0 xs e h (.returned (.agg #[.slice B m d, .int .i64 e, .bool h])) w' := by
  have hown := p.own
  rw [List.take_length] at hown
  have hs := h0.size
  refine ⟨B, m, d, rfl, p.ln, fun E hE w'' hf => ?_, (h0.seq p.fr fun z hz => ?_).seq hw fun z hz => ?_⟩
  · refine Sl.fr (ORow.sl (ORow.fr hown hw (newS p.ll p.bn))) hf ?_
    exact hE.newA fun j hj => by have := p.bn j hj; omega
  · rw [List.mem_singleton] at hz; exact .inr (.inr ⟨T, hT, hz⟩)
  · rw [List.mem_singleton] at hz; exact .inr (.inr ⟨L, hL, hz⟩)
end
set_option maxRecDepth 100000 in
set_option maxHeartbeats 1600000 in
theorem p8_any (w : World) (g m d : Nat) (e : Int) (h : Bool) (B : Option Addr) (cs : List CV) (s : List UInt8) (ha : ArAt g s w) (hr : RowAt s.length B cs w) (hm : m = cs.length) (hp : ∀ c ∈ cs, (plc c.sp).length ≤ 1000000) (hl : s.length ≤ 1000000) (hm6 : m ≤ 1000000) :
    Calls Try.prog 36 #[.pointer (some ⟨g, 0, none⟩), .agg #[.slice B m d, .int .i64 e, .bool h]] w (P8Ans w (cs.map (ccell s)) e h) := by
  obtain ⟨W1, hW1⟩ : ∃ W1, W1 = ((w.alloc (.cells #[.slice B m d, .int .i64 e, .bool h] TRow)).alloc (.cells #[.slice none 0 0, .int .i64 0, .bool false] TD8)).alloc (.cells #[.slice none 0 0, .int .i64 e, .bool h] TD8) := ⟨_, rfl⟩
  obtain ⟨T, hT⟩ : ∃ T, T = w.heap.size + 1 + 1 := ⟨_, rfl⟩
  obtain ⟨L, hL⟩ : ∃ L, L = w.heap.size + 1 := ⟨_, rfl⟩
  obtain ⟨xs, hxs⟩ : ∃ xs, xs = cs.map (ccell s) := ⟨_, rfl⟩
  rw [← hxs]
  have HXS := Lib.hid hxs
  have H0 : Hid (Fr [] w W1) := by show Fr _ _ _; rw [hW1]; exact (((Fr.refl [] w).alloc _).alloc _).alloc _
  have HB1 : Hid (Blk W1 w.heap.size TRow #[.slice B m d, .int .i64 e, .bool h]) := by show Blk _ _ _ _; rw [hW1]; exact ((Blk.new w TRow _).alloc _).alloc _
  have HST : Hid (PS W1 W1 T L e h xs 0 none 0 0) := by
    have b1 := Blk.new (w.alloc (.cells #[.slice B m d, .int .i64 e, .bool h] TRow)) TD8 #[.slice none 0 0, .int .i64 0, .bool false]
    have b2 := Blk.new ((w.alloc (.cells #[.slice B m d, .int .i64 e, .bool h] TRow)).alloc (.cells #[.slice none 0 0, .int .i64 0, .bool false] TD8)) TD8 #[.slice none 0 0, .int .i64 e, .bool h]
    have b3 := b1.alloc (.cells #[.slice none 0 0, .int .i64 e, .bool h] TD8)
    simp only [World.size_alloc] at b2 b3
    rw [← hW1, ← hT] at b2
    rw [← hW1, ← hL] at b3
    exact ⟨b2, b3, ORow.nil_ _ _ _, rfl, Fr.refl _ _, b2.lt, b3.lt, by omega, fun k hk => (by cases hk), Nat.zero_le _⟩
  have HTL : Hid (w.heap.size ≤ T ∧ w.heap.size ≤ L ∧ T ≠ w.heap.size) := ⟨by omega, by omega, by omega⟩
  have HA := Lib.hid ha
  have HR := Lib.hid hr
  have HM := Lib.hid hm
  have HPL := Lib.hid hp
  have HLL := Lib.hid hl
  have HM6 := Lib.hid hm6
  have m6 : (m : Int) ≤ 1000000 := by omega
  have HW1 := Lib.hid hW1
  have HT := Lib.hid hT
  have HL := Lib.hid hL
  clear ha hr hm hp hl hm6 hW1 hT hL hxs
  go_enter Try.func36, Try.ntmps36
  go_wp2_with fail
  rw [← HW1.out, ← HT.out, ← HL.out]
  go_loopw [16] (fun iv wr => ∃ (j k n : Nat) (A : Option Addr), iv = .int .i64 j ∧ j ≤ m ∧ Hid (PS W1 wr T L e h xs j A n k)) (fun iv _ => m - (intOf iv).toNat)
  case atStart => exact ⟨0, 0, 0, none, rfl, Nat.zero_le _, HST.out⟩
  case round =>
    clear HST
    obtain ⟨j, k, n, A, rfl, hj, HD⟩ := hrel
    have HFW : Hid (Fr [] w wr) := H0.out.seq HD.out.fr fun z hz => by rw [List.mem_singleton] at hz; exact .inr (.inr ⟨T, HTL.out.1, hz⟩)
    by_cases hlt : j < m
    · have hjl : j < cs.length := by rw [← HM.out]; exact hlt
      obtain ⟨kB, kL⟩ := HR.out.fr0 HFW.out
      obtain ⟨bd, rfl, e0, e1⟩ := sl_elem (f := CV.cells) (sz := 5) (fun _ => rfl) kB hjl (by omega)
      obtain ⟨x, hx⟩ : ∃ x, x = cs[j] := ⟨_, rfl⟩
      rw [← hx] at e0 e1
      have hxm : x ∈ cs := by rw [hx]; exact List.getElem_mem hjl
      have HXF0 : xs[j]? = some (ccell s x) := by rw [HXS.out, List.getElem?_map, List.getElem?_eq_getElem hjl, ← hx]; rfl
      have HXP : (plc x.sp).length ≤ 1000000 := HPL.out x hxm
      have HXC : ∀ w', Fr [] w w' → CellAt s.length x w' := fun w' hf => ((HR.out.fr0 hf).2) x hxm
      obtain ⟨FB, fm, fd, sp, fq, fa, fn, fk⟩ := x
      obtain ⟨o1, ho1⟩ : ∃ o1, o1 = atP s (plc sp) := ⟨_, rfl⟩
      obtain ⟨o2, ho2⟩ : ∃ o2, o2 = (if fk then cutP s fa fn else []) := ⟨_, rfl⟩
      have HXF : Hid (xs[j]? = some ⟨o1, o2, fk⟩) := by show _ = _; rw [HXF0, ho1, ho2]; rfl
      have c0 : wr.cell? (bd.add (j * 5)) = some (.slice FB fm fd) := e0 _ rfl
      have c1 : wr.cell? ⟨(bd.add (j * 5)).block, (bd.add (j * 5)).off + 1, none⟩ = some (.int .i64 (fq : Nat)) := e1 0 _ rfl
      have c2 : wr.cell? ⟨(bd.add (j * 5)).block, (bd.add (j * 5)).off + 2, none⟩ = some (.int .i64 (fa : Nat)) := e1 1 _ rfl
      have c3 : wr.cell? ⟨(bd.add (j * 5)).block, (bd.add (j * 5)).off + 3, none⟩ = some (.int .i64 (fn : Nat)) := e1 2 _ rfl
      have c4 : wr.cell? ⟨(bd.add (j * 5)).block, (bd.add (j * 5)).off + 4, none⟩ = some (.bool fk) := e1 3 _ rfl
      have HC0 : Hid (∀ w', Fr [] wr w' → Calls Try.prog 72 #[.pointer (some ⟨g, 0, none⟩), .agg #[.slice FB fm fd, .int .i64 (fq : Nat), .int .i64 (fa : Nat), .int .i64 (fn : Nat), .bool fk]] w' fun e w'' => e = .returned (.agg #[.string ⟨o1.toArray⟩, .string ⟨o2.toArray⟩, .bool fk]) ∧ Fr [] w' w'') := by
        show ∀ _, _
        intro w' hf
        rw [ho1, ho2]
        exact p7_any w' g ⟨FB, fm, fd, sp, fq, fa, fn, fk⟩ s (HA.out.fr0 (HFW.out.trans hf)) (HXC w' (HFW.out.trans hf)) HXP HLL.out
      have HWA : Hid (∀ wa, wa = wr.alloc (.cells #[.slice FB fm fd, .int .i64 (fq : Nat), .int .i64 (fa : Nat), .int .i64 (fn : Nat), .bool fk] TCl) → Fr [] wr wa ∧ Blk wa wr.heap.size TCl #[.slice FB fm fd, .int .i64 (fq : Nat), .int .i64 (fa : Nat), .int .i64 (fn : Nat), .bool fk]) := by
        show ∀ _, _
        rintro wa rfl
        exact ⟨(Fr.refl [] wr).alloc _, Blk.new wr TCl _⟩
      have HN9 : Hid (k ≤ 1000000) := by show _ ≤ _; have := HD.out.ln; have := HM6.out; omega
      have i0 : (0 : Int) ≤ (j : Int) := by omega
      have i1 : (j : Int) < (m : Int) := by omega
      clear e0 e1 kB kL hx hxm HXF0 HXP HXC ho1 ho2 hjl
      go_wp2_with fail
      obtain ⟨wa, hwa⟩ : ∃ wa, wa = wr.alloc (.cells #[.slice FB fm fd, .int .i64 (fq : Nat), .int .i64 (fa : Nat), .int .i64 (fn : Nat), .bool fk] TCl) := ⟨_, rfl⟩
      obtain ⟨k1, k2⟩ := HWA.out wa hwa
      rw [← hwa]
      obtain ⟨X, hX⟩ : ∃ X, X = wr.heap.size := ⟨_, rfl⟩
      rw [← hX] at k2 ⊢
      have HXK := Lib.hid k2
      have HNE : Hid (T ≠ X) := by show _ ≠ _; have := HD.out.tb.lt; omega
      have hne : ¬ T = X := HNE.out
      have HP := Lib.hid (HD.out.fr0 k1)
      have HTB : Hid (∀ w', Fr [] wa w' → Blk w' T TD8 #[.slice A k n, .int .i64 e, .bool h]) := by
        show ∀ _, _
        intro w' hf
        exact HP.out.tb.fr hf (by simp)
      have HS : Hid (∀ w', Fr [] wa w' → w'.cell? ⟨X, 0, none⟩ = some (.slice FB fm fd) ∧ w'.cell? ⟨X, 1, none⟩ = some (.int .i64 (fq : Nat)) ∧ w'.cell? ⟨X, 2, none⟩ = some (.int .i64 (fa : Nat)) ∧ w'.cell? ⟨X, 3, none⟩ = some (.int .i64 (fn : Nat)) ∧ w'.cell? ⟨X, 4, none⟩ = some (.bool fk)) := by
        show ∀ _, _
        intro w' hf
        have q := HXK.out.fr hf (by simp)
        exact ⟨q.cell 0, q.cell 1, q.cell 2, q.cell 3, q.cell 4⟩
      have HC : Hid (∀ w', Fr [] wa w' → Calls Try.prog 72 #[.pointer (some ⟨g, 0, none⟩), .agg #[.slice FB fm fd, .int .i64 (fq : Nat), .int .i64 (fa : Nat), .int .i64 (fn : Nat), .bool fk]] w' fun e w'' => e = .returned (.agg #[.string ⟨o1.toArray⟩, .string ⟨o2.toArray⟩, .bool fk]) ∧ Fr [] w' w'') := by
        show ∀ _, _
        intro w' hf
        exact HC0.out w' (k1.trans hf)
      clear hwa hX k2 HWA HC0 c0 c1 c2 c3 c4 HFW HD k1
      have hF := (Fr.refl [] wa).drew
      refine wp_region_noPanic ?_
      refine wp_region_held_drew (S := (fun w' => w'.cell? ⟨X, 0, none⟩ = some (.slice FB fm fd) ∧ w'.cell? ⟨X, 1, none⟩ = some (.int .i64 (fq : Nat)) ∧ w'.cell? ⟨X, 2, none⟩ = some (.int .i64 (fa : Nat)) ∧ w'.cell? ⟨X, 3, none⟩ = some (.int .i64 (fn : Nat)) ∧ w'.cell? ⟨X, 4, none⟩ = some (.bool fk))) (by kernel_rfl) (HS.out _ ((Fr.refl [] wa).drew)) (fun hHeld => ?_)
      refine wpAnyH_take (i := 0) (oi := _) (v := ?_) rfl (by kernel_rfl) (by kernel_rfl) (by kernel_rfl) (fun _ _ _ h => h) (Or.inl ⟨by rfl, ?_⟩) (by assumption) ?_
      rotate_left
      · intro w hSw
        (try dsimp only at hSw)
        go_simp
        try with_reducible rfl
      try simp only [Act.put, List.setIfInBounds_toArray, List.set_cons_zero, List.set_cons_succ]
      refine wpAnyH_take (i := 2) (oi := _) (v := ?_) rfl (by kernel_rfl) (by kernel_rfl) (by kernel_rfl) (fun _ _ _ h => h) (Or.inl ⟨by rfl, ?_⟩) (by assumption) ?_
      rotate_left
      · intro w hSw
        (try dsimp only at hSw)
        go_simp
        try with_reducible rfl
      try simp only [Act.put, List.setIfInBounds_toArray, List.set_cons_zero, List.set_cons_succ]
      refine wpAnyH_take (i := 3) (oi := _) (v := ?_) rfl (by kernel_rfl) (by kernel_rfl) (by kernel_rfl) (fun _ _ _ h => h) (Or.inl ⟨by rfl, ?_⟩) (by assumption) ?_
      rotate_left
      · intro w hSw
        (try dsimp only at hSw)
        go_simp
        try with_reducible rfl
      try simp only [Act.put, List.setIfInBounds_toArray, List.set_cons_zero, List.set_cons_succ]
      refine wpAnyH_ready (rs := [1, 4]) (by kernel_rfl) (by simp) ?_
      refine AllReadyH.cons rfl (fun K hK => ?_) (AllReadyH.cons rfl (fun K hK => ?_) AllReadyH.nil)
      · have t0 := (HTB.out _ hF).cell 0
        go_simp
        refine hK.out _ _ (HS.out _ hF) (fun hHeld => ?_)
        clear hK K
        try simp only [Act.put, List.setIfInBounds_toArray, List.set_cons_zero, List.set_cons_succ]
        clear t0
        refine wpAnyH_ready (rs := [4]) (by kernel_rfl) (by simp) ?_
        refine AllReadyH.cons rfl (fun K hK => ?_) AllReadyH.nil
        refine step_call _ (by rfl) 72 #[.pointer (some ⟨g, 0, none⟩), .agg #[.slice FB fm fd, .int .i64 (fq : Nat), .int .i64 (fa : Nat), .int .i64 (fn : Nat), .bool fk]] (by go_simp) _ (HC.out _ hF) (by rintro e w' ⟨he, _⟩; exact ⟨_, he⟩) ?_
        intro v4 w4 hans
        obtain ⟨hv4, hf4⟩ := hans
        injection hv4 with hv4
        subst hv4
        have hF := hF.trans hf4
        clear hf4
        try go_simp
        refine hK.out _ _ (HS.out _ hF) (fun hHeld => ?_)
        clear hK K
        try simp only [Act.put, List.setIfInBounds_toArray, List.set_cons_zero, List.set_cons_succ]
        refine wpAnyH_ready (rs := [5]) (by kernel_rfl) (by simp) ?_
        refine AllReadyH.cons rfl (fun K hK => ?_) AllReadyH.nil
        have hF := hF.alloc (.cells #[.string ⟨o1.toArray⟩, .string ⟨o2.toArray⟩, .bool fk] TDc)
        go_simp
        refine hK.out _ _ (HS.out _ hF) (fun hHeld => ?_)
        clear hK K
        try simp only [Act.put, List.setIfInBounds_toArray, List.set_cons_zero, List.set_cons_succ]
        refine wpAnyH_ready (rs := [6]) (by kernel_rfl) (by simp) ?_
        refine AllReadyH.cons rfl (fun K hK => ?_) AllReadyH.nil
        refine step_app _ (by rfl) _ _ 93 TDc (by rfl) (Value.agg #[.string ⟨#[]⟩, .string ⟨#[]⟩, .bool false]) 3 40 Try.underlying93 infoDc rfl (by decide) A n k (dcc (xs.take j)) (by rfl) (ORow.fr HP.out.own hF (.inr List.not_mem_nil)) _ 1 1 [.string ⟨o1.toArray⟩, .string ⟨o2.toArray⟩, .bool fk] (by rfl) rfl (by exact blk_sl (Blk.new w4 TDc _) 3) (by simp [Value.oneCell']) (by have := HN9.out; simp only [maxLen]; omega) (by have := HN9.out; omega) ?_
        intro A2 c2 w5 hr2 hg2 hb2
        have hx := HP.out.step HXF.out hF hr2 hg2 hb2
        have HX5 := Lib.hid hx.1
        have g0 : w5.cell? ⟨T, 0, none⟩ = some (.slice A k n) := hx.2.cell 0
        have z0 := hx.2.frozen 0
        have lg := hx.2.lt
        have HS5 : Hid (∀ W, W = w5 ∨ W = w5.setCell ⟨T, 0, none⟩ (.slice A2 (k + 1) c2) → W.cell? ⟨X, 0, none⟩ = some (.slice FB fm fd) ∧ W.cell? ⟨X, 1, none⟩ = some (.int .i64 (fq : Nat)) ∧ W.cell? ⟨X, 2, none⟩ = some (.int .i64 (fa : Nat)) ∧ W.cell? ⟨X, 3, none⟩ = some (.int .i64 (fn : Nat)) ∧ W.cell? ⟨X, 4, none⟩ = some (.bool fk)) := by
          have hxA : some X ∉ [bk A] := fun e => by
            rw [List.mem_singleton] at e
            rcases ORow.neB HP.out.own HXK.out (by decide) with h | h
            · rw [h] at e; cases e
            · exact h e.symm
          have q5 := (HXK.out.fr hF (by simp)).fr hg2 hxA
          have q6 := q5.far (p := ⟨T, 0, none⟩) (fun e => HNE.out e.symm) (.slice A2 (k + 1) c2)
          show ∀ _, _
          rintro W (rfl | rfl)
          · exact ⟨q5.cell 0, q5.cell 1, q5.cell 2, q5.cell 3, q5.cell 4⟩
          · exact ⟨q6.cell 0, q6.cell 1, q6.cell 2, q6.cell 3, q6.cell 4⟩
        clear hr2 hg2 hb2 hx hF
        try go_simp
        refine hK.out _ _ (HS5.out _ (.inl rfl)) (fun hHeld => ?_)
        clear hK K
        try simp only [Act.put, List.setIfInBounds_toArray, List.set_cons_zero, List.set_cons_succ]
        refine wpAnyH_take (i := 7) (oi := _) (v := ?_) rfl (by kernel_rfl) (by kernel_rfl) (by kernel_rfl) (fun _ _ _ h => h) (Or.inl ⟨by rfl, ?_⟩) (by assumption) ?_
        rotate_left
        · intro w hSw
          (try dsimp only at hSw)
          go_simp
          try with_reducible rfl
        try simp only [Act.put, List.setIfInBounds_toArray, List.set_cons_zero, List.set_cons_succ]
        refine wpAnyH_ready (rs := [8]) (by kernel_rfl) (by simp) ?_
        refine AllReadyH.cons rfl (fun K hK => ?_) AllReadyH.nil
        go_simp
        refine hK.out _ _ (HS5.out _ (.inr rfl)) (fun hHeld => ?_)
        clear hK K
        try simp only [Act.put, List.setIfInBounds_toArray, List.set_cons_zero, List.set_cons_succ]
        refine wpAnyH_done (by kernel_rfl) ?_ _
        refine NoPanic.normal ?_
        clear hHeld g0 z0 lg
        go_wp2_with fail
        go_roundw
        case rel => exact ⟨j + 1, k + 1, c2, A2, by go_num, by omega, HX5.out⟩
        case measure => simp [intOf]; omega
      · refine step_call _ (by rfl) 72 #[.pointer (some ⟨g, 0, none⟩), .agg #[.slice FB fm fd, .int .i64 (fq : Nat), .int .i64 (fa : Nat), .int .i64 (fn : Nat), .bool fk]] (by go_simp) _ (HC.out _ hF) (by rintro e w' ⟨he, _⟩; exact ⟨_, he⟩) ?_
        intro v4 w4 hans
        obtain ⟨hv4, hf4⟩ := hans
        injection hv4 with hv4
        subst hv4
        have hF := hF.trans hf4
        clear hf4
        try go_simp
        refine hK.out _ _ (HS.out _ hF) (fun hHeld => ?_)
        clear hK K
        try simp only [Act.put, List.setIfInBounds_toArray, List.set_cons_zero, List.set_cons_succ]
        refine wpAnyH_ready (rs := [1, 5]) (by kernel_rfl) (by simp) ?_
        refine AllReadyH.cons rfl (fun K hK => ?_) (AllReadyH.cons rfl (fun K hK => ?_) AllReadyH.nil)
        · have t0 := (HTB.out _ hF).cell 0
          go_simp
          refine hK.out _ _ (HS.out _ hF) (fun hHeld => ?_)
          clear hK K
          try simp only [Act.put, List.setIfInBounds_toArray, List.set_cons_zero, List.set_cons_succ]
          clear t0
          refine wpAnyH_ready (rs := [5]) (by kernel_rfl) (by simp) ?_
          refine AllReadyH.cons rfl (fun K hK => ?_) AllReadyH.nil
          have hF := hF.alloc (.cells #[.string ⟨o1.toArray⟩, .string ⟨o2.toArray⟩, .bool fk] TDc)
          go_simp
          refine hK.out _ _ (HS.out _ hF) (fun hHeld => ?_)
          clear hK K
          try simp only [Act.put, List.setIfInBounds_toArray, List.set_cons_zero, List.set_cons_succ]
          refine wpAnyH_ready (rs := [6]) (by kernel_rfl) (by simp) ?_
          refine AllReadyH.cons rfl (fun K hK => ?_) AllReadyH.nil
          refine step_app _ (by rfl) _ _ 93 TDc (by rfl) (Value.agg #[.string ⟨#[]⟩, .string ⟨#[]⟩, .bool false]) 3 40 Try.underlying93 infoDc rfl (by decide) A n k (dcc (xs.take j)) (by rfl) (ORow.fr HP.out.own hF (.inr List.not_mem_nil)) _ 1 1 [.string ⟨o1.toArray⟩, .string ⟨o2.toArray⟩, .bool fk] (by rfl) rfl (by exact blk_sl (Blk.new w4 TDc _) 3) (by simp [Value.oneCell']) (by have := HN9.out; simp only [maxLen]; omega) (by have := HN9.out; omega) ?_
          intro A2 c2 w5 hr2 hg2 hb2
          have hx := HP.out.step HXF.out hF hr2 hg2 hb2
          have HX5 := Lib.hid hx.1
          have g0 : w5.cell? ⟨T, 0, none⟩ = some (.slice A k n) := hx.2.cell 0
          have z0 := hx.2.frozen 0
          have lg := hx.2.lt
          have HS5 : Hid (∀ W, W = w5 ∨ W = w5.setCell ⟨T, 0, none⟩ (.slice A2 (k + 1) c2) → W.cell? ⟨X, 0, none⟩ = some (.slice FB fm fd) ∧ W.cell? ⟨X, 1, none⟩ = some (.int .i64 (fq : Nat)) ∧ W.cell? ⟨X, 2, none⟩ = some (.int .i64 (fa : Nat)) ∧ W.cell? ⟨X, 3, none⟩ = some (.int .i64 (fn : Nat)) ∧ W.cell? ⟨X, 4, none⟩ = some (.bool fk)) := by
            have hxA : some X ∉ [bk A] := fun e => by
              rw [List.mem_singleton] at e
              rcases ORow.neB HP.out.own HXK.out (by decide) with h | h
              · rw [h] at e; cases e
              · exact h e.symm
            have q5 := (HXK.out.fr hF (by simp)).fr hg2 hxA
            have q6 := q5.far (p := ⟨T, 0, none⟩) (fun e => HNE.out e.symm) (.slice A2 (k + 1) c2)
            show ∀ _, _
            rintro W (rfl | rfl)
            · exact ⟨q5.cell 0, q5.cell 1, q5.cell 2, q5.cell 3, q5.cell 4⟩
            · exact ⟨q6.cell 0, q6.cell 1, q6.cell 2, q6.cell 3, q6.cell 4⟩
          clear hr2 hg2 hb2 hx hF
          try go_simp
          refine hK.out _ _ (HS5.out _ (.inl rfl)) (fun hHeld => ?_)
          clear hK K
          try simp only [Act.put, List.setIfInBounds_toArray, List.set_cons_zero, List.set_cons_succ]
          refine wpAnyH_take (i := 7) (oi := _) (v := ?_) rfl (by kernel_rfl) (by kernel_rfl) (by kernel_rfl) (fun _ _ _ h => h) (Or.inl ⟨by rfl, ?_⟩) (by assumption) ?_
          rotate_left
          · intro w hSw
            (try dsimp only at hSw)
            go_simp
            try with_reducible rfl
          try simp only [Act.put, List.setIfInBounds_toArray, List.set_cons_zero, List.set_cons_succ]
          refine wpAnyH_ready (rs := [8]) (by kernel_rfl) (by simp) ?_
          refine AllReadyH.cons rfl (fun K hK => ?_) AllReadyH.nil
          go_simp
          refine hK.out _ _ (HS5.out _ (.inr rfl)) (fun hHeld => ?_)
          clear hK K
          try simp only [Act.put, List.setIfInBounds_toArray, List.set_cons_zero, List.set_cons_succ]
          refine wpAnyH_done (by kernel_rfl) ?_ _
          refine NoPanic.normal ?_
          clear hHeld g0 z0 lg
          go_wp2_with fail
          go_roundw
          case rel => exact ⟨j + 1, k + 1, c2, A2, by go_num, by omega, HX5.out⟩
          case measure => simp [intOf]; omega
        · have hF := hF.alloc (.cells #[.string ⟨o1.toArray⟩, .string ⟨o2.toArray⟩, .bool fk] TDc)
          go_simp
          refine hK.out _ _ (HS.out _ hF) (fun hHeld => ?_)
          clear hK K
          try simp only [Act.put, List.setIfInBounds_toArray, List.set_cons_zero, List.set_cons_succ]
          refine wpAnyH_ready (rs := [1]) (by kernel_rfl) (by simp) ?_
          refine AllReadyH.cons rfl (fun K hK => ?_) AllReadyH.nil
          have t0 := (HTB.out _ hF).cell 0
          go_simp
          refine hK.out _ _ (HS.out _ hF) (fun hHeld => ?_)
          clear hK K
          try simp only [Act.put, List.setIfInBounds_toArray, List.set_cons_zero, List.set_cons_succ]
          clear t0
          refine wpAnyH_ready (rs := [6]) (by kernel_rfl) (by simp) ?_
          refine AllReadyH.cons rfl (fun K hK => ?_) AllReadyH.nil
          refine step_app _ (by rfl) _ _ 93 TDc (by rfl) (Value.agg #[.string ⟨#[]⟩, .string ⟨#[]⟩, .bool false]) 3 40 Try.underlying93 infoDc rfl (by decide) A n k (dcc (xs.take j)) (by rfl) (ORow.fr HP.out.own hF (.inr List.not_mem_nil)) _ 1 1 [.string ⟨o1.toArray⟩, .string ⟨o2.toArray⟩, .bool fk] (by rfl) rfl (by exact blk_sl (Blk.new w4 TDc _) 3) (by simp [Value.oneCell']) (by have := HN9.out; simp only [maxLen]; omega) (by have := HN9.out; omega) ?_
          intro A2 c2 w5 hr2 hg2 hb2
          have hx := HP.out.step HXF.out hF hr2 hg2 hb2
          have HX5 := Lib.hid hx.1
          have g0 : w5.cell? ⟨T, 0, none⟩ = some (.slice A k n) := hx.2.cell 0
          have z0 := hx.2.frozen 0
          have lg := hx.2.lt
          have HS5 : Hid (∀ W, W = w5 ∨ W = w5.setCell ⟨T, 0, none⟩ (.slice A2 (k + 1) c2) → W.cell? ⟨X, 0, none⟩ = some (.slice FB fm fd) ∧ W.cell? ⟨X, 1, none⟩ = some (.int .i64 (fq : Nat)) ∧ W.cell? ⟨X, 2, none⟩ = some (.int .i64 (fa : Nat)) ∧ W.cell? ⟨X, 3, none⟩ = some (.int .i64 (fn : Nat)) ∧ W.cell? ⟨X, 4, none⟩ = some (.bool fk)) := by
            have hxA : some X ∉ [bk A] := fun e => by
              rw [List.mem_singleton] at e
              rcases ORow.neB HP.out.own HXK.out (by decide) with h | h
              · rw [h] at e; cases e
              · exact h e.symm
            have q5 := (HXK.out.fr hF (by simp)).fr hg2 hxA
            have q6 := q5.far (p := ⟨T, 0, none⟩) (fun e => HNE.out e.symm) (.slice A2 (k + 1) c2)
            show ∀ _, _
            rintro W (rfl | rfl)
            · exact ⟨q5.cell 0, q5.cell 1, q5.cell 2, q5.cell 3, q5.cell 4⟩
            · exact ⟨q6.cell 0, q6.cell 1, q6.cell 2, q6.cell 3, q6.cell 4⟩
          clear hr2 hg2 hb2 hx hF
          try go_simp
          refine hK.out _ _ (HS5.out _ (.inl rfl)) (fun hHeld => ?_)
          clear hK K
          try simp only [Act.put, List.setIfInBounds_toArray, List.set_cons_zero, List.set_cons_succ]
          refine wpAnyH_take (i := 7) (oi := _) (v := ?_) rfl (by kernel_rfl) (by kernel_rfl) (by kernel_rfl) (fun _ _ _ h => h) (Or.inl ⟨by rfl, ?_⟩) (by assumption) ?_
          rotate_left
          · intro w hSw
            (try dsimp only at hSw)
            go_simp
            try with_reducible rfl
          try simp only [Act.put, List.setIfInBounds_toArray, List.set_cons_zero, List.set_cons_succ]
          refine wpAnyH_ready (rs := [8]) (by kernel_rfl) (by simp) ?_
          refine AllReadyH.cons rfl (fun K hK => ?_) AllReadyH.nil
          go_simp
          refine hK.out _ _ (HS5.out _ (.inr rfl)) (fun hHeld => ?_)
          clear hK K
          try simp only [Act.put, List.setIfInBounds_toArray, List.set_cons_zero, List.set_cons_succ]
          refine wpAnyH_done (by kernel_rfl) ?_ _
          refine NoPanic.normal ?_
          clear hHeld g0 z0 lg
          go_wp2_with fail
          go_roundw
          case rel => exact ⟨j + 1, k + 1, c2, A2, by go_num, by omega, HX5.out⟩
          case measure => simp [intOf]; omega
    · obtain rfl : j = m := by omega
      have HEND : Hid (∀ w', Fr [some L] wr w' → P8Ans w xs e h (.returned (.agg #[.slice A k n, .int .i64 e, .bool h])) w') := by
        show ∀ _, _
        intro w' hf
        have hjx : j = xs.length := by rw [HXS.out, List.length_map]; exact HM.out
        have hd := HD.out
        rw [hjx] at hd
        exact hd.fin H0.out HTL.out.1 HTL.out.2.1 hf
      have t0 : wr.cell? ⟨T, 0, none⟩ = some (.slice A k n) := HD.out.tb.cell 0
      have t1 : wr.cell? ⟨T, 1, none⟩ = some (.int .i64 e) := HD.out.tb.cell 1
      have t2 : wr.cell? ⟨T, 2, none⟩ = some (.bool h) := HD.out.tb.cell 2
      have l0 : wr.cell? ⟨L, 0, none⟩ = some (.slice none 0 0) := HD.out.lb.cell 0
      have l1 : wr.cell? ⟨L, 1, none⟩ = some (.int .i64 0) := HD.out.lb.cell 1
      have l2 : wr.cell? ⟨L, 2, none⟩ = some (.bool false) := HD.out.lb.cell 2
      have z0 := HD.out.lb.frozen 0
      have z1 := HD.out.lb.frozen 1
      have z2 := HD.out.lb.frozen 2
      have ll := HD.out.lb.lt
      go_wp2_with fail
      refine bodyPost_ret (v := .agg #[.slice A k n, .int .i64 e, .bool h]) (by simp [results, Try.results36, go_sem, *]) rfl ?_
      exact HEND.out _ ((((Fr.refl [some L] wr).setB (fun _ => by simp) _ _).setB (fun _ => by simp) _ _).setB (fun _ => by simp) _ _)
end Go.Proofs.Ytblafakafgediaa
