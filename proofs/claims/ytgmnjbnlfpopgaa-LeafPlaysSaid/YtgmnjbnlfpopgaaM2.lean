import Derived.Test.YtgmnjbnlfpopgaaM1
namespace Go.Proofs.Ytgmnjbnlfpopgaa
open Go.RowKit Go.Proofs.Dm

theorem RAt.grow {U : Nat → Prop} {w0 w w' : World} {g : Nat} {F : Value} {L : List Rn} (h : RAt U w0 w g F L) (hf : Fr [] w w') : RAt U w0 w' g F L := by
  obtain ⟨h1, h2, ⟨A, cap, h3, h4, h5, h6⟩, h7⟩ := h
  exact ⟨h1.trans hf, h2, ⟨A, cap, h3.fr hf (by simp), h4.fr hf (by simp), h5, h6⟩, h7⟩
theorem len_at (U : Nat → Prop) (w0 w : World) (g : Nat) (F : Value) (L : List Rn) (h : RAt U w0 w g F L) :
    Calls Try.prog 51 #[.pointer (some ⟨g, 0, none⟩)] w fun e w' => e = .returned (.int .i64 L.length) ∧ w = w' := by
  obtain ⟨h1, h2, ⟨A, cap, h3, h4, h5, h6⟩, h7⟩ := h
  have c0 : w.cell? ⟨g, 0, none⟩ = some (.slice A L.length cap) := h3.cell 0
  go_enter Try.func51, Try.ntmps51
  go_wp2
  go_ret
  exact ⟨rfl, rfl⟩

theorem orow_some {w : World} {e : TypeId} {sz n c : Nat} {A : Option Addr} {cs : List Value} (h : ORow w e sz A c n cs) (hn : cs ≠ []) : ∃ b, A = some ⟨b, 0, none⟩ := by
  rcases h.2 with ⟨he, h0⟩ | ⟨g, cap, cur, he, _⟩
  · have := h.1; subst h0; simp at this; exact absurd this hn
  · injection he with he; exact ⟨g, he⟩
theorem rcells_ne {L : List Rn} {i : Nat} (h : i < L.length) : rcells L ≠ [] := by
  intro e
  have := rcells_len L
  rw [e] at this; simp at this; omega
theorem sl_head {w : World} {A : Option Addr} {xs : List Int} (h : Sl w A (ints xs)) (hn : xs ≠ []) : ∃ ad, A = some ad ∧ w.cell? ad = some (.int .i64 (xs.headD 0)) := by
  rcases h with h | ⟨ad, rfl, hc⟩
  · simp [ints] at h; exact absurd h hn
  · cases xs with
    | nil => exact absurd rfl hn
    | cons x xs => exact ⟨ad, rfl, by have := hc 0 (.int .i64 x) rfl; simpa [Addr.add] using this⟩
theorem fru_sl {U : Nat → Prop} {w0 w : World} {A : Option Addr} {cs : List Value} (hf : FrU U w0 w) (h : Sl w0 A cs) (hU : ∀ j, bk A = some j → U j) : Sl w A cs := by
  rcases h with h | ⟨ad, rfl, hc⟩
  · exact .inl h
  · refine .inr ⟨ad, rfl, fun j u hu => ?_⟩
    rw [← hc j u hu]
    refine World.cell?_of_block (w := w0) ?_
    rw [block_add]
    exact hf.block _ (hU _ rfl)

set_option maxRecDepth 100000 in
set_option maxHeartbeats 1600000 in
theorem less_at (U : Nat → Prop) (w0 w : World) (g : Nat) (F : Value) (L : List Rn) (dom : Int → Prop) (key : Int → Int) (hF : CmpOK F U w0 dom key) (h : RAt U w0 w g F L) (hd : ∀ e ∈ L, ∀ x ∈ e.xs, dom x) (i j : Nat) (hi : i < L.length) (hj : j < L.length) (hni : L[i].xs ≠ []) (hnj : L[j].xs ≠ []) :
    Calls Try.prog 99 #[.pointer (some ⟨g, 0, none⟩), .int .i64 i, .int .i64 j] w fun e w' => e = .returned (.bool (rlt key L[i] L[j])) ∧ RAt U w0 w' g F L := by
  have h' := h
  obtain ⟨h1, h2, ⟨A, cap, h3, h4, h5, h6⟩, h7⟩ := h
  obtain ⟨b, rfl⟩ := orow_some h4 (rcells_ne hi)
  obtain ⟨n, C, rfl, hrun, hcmp⟩ := hF
  have c0 : w.cell? ⟨g, 0, none⟩ = some (.slice (some ⟨b, 0, none⟩) L.length cap) := h3.cell 0
  have c1 : w.cell? ⟨g, 1, none⟩ = some (.func (.func n) #[] C) := h3.cell 1
  obtain ⟨ei1, ei2⟩ := rcells_get L i hi
  obtain ⟨ej1, ej2⟩ := rcells_get L j hj
  have hrl := rcells_len L
  have r1 : w.cell? ⟨b, i * 2, none⟩ = some (.slice L[i].A L[i].xs.length L[i].c) := by rw [World.ownsRow.cellAt h4 _ (by omega), Nat.mul_comm]; exact ei1
  have r2 : w.cell? ⟨b, i * 2 + 1, none⟩ = some (.int .i64 L[i].which) := by rw [World.ownsRow.cellAt h4 _ (by omega), Nat.mul_comm]; exact ei2
  have r3 : w.cell? ⟨b, j * 2, none⟩ = some (.slice L[j].A L[j].xs.length L[j].c) := by rw [World.ownsRow.cellAt h4 _ (by omega), Nat.mul_comm]; exact ej1
  have r4 : w.cell? ⟨b, j * 2 + 1, none⟩ = some (.int .i64 L[j].which) := by rw [World.ownsRow.cellAt h4 _ (by omega), Nat.mul_comm]; exact ej2
  obtain ⟨x, hx⟩ : ∃ x, x = L[i] := ⟨_, rfl⟩
  obtain ⟨y, hy⟩ : ∃ y, y = L[j] := ⟨_, rfl⟩
  have hxm := h7 L[i] (List.getElem_mem hi)
  have hym := h7 L[j] (List.getElem_mem hj)
  have hxd := hd L[i] (List.getElem_mem hi)
  have hyd := hd L[j] (List.getElem_mem hj)
  rw [← hx] at r1 r2 hxm hxd hni ⊢
  rw [← hy] at r3 r4 hym hyd hnj ⊢
  obtain ⟨Ax, cx, xs, wx⟩ := x
  obtain ⟨Ay, cy, ys, wy⟩ := y
  simp only at r1 r2 r3 r4 hxm hym hxd hyd hni hnj
  clear hx hy ei1 ei2 ej1 ej2 hrl
  obtain ⟨ax, rfl, hcx⟩ := sl_head (fru_sl h1 hxm.1 hxm.2) hni
  obtain ⟨ay, rfl, hcy⟩ := sl_head (fru_sl h1 hym.1 hym.2) hnj
  have hxl : 0 < xs.length := List.length_pos_iff.2 hni
  have hyl : 0 < ys.length := List.length_pos_iff.2 hnj
  have hgl := h3.lt
  have hbl : b < w.heap.size := World.block_lt_of_cell? w _ r1
  go_enter Try.func99, Try.ntmps99
  go_wp2
  go_region
  · go_wp2
    have hf2 : Fr [] w ((w.alloc (.cells #[.slice (some ax) xs.length cx, .int .i64 wx] 77)).alloc (.cells #[.slice (some ay) ys.length cy, .int .i64 wy] 77)).drew := (((Fr.refl [] w).alloc _).alloc _).drew
    have q0 : ((w.alloc (.cells #[.slice (some ax) xs.length cx, .int .i64 wx] 77)).alloc (.cells #[.slice (some ay) ys.length cy, .int .i64 wy] 77)).drew.cell? ⟨g, 1, none⟩ = some (.func (.func n) #[] C) := (Blk.fr h3 hf2 (by simp)).cell 1
    have q1 : ((w.alloc (.cells #[.slice (some ax) xs.length cx, .int .i64 wx] 77)).alloc (.cells #[.slice (some ay) ys.length cy, .int .i64 wy] 77)).drew.cell? ax = some (.int .i64 (xs.headD 0)) := by rw [← hcx]; exact hf2.cell (World.block_lt_of_cell? w _ hcx) (by simp)
    have q2 : ((w.alloc (.cells #[.slice (some ax) xs.length cx, .int .i64 wx] 77)).alloc (.cells #[.slice (some ay) ys.length cy, .int .i64 wy] 77)).drew.cell? ay = some (.int .i64 (ys.headD 0)) := by rw [← hcy]; exact hf2.cell (World.block_lt_of_cell? w _ hcy) (by simp)
    have hbx : Blk ((w.alloc (.cells #[.slice (some ax) xs.length cx, .int .i64 wx] 77)).alloc (.cells #[.slice (some ay) ys.length cy, .int .i64 wy] 77)).drew w.heap.size 77 #[.slice (some ax) xs.length cx, .int .i64 wx] := ((Blk.new w 77 _).alloc _).drew
    have hby : Blk ((w.alloc (.cells #[.slice (some ax) xs.length cx, .int .i64 wx] 77)).alloc (.cells #[.slice (some ay) ys.length cy, .int .i64 wy] 77)).drew (w.heap.size + 1) 77 #[.slice (some ay) ys.length cy, .int .i64 wy] := by
      have := Blk.new (w.alloc (.cells #[.slice (some ax) xs.length cx, .int .i64 wx] 77)) 77 #[.slice (some ay) ys.length cy, .int .i64 wy]
      rw [show (w.alloc (.cells #[.slice (some ax) xs.length cx, .int .i64 wx] 77)).heap.size = w.heap.size + 1 by simp] at this
      exact this.drew
    generalize ((w.alloc (.cells #[.slice (some ax) xs.length cx, .int .i64 wx] 77)).alloc (.cells #[.slice (some ay) ys.length cy, .int .i64 wy] 77)).drew = W2 at hf2 q0 q1 q2 hbx hby ⊢
    have x0 : W2.cell? ⟨w.heap.size, 0, none⟩ = some (.slice (some ax) xs.length cx) := hbx.cell 0
    have x1 : W2.cell? ⟨w.heap.size, 1, none⟩ = some (.int .i64 wx) := hbx.cell 1
    have y0 : W2.cell? ⟨w.heap.size + 1, 0, none⟩ = some (.slice (some ay) ys.length cy) := hby.cell 0
    have y1 : W2.cell? ⟨w.heap.size + 1, 1, none⟩ = some (.int .i64 wy) := hby.cell 1
    have hr2 := h'.grow hf2
    have hdx : dom (xs.headD 0) := hxd _ (by cases xs with | nil => simp at hxl | cons x xs => simp)
    have hdy : dom (ys.headD 0) := hyd _ (by cases ys with | nil => simp at hyl | cons x xs => simp)
    have hlt : rlt key ⟨some ax, cx, xs, wx⟩ ⟨some ay, cy, ys, wy⟩ = (decide (key (xs.headD 0) < key (ys.headD 0)) || (key (xs.headD 0) == key (ys.headD 0) && decide (wx < wy))) := rfl
    obtain ⟨u, hu⟩ : ∃ u, u = xs.headD 0 := ⟨_, rfl⟩
    obtain ⟨v, hv⟩ : ∃ v, v = ys.headD 0 := ⟨_, rfl⟩
    rw [← hu] at q1 hdx hlt
    rw [← hv] at q2 hdy hlt
    obtain ⟨sg, hsg⟩ : ∃ sg, sg = sgn (key u) (key v) := ⟨_, rfl⟩
    have hcm : ∀ m, Calls Try.prog n (#[.int .i64 u, .int .i64 v] ++ C) (W2.drewN m) fun e w' => e = .returned (.int .i64 sg) ∧ ∃ k, w' = (W2.drewN m).drewN k := fun m => by rw [hsg]; exact hcmp _ _ _ hdx hdy ((h1.trans hf2).trans ((Fr.refl [] W2).drewN m))
    have HSG := Lib.hid hsg
    have HLT := Lib.hid hlt
    clear hu hv hlt hsg
    clear hni hnj h1 h3 h4 h5 h6 h7 hcmp h' c0 c1 r1 r2 r3 r4 hxm hym hxd hyd hcx hcy hf2 hbx hby hdx hdy hd
    go_quiet ((exact Calls.quiet_of (hcm _)))
    clear hcm hrun
    by_cases h0 : sg = 0
    · subst h0
      have hk : key u = key v := by have := HSG.out; unfold sgn at this; split at this; omega; split at this; omega; omega
      have HB : Hid ((decide (key u < key v) || (key u == key v && decide (wx < wy))) = decide (wx < wy)) := by show _ = _; simp [hk]
      clear hk
      go_wp2
      go_ret
      exact ⟨by rw [HLT.out, HB.out]; rfl, hr2.grow ((Fr.refl [] W2).drewN _)⟩
    · have h0' : (sg != 0) = true := by simpa using h0
      have HB : Hid ((decide (key u < key v) || (key u == key v && decide (wx < wy))) = decide (sg < 0)) := by
        have := HSG.out
        show _ = _
        unfold sgn at this
        rw [Bool.eq_iff_iff]
        simp only [Bool.or_eq_true, decide_eq_true_eq, Bool.and_eq_true, beq_iff_eq]
        split at this
        · omega
        · split at this
          · omega
          · omega
      clear h0
      go_wp2
      go_ret
      exact ⟨by rw [HLT.out, HB.out]; rfl, hr2.grow ((Fr.refl [] W2).drewN _)⟩
  · go_wp2
    have hf2 : Fr [] w ((w.alloc (.cells #[.slice (some ay) ys.length cy, .int .i64 wy] 77)).alloc (.cells #[.slice (some ax) xs.length cx, .int .i64 wx] 77)).drew := (((Fr.refl [] w).alloc _).alloc _).drew
    have q0 : ((w.alloc (.cells #[.slice (some ay) ys.length cy, .int .i64 wy] 77)).alloc (.cells #[.slice (some ax) xs.length cx, .int .i64 wx] 77)).drew.cell? ⟨g, 1, none⟩ = some (.func (.func n) #[] C) := (Blk.fr h3 hf2 (by simp)).cell 1
    have q1 : ((w.alloc (.cells #[.slice (some ay) ys.length cy, .int .i64 wy] 77)).alloc (.cells #[.slice (some ax) xs.length cx, .int .i64 wx] 77)).drew.cell? ax = some (.int .i64 (xs.headD 0)) := by rw [← hcx]; exact hf2.cell (World.block_lt_of_cell? w _ hcx) (by simp)
    have q2 : ((w.alloc (.cells #[.slice (some ay) ys.length cy, .int .i64 wy] 77)).alloc (.cells #[.slice (some ax) xs.length cx, .int .i64 wx] 77)).drew.cell? ay = some (.int .i64 (ys.headD 0)) := by rw [← hcy]; exact hf2.cell (World.block_lt_of_cell? w _ hcy) (by simp)
    have hby : Blk ((w.alloc (.cells #[.slice (some ay) ys.length cy, .int .i64 wy] 77)).alloc (.cells #[.slice (some ax) xs.length cx, .int .i64 wx] 77)).drew w.heap.size 77 #[.slice (some ay) ys.length cy, .int .i64 wy] := ((Blk.new w 77 _).alloc _).drew
    have hbx : Blk ((w.alloc (.cells #[.slice (some ay) ys.length cy, .int .i64 wy] 77)).alloc (.cells #[.slice (some ax) xs.length cx, .int .i64 wx] 77)).drew (w.heap.size + 1) 77 #[.slice (some ax) xs.length cx, .int .i64 wx] := by
      have := Blk.new (w.alloc (.cells #[.slice (some ay) ys.length cy, .int .i64 wy] 77)) 77 #[.slice (some ax) xs.length cx, .int .i64 wx]
      rw [show (w.alloc (.cells #[.slice (some ay) ys.length cy, .int .i64 wy] 77)).heap.size = w.heap.size + 1 by simp] at this
      exact this.drew
    generalize ((w.alloc (.cells #[.slice (some ay) ys.length cy, .int .i64 wy] 77)).alloc (.cells #[.slice (some ax) xs.length cx, .int .i64 wx] 77)).drew = W2 at hf2 q0 q1 q2 hbx hby ⊢
    have x0 : W2.cell? ⟨w.heap.size + 1, 0, none⟩ = some (.slice (some ax) xs.length cx) := hbx.cell 0
    have x1 : W2.cell? ⟨w.heap.size + 1, 1, none⟩ = some (.int .i64 wx) := hbx.cell 1
    have y0 : W2.cell? ⟨w.heap.size, 0, none⟩ = some (.slice (some ay) ys.length cy) := hby.cell 0
    have y1 : W2.cell? ⟨w.heap.size, 1, none⟩ = some (.int .i64 wy) := hby.cell 1
    have hr2 := h'.grow hf2
    have hdx : dom (xs.headD 0) := hxd _ (by cases xs with | nil => simp at hxl | cons x xs => simp)
    have hdy : dom (ys.headD 0) := hyd _ (by cases ys with | nil => simp at hyl | cons x xs => simp)
    have hlt : rlt key ⟨some ax, cx, xs, wx⟩ ⟨some ay, cy, ys, wy⟩ = (decide (key (xs.headD 0) < key (ys.headD 0)) || (key (xs.headD 0) == key (ys.headD 0) && decide (wx < wy))) := rfl
    obtain ⟨u, hu⟩ : ∃ u, u = xs.headD 0 := ⟨_, rfl⟩
    obtain ⟨v, hv⟩ : ∃ v, v = ys.headD 0 := ⟨_, rfl⟩
    rw [← hu] at q1 hdx hlt
    rw [← hv] at q2 hdy hlt
    obtain ⟨sg, hsg⟩ : ∃ sg, sg = sgn (key u) (key v) := ⟨_, rfl⟩
    have hcm : ∀ m, Calls Try.prog n (#[.int .i64 u, .int .i64 v] ++ C) (W2.drewN m) fun e w' => e = .returned (.int .i64 sg) ∧ ∃ k, w' = (W2.drewN m).drewN k := fun m => by rw [hsg]; exact hcmp _ _ _ hdx hdy ((h1.trans hf2).trans ((Fr.refl [] W2).drewN m))
    have HSG := Lib.hid hsg
    have HLT := Lib.hid hlt
    clear hu hv hlt hsg
    clear hni hnj h1 h3 h4 h5 h6 h7 hcmp h' c0 c1 r1 r2 r3 r4 hxm hym hxd hyd hcx hcy hf2 hbx hby hdx hdy hd
    go_quiet ((exact Calls.quiet_of (hcm _)))
    clear hcm hrun
    by_cases h0 : sg = 0
    · subst h0
      have hk : key u = key v := by have := HSG.out; unfold sgn at this; split at this; omega; split at this; omega; omega
      have HB : Hid ((decide (key u < key v) || (key u == key v && decide (wx < wy))) = decide (wx < wy)) := by show _ = _; simp [hk]
      clear hk
      go_wp2
      go_ret
      exact ⟨by rw [HLT.out, HB.out]; rfl, hr2.grow ((Fr.refl [] W2).drewN _)⟩
    · have h0' : (sg != 0) = true := by simpa using h0
      have HB : Hid ((decide (key u < key v) || (key u == key v && decide (wx < wy))) = decide (sg < 0)) := by
        have := HSG.out
        show _ = _
        unfold sgn at this
        rw [Bool.eq_iff_iff]
        simp only [Bool.or_eq_true, decide_eq_true_eq, Bool.and_eq_true, beq_iff_eq]
        split at this
        · omega
        · split at this
          · omega
          · omega
      clear h0
      go_wp2
      go_ret
      exact ⟨by rw [HLT.out, HB.out]; rfl, hr2.grow ((Fr.refl [] W2).drewN _)⟩
end Go.Proofs.Ytgmnjbnlfpopgaa
