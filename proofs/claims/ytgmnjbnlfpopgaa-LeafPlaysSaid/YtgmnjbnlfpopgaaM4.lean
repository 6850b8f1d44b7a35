import Derived.Test.YtgmnjbnlfpopgaaM3
namespace Go.Proofs.Ytgmnjbnlfpopgaa
open Go.RowKit Go.Proofs.Dm

theorem _root_.Go.Proofs.Dm.ORow.front {w : World} {e : TypeId} {sz n c g : Nat} {cs : List Value} (h : ORow w e sz (some ⟨g, 0, none⟩) c n cs) (m : Nat) (hm : m ≤ n) : ORow w e sz (some ⟨g, 0, none⟩) c m (cs.take (m * sz)) := by
  have hms : m * sz ≤ n * sz := Nat.mul_le_mul_right _ hm
  refine ⟨by rw [List.length_take, h.1]; omega, ?_⟩
  rcases h.2 with ⟨he, _⟩ | ⟨g', cap, cur, he, hb, hg, hn, hc, hs, ht⟩
  · injection he with he; cases he
  · injection he with he1 he2 he3
    subst he3
    exact .inr ⟨g', c, cur, by rw [he1], hb, hg, by omega, hc, hs, by rw [← ht, List.take_take]; congr 1; omega⟩

set_option maxRecDepth 100000 in
set_option maxHeartbeats 1600000 in
theorem rpop_at (U : Nat → Prop) (w0 w : World) (g : Nat) (F : Value) (L : List Rn) (x : Rn) (h : RAt U w0 w g F (L ++ [x])) (hl : L.length ≤ 1000000) :
    Calls Try.prog 100 #[.pointer (some ⟨g, 0, none⟩)] w fun e w' => e = .returned (.iface 77 (.agg #[.slice x.A x.xs.length x.c, .int .i64 x.which])) ∧ RAt U w0 w' g F L := by
  obtain ⟨h1, h2, ⟨A, cap, h3, h4, h5, h6⟩, h7⟩ := h
  have hll : (L ++ [x]).length = L.length + 1 := by simp
  obtain ⟨b, rfl⟩ := orow_some h4 (rcells_ne (i := L.length) (by omega))
  have hbU : ¬ U b := h6 b rfl
  have hgb : g ≠ b := by simpa [bk] using h5
  have hcap : L.length ≤ cap := by have := ORow.cap h4; omega
  have c0 : w.cell? ⟨g, 0, none⟩ = some (.slice (some ⟨b, 0, none⟩) (L.length + 1) cap) := by rw [← hll]; exact h3.cell 0
  have f0 := h3.frozen 0
  have hgl := h3.lt
  obtain ⟨e1, e2⟩ := rcells_get (L ++ [x]) L.length (by omega)
  have hrl := rcells_len (L ++ [x])
  have hel : (L ++ [x])[L.length]'(by omega) = x := by simp
  rw [hel] at e1 e2
  have r1 : w.cell? ⟨b, L.length * 2, none⟩ = some (.slice x.A x.xs.length x.c) := by rw [World.ownsRow.cellAt h4 _ (by omega), Nat.mul_comm]; exact e1
  have r2 : w.cell? ⟨b, L.length * 2 + 1, none⟩ = some (.int .i64 x.which) := by rw [World.ownsRow.cellAt h4 _ (by omega), Nat.mul_comm]; exact e2
  have hbl : b < w.heap.size := World.block_lt_of_cell? w _ r1
  have hR : RAt U w0 ((w.setCell ⟨g, 0, none⟩ (.slice (some ⟨b, 0, none⟩) L.length cap)).alloc (.cells #[.slice x.A x.xs.length x.c, .int .i64 x.which] 77)) g F L := by
    refine RAt.store (cap := cap) ((h1.setB h2 _ _).alloc _) h2 hbU hgb ?_ ?_ (fun e he => h7 e (List.mem_append_left _ he))
    · have := (h3.set_ 0 (.slice (some ⟨b, 0, none⟩) L.length cap)).alloc (.cells #[.slice x.A x.xs.length x.c, .int .i64 x.which] 77)
      simpa using this
    · have h8 := h4.front L.length (by omega)
      rw [rcells_app, List.take_append_of_le_length (by rw [rcells_len]; omega), List.take_of_length_le (by rw [rcells_len]; omega)] at h8
      exact h8.fr (((Fr.refl [some g] w).setB (g := g) (by simp) 0 _).alloc _) (.inr (by simp [bk]; exact fun e => hgb e.symm))
  have HR := Lib.hid hR
  have hi : ((L.length : Int) + 1 - 1) = (L.length : Int) := by omega
  clear hR h1 h3 h4 h5 h6 h7 hll e1 e2 hrl hel hbU
  go_enter Try.func100, Try.ntmps100
  go_wp2
  go_ret
  exact ⟨rfl, HR.out⟩

end Go.Proofs.Ytgmnjbnlfpopgaa
