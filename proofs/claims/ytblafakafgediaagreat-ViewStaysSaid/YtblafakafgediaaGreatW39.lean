import Derived.Test.YtblafakafgediaaGreatW28
import Derived.Test.YtblafakafgediaaGreatW38
namespace Go.Proofs.YtblafakafgediaaGreat
open Go.RowKit Go.Shelf Go.Proofs.Dm
attribute [local go_sem] Oper.semAt_some
def FuncNewB (w : World) (p : Option Addr) (i j : Nat) (en : Ending) (w' : World) : Prop :=
  ∃ bi bj bt : Nat, en = .returned (.func (.func 159) #[] #[.pointer (some ⟨bi, 0, none⟩), .pointer (some ⟨bj, 0, none⟩), .pointer (some ⟨bt, 0, none⟩)]) ∧
    w'.cell? ⟨bi, 0, none⟩ = some (.int .i64 (i : Nat)) ∧ w'.cell? ⟨bj, 0, none⟩ = some (.int .i64 (j : Nat)) ∧ w'.cell? ⟨bt, 0, none⟩ = some (.pointer p) ∧ Fr [] w w' ∧ w.heap.size ≤ bi ∧ w.heap.size ≤ bj ∧ w.heap.size ≤ bt
set_option maxHeartbeats 800000 in
theorem back_new (E : List (Option Nat)) (p : Option Addr) (xs : List RV) (w : World) (ht : TreeAt TN E w p xs) (hn : xs.length ≤ 100000) :
    Calls Tryz.prog 96 #[.agg #[.pointer p], .int .i64 0, .int .i64 (xs.length : Nat)] w (FuncNewB w p 0 xs.length) := by
  obtain ⟨n, hnn⟩ : ∃ n, n = xs.length := ⟨_, rfl⟩
  have HW : Hid (∀ W0, W0 = ((w.alloc (.cells #[.pointer p] 31)).alloc (.cells #[.int .i64 0] 3)).alloc (.cells #[.int .i64 (n : Nat)] 3) → Fr [] w W0 ∧ Blk W0 w.heap.size 31 #[.pointer p] ∧ Blk W0 (w.heap.size + 1) 3 #[.int .i64 0] ∧ Blk W0 (w.heap.size + 1 + 1) 3 #[.int .i64 (n : Nat)] ∧
      Calls Tryz.prog 130 #[.agg #[.pointer p], .int .i64 0, .int .i64 (n : Nat)] W0 fun en w' => en = .returned (.tuple #[.int .i64 0, .int .i64 (n : Nat)]) ∧ Fr [] W0 w') := by
    show ∀ _, _
    rintro W0 rfl
    have hf : Fr [] w (((w.alloc (.cells #[.pointer p] 31)).alloc (.cells #[.int .i64 0] 3)).alloc (.cells #[.int .i64 (n : Nat)] 3)) := (((Fr.refl [] w).alloc _).alloc _).alloc _
    have b1 := Blk.new (w.alloc (.cells #[.pointer p] 31)) 3 #[.int .i64 0]
    have b2 := Blk.new ((w.alloc (.cells #[.pointer p] 31)).alloc (.cells #[.int .i64 0] 3)) 3 #[.int .i64 (n : Nat)]
    refine ⟨hf, ((Blk.new w _ _).alloc _).alloc _, ?_, ?_, ?_⟩
    · have := b1.alloc (.cells #[.int .i64 (n : Nat)] 3)
      simpa using this
    · simpa using b2
    · rw [hnn]
      exact stretch_all E p xs _ (ht.fr0 (by rw [← hnn]; exact hf)) hn
  rw [← hnn]
  clear ht hn hnn
  go_enter Tryz.func96, Tryz.ntmps96
  go_wp2_with fail
  obtain ⟨W0, hW0⟩ : ∃ W0, W0 = ((w.alloc (.cells #[.pointer p] 31)).alloc (.cells #[.int .i64 0] 3)).alloc (.cells #[.int .i64 (n : Nat)] 3) := ⟨_, rfl⟩
  obtain ⟨k1, k2, k3, k4, k5⟩ := HW.out W0 hW0
  rw [← hW0]
  refine k5.mono ?_
  rintro en w1 ⟨rfl, hf⟩
  have c2 := k2.fr hf (by simp)
  have c3 := k3.fr hf (by simp)
  have c4 := k4.fr hf (by simp)
  have HF := Lib.hid (k1.trans hf)
  have HB : Hid (Blk w1 w.heap.size 31 #[.pointer p] ∧ Blk w1 (w.heap.size + 1) 3 #[.int .i64 0] ∧ Blk w1 (w.heap.size + 1 + 1) 3 #[.int .i64 (n : Nat)]) := ⟨c2, c3, c4⟩
  have d3 : w1.cell? ⟨w.heap.size + 1, 0, none⟩ = some (.int .i64 0) := c3.cell 0
  have d4 : w1.cell? ⟨w.heap.size + 1 + 1, 0, none⟩ = some (.int .i64 (n : Nat)) := c4.cell 0
  have z3 := c3.frozen 0
  have z4 := c4.frozen 0
  have l3 := c3.lt
  have l4 := c4.lt
  clear hW0 k1 k2 k3 k4 k5 hf c2 c3 c4 HW
  go_wp2_with fail
  go_ret
  obtain ⟨b2, b3, b4⟩ := HB.out
  have e3 := (b3.set_ 0 (.int .i64 0)).far (p := ⟨w.heap.size + 1 + 1, 0, none⟩) (by simp) (.int .i64 (n : Nat))
  have e4 := (b4.far (p := ⟨w.heap.size + 1, 0, none⟩) (by simp) (.int .i64 0)).set_ 0 (.int .i64 (n : Nat))
  have e2 := (b2.far (p := ⟨w.heap.size + 1, 0, none⟩) (by simp) (.int .i64 0)).far (p := ⟨w.heap.size + 1 + 1, 0, none⟩) (by simp; omega) (.int .i64 (n : Nat))
  exact ⟨_, _, _, rfl, e3.cell 0, e4.cell 0, e2.cell 0, (HF.out.setB (fun h => by omega) _ _).setB (fun h => by omega) _ _, by omega, by omega, Nat.le_refl _⟩
end Go.Proofs.YtblafakafgediaaGreat
