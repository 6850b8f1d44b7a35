import Derived.Test.YtefajedbdpkefaaW1
import Derived.Test.YtefajedbdpkefaaMap
namespace Go.Proofs.Ytefajedbdpkefaa
open Go.RowKit Go.Proofs.Dm

theorem stop_off (g : Nat) (r l tl dot : Value) (o to : Bool) (w : World) (hb : Blk w g 45 #[r, .int .i64 0, l, .bool o, tl, .bool to, dot]) :
    Calls Try.prog 8 #[.pointer (some ⟨g, 0, none⟩)] w fun e w' => e = .returned (.tuple #[.int .i64 0, .int .i64 9]) ∧ w = w' := by
  have c1 : w.cell? ⟨g, 1, none⟩ = some (.int .i64 0) := hb.cell 1
  go_enter Try.func8, Try.ntmps8
  go_wp2
  go_ret2
  exact ⟨rfl, rfl⟩

theorem stop_nil (w : World) : Calls Try.prog 8 #[.pointer none] w fun e w' => e = .returned (.tuple #[.int .i64 0, .int .i64 2]) ∧ w = w' := by
  go_enter Try.func8, Try.ntmps8
  go_wp2
  go_ret2
  exact ⟨rfl, rfl⟩

set_option maxHeartbeats 800000 in
theorem stop_row (g r : Nat) (tl dot : Value) (A : Option Addr) (c n : Nat) (o to : Bool) (nm : Int) (m : List (Int × Value)) (w : World) (hm : (nm == 0) = false) (hn : ((n : Int) == 0) = false)
    (hb : Blk w g 45 #[.map (some r), .int .i64 nm, .slice A n c, .bool o, tl, .bool to, dot]) (hmap : MapI w r m) (hgr : g ≠ r) :
    Calls Try.prog 8 #[.pointer (some ⟨g, 0, none⟩)] w fun e w' => e = .returned (.tuple #[.int .i64 n, .int .i64 0]) ∧
      Blk w' g 45 #[.map (some r), .int .i64 0, .slice none 0 0, .bool false, tl, .bool to, dot] ∧ MapI w' r (mput m nm (.slice A n c)) ∧ Fr [some g, some r] w w' := by
  have c0 : w.cell? ⟨g, 0, none⟩ = some (.map (some r)) := hb.cell 0
  have c1 : w.cell? ⟨g, 1, none⟩ = some (.int .i64 nm) := hb.cell 1
  have c2 : w.cell? ⟨g, 2, none⟩ = some (.slice A n c) := hb.cell 2
  go_enter Try.func8, Try.ntmps8
  go_wp2
  go_still_tail 13, (by kernel_rfl)
  refine wpList_mput _ rfl _ _ _ 41 rfl 3 22 Try.underlying41 Try.underlying3 r m nm (.slice A n c) rfl rfl rfl hmap ?_
  intro w1 hm1 hf1
  have hf0 : Fr [some g, some r] w w1 := (Fr.refl _ w).drew.seq hf1 (by simp)
  have hB1 := Blk.fr hb.drew hf1 (by simpa using hgr)
  have d1 : w1.cell? ⟨g, 1, none⟩ = some (.int .i64 nm) := hB1.cell 1
  have d2 : w1.cell? ⟨g, 2, none⟩ = some (.slice A n c) := hB1.cell 2
  have d3 : w1.cell? ⟨g, 3, none⟩ = some (.bool o) := hB1.cell 3
  have f1 := hB1.frozen 1
  have f2 := hB1.frozen 2
  have f3 := hB1.frozen 3
  go_wp2
  go_ret2
  have hf2 : Fr [some g] w1 _ := ((((Fr.refl _ w1).setB (g := g) (by simp) 1 (.int .i64 0)).setB (g := g) (by simp) 2 (.slice none 0 0)).setB (g := g) (by simp) 3 (.bool false))
  exact ⟨rfl, ((hB1.set_ 1 _).set_ 2 _).set_ 3 _, hm1.fr hf2 (by simpa using Ne.symm hgr), hf0.seq hf2 (by simp)⟩

set_option maxHeartbeats 800000 in
theorem stop_none (g r : Nat) (tl dot : Value) (A : Option Addr) (c : Nat) (o to : Bool) (nm : Int) (m : List (Int × Value)) (w : World) (hm : (nm == 0) = false)
    (hb : Blk w g 45 #[.map (some r), .int .i64 nm, .slice A 0 c, .bool o, tl, .bool to, dot]) (hmap : MapI w r m) (hgr : g ≠ r) :
    Calls Try.prog 8 #[.pointer (some ⟨g, 0, none⟩)] w fun e w' => e = .returned (.tuple #[.int .i64 0, .int .i64 0]) ∧
      Blk w' g 45 #[.map (some r), .int .i64 0, .slice none 0 0, .bool false, tl, .bool to, dot] ∧ MapI w' r (mdel m nm) ∧ Fr [some g, some r] w w' := by
  have c0 : w.cell? ⟨g, 0, none⟩ = some (.map (some r)) := hb.cell 0
  have c1 : w.cell? ⟨g, 1, none⟩ = some (.int .i64 nm) := hb.cell 1
  have c2 : w.cell? ⟨g, 2, none⟩ = some (.slice A 0 c) := hb.cell 2
  go_enter Try.func8, Try.ntmps8
  go_wp2
  go_still_tail 8, (by kernel_rfl)
  refine wpList_mdel _ rfl _ _ 41 3 rfl 22 Try.underlying41 Try.underlying3 r m nm rfl rfl hmap ?_
  intro w1 hm1 hf1
  have hf0 : Fr [some g, some r] w w1 := (Fr.refl _ w).drew.seq hf1 (by simp)
  have hB1 := Blk.fr hb.drew hf1 (by simpa using hgr)
  have d1 : w1.cell? ⟨g, 1, none⟩ = some (.int .i64 nm) := hB1.cell 1
  have d2 : w1.cell? ⟨g, 2, none⟩ = some (.slice A 0 c) := hB1.cell 2
  have d3 : w1.cell? ⟨g, 3, none⟩ = some (.bool o) := hB1.cell 3
  have f1 := hB1.frozen 1
  have f2 := hB1.frozen 2
  have f3 := hB1.frozen 3
  go_wp2
  go_ret2
  have hf2 : Fr [some g] w1 _ := ((((Fr.refl _ w1).setB (g := g) (by simp) 1 (.int .i64 0)).setB (g := g) (by simp) 2 (.slice none 0 0)).setB (g := g) (by simp) 3 (.bool false))
  exact ⟨rfl, ((hB1.set_ 1 _).set_ 2 _).set_ 3 _, hm1.fr hf2 (by simpa using Ne.symm hgr), hf0.seq hf2 (by simp)⟩

theorem zero22 (w : World) : (zeroValue 22).run Try.prog w = .ok (.slice none 0 0) w := by kernel_rfl

theorem get_nil (k : Int) (w : World) : Calls Try.prog 9 #[.pointer none, .int .i64 k] w fun e w' => e = .returned (.tuple #[.slice none 0 0, .bool false]) ∧ w = w' := by
  go_enter Try.func9, Try.ntmps9
  go_wp2
  go_ret2
  exact ⟨rfl, rfl⟩

set_option maxHeartbeats 800000 in
theorem get_any (g r : Nat) (nm l o tl to dot : Value) (A : Option Addr) (c : Nat) (k : Int) (xs : List Int) (m : List (Int × Value)) (w : World)
    (hb : Blk w g 45 #[.map (some r), nm, l, o, tl, to, dot]) (hmap : MapI w r m) (hg : (mget m k).getD (.slice none 0 0) = .slice A xs.length c) (hs : Sl w A (ints xs)) (hl : xs.length ≤ 1099511627776) :
    Calls Try.prog 9 #[.pointer (some ⟨g, 0, none⟩), .int .i64 k] w fun e w' => ∃ A' c', e = .returned (.tuple #[.slice A' xs.length c', .bool (decide (0 < xs.length))]) ∧
      IRow w' 3 A' c' xs ∧ Fr [] w w' ∧ (bk A' = none ∨ ∃ j, w.heap.size ≤ j ∧ bk A' = some j) := by
  have c0 : w.cell? ⟨g, 0, none⟩ = some (.map (some r)) := hb.cell 0
  have hrun := run_lookup_int (P := Try.prog) hmap Try.underlying41 Try.underlying3 _ (zero22 _) k false
  rw [hg] at hrun
  go_enter Try.func9, Try.ntmps9
  go_wp2_with (go_at_call 18; go_must (
    refine (clone_any A c xs _ hs hl).mono ?_
    rintro e w1 ⟨A1, c1, rfl, hr1, hf1, hb1⟩))
  go_ret2
  exact ⟨A1, c1, rfl, hr1, hf1, hb1⟩

theorem new_any (w : World) : Calls Try.prog 5 #[] w fun e w' => ∃ g r, e = .returned (.pointer (some ⟨g, 0, none⟩)) ∧ w.heap.size ≤ g ∧ w.heap.size ≤ r ∧ g ≠ r ∧
    Blk w' g 45 #[.map (some r), .int .i64 0, .slice none 0 0, .bool false, .slice none 0 0, .bool false, .slice none 0 0] ∧ MapI w' r [] ∧ Fr [] w w' := by
  have hmm := @run_makeMap Try.prog
  go_enter Try.func5, Try.ntmps5
  go_wp2
  go_ret
  refine ⟨w.heap.size + 1, w.heap.size, rfl, by omega, Nat.le_refl _, by omega, ?_, ?_, ?_⟩
  · have := Blk.new (w.alloc (.map #[] 0)) 45 #[.map (some w.heap.size), .int .i64 0, .slice none 0 0, .bool false, .slice none 0 0, .bool false, .slice none 0 0]
    simpa using this
  · exact (MapI.made w).fr ((Fr.refl [] _).alloc _) (by simp)
  · exact ((Fr.refl [] w).alloc _).alloc _
end Go.Proofs.Ytefajedbdpkefaa
