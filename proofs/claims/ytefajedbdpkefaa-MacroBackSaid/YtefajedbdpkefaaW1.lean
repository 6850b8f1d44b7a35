import Derived.Test.YtefajedbdpkefaaProg
import Derived.Test.YtefajedbdpkefaaLib
namespace Go.Proofs.Ytefajedbdpkefaa
open Go.RowKit Go.Proofs.Dm

theorem info3 : (Try.prog.info? 3).map (fun i => (i.zero, i.size, i.bytes)) = some (some (.int .i64 0), 1, 8) := by kernel_rfl

theorem letter_yes (n : Int) (w : World) (h1 : 97 ≤ n) (h2 : n ≤ 122) : Calls Try.prog 16 #[.int .i64 n] w fun e w' => e = .returned (.bool true) ∧ w = w' := by
  go_enter Try.func16, Try.ntmps16
  go_wp2
  go_ret
  exact ⟨by simp, rfl⟩

set_option maxHeartbeats 400000 in
theorem start_yes (g : Nat) (r l tl dot : Value) (o to : Bool) (n : Int) (w : World) (h1 : 97 ≤ n) (h2 : n ≤ 122)
    (hb : Blk w g 45 #[r, .int .i64 0, l, .bool o, tl, .bool to, dot]) :
    Calls Try.prog 6 #[.pointer (some ⟨g, 0, none⟩), .int .i64 n] w fun e w' => e = .returned (.int .i64 0) ∧
      Blk w' g 45 #[r, .int .i64 n, .slice none 0 0, .bool false, tl, .bool to, dot] ∧ Fr [some g] w w' := by
  have c1 : w.cell? ⟨g, 1, none⟩ = some (.int .i64 0) := hb.cell 1
  have c2 : w.cell? ⟨g, 2, none⟩ = some l := hb.cell 2
  have c3 : w.cell? ⟨g, 3, none⟩ = some (.bool o) := hb.cell 3
  have f1 := hb.frozen 1
  have f2 := hb.frozen 2
  have f3 := hb.frozen 3
  go_enter Try.func6, Try.ntmps6
  go_wp2_with (first | (go_at_call 16; refine (letter_yes _ _ h1 h2).mono ?_; rintro e w' ⟨rfl, rfl⟩))
  go_ret
  exact ⟨rfl, ((hb.set_ 1 _).set_ 2 _).set_ 3 _, (((Fr.refl _ w).setB (g := g) (by simp) 1 _).setB (g := g) (by simp) 2 _).setB (g := g) (by simp) 3 _⟩

theorem start_on (g : Nat) (r l tl dot : Value) (o to : Bool) (m n : Int) (w : World) (h1 : 97 ≤ n) (h2 : n ≤ 122) (hm : (m != 0) = true)
    (hb : Blk w g 45 #[r, .int .i64 m, l, .bool o, tl, .bool to, dot]) :
    Calls Try.prog 6 #[.pointer (some ⟨g, 0, none⟩), .int .i64 n] w fun e w' => e = .returned (.int .i64 9) ∧ w = w' := by
  have c1 : w.cell? ⟨g, 1, none⟩ = some (.int .i64 m) := hb.cell 1
  go_enter Try.func6, Try.ntmps6
  go_wp2_with (first | (go_at_call 16; refine (letter_yes _ _ h1 h2).mono ?_; rintro e w' ⟨rfl, rfl⟩))
  go_ret
  exact ⟨rfl, rfl⟩

theorem start_nil (n : Int) (w : World) : Calls Try.prog 6 #[.pointer none, .int .i64 n] w fun e w' => e = .returned (.int .i64 2) ∧ w = w' := by
  go_enter Try.func6, Try.ntmps6
  go_wp2
  go_ret
  exact ⟨rfl, rfl⟩

/-- A key more, where there is room. -/
theorem add_more (g : Nat) (r nm tl dot : Value) (A : Option Addr) (c : Nat) (to : Bool) (xs : List Int) (k : Int) (w : World) (hl : xs.length < 100)
    (hb : Blk w g 45 #[r, nm, .slice A xs.length c, .bool false, tl, .bool to, dot]) (hr : IRow w 3 A c xs) (hne : some g ≠ bk A) :
    Calls Try.prog 17 #[.pointer (some ⟨g, 2, none⟩), .int .i64 k] w fun e w' => e = .returned (.tuple #[]) ∧
      ∃ A' c', Blk w' g 45 #[r, nm, .slice A' (xs.length + 1) c', .bool false, tl, .bool to, dot] ∧ IRow w' 3 A' c' (xs ++ [k]) ∧ (bk A' = bk A ∨ ∃ j, w.heap.size ≤ j ∧ bk A' = some j) ∧
        Fr [some g, bk A] w w' := by
  have c2 : w.cell? ⟨g, 2, none⟩ = some (.slice A xs.length c) := hb.cell 2
  have f2 := hb.frozen 2
  have hlt := hb.lt
  go_enter Try.func17, Try.ntmps17
  go_wp2_with (at_builtin; go_must (
    refine wpList_app _ rfl _ _ 22 3 rfl (.int .i64 0) 1 8 Try.underlying22 info3 rfl (by decide) A c xs.length (ints xs) rfl (hr.fr (Fr.alloc (Fr.refl [] w) _) (by simp)) _ 1 1 (ints [k]) rfl rfl (sl_new w _ 3) (ints_one _) (by simp only [maxLen]; omega) (by omega) ?_
    intro A1 ca1 w1 hr1 hg1 hb1
    have hB1 := Blk.fr (hb.alloc _) hg1 (by simpa using hne)
    have c3 : w1.cell? ⟨g, 2, none⟩ = some (.slice A xs.length c) := hB1.cell 2
    have f3 := hB1.frozen 2))
  go_end0
  refine ⟨rfl, A1, ca1, hB1.set_ 2 _, ?_, ?_, (((Fr.refl [some g, bk A] w).alloc _).seq hg1 (by simp)).setB (g := g) (by simp) 2 _⟩
  · unfold IRow
    rw [ints_app, List.length_append]
    refine ORow.fr (S := [some g]) hr1 ((Fr.refl _ w1).setB (g := g) (by simp) 2 _) ?_
    rcases hb1 with h | h
    · exact .inr (by rw [h]; simpa using Ne.symm hne)
    · exact .inr (by rw [h]; simp; omega)
  · rcases hb1 with h | h
    · exact .inl h
    · exact .inr ⟨_, by simp, h⟩

set_option maxHeartbeats 400000 in
theorem clone_any (A : Option Addr) (c : Nat) (xs : List Int) (w : World) (hs : Sl w A (ints xs)) (hl : xs.length ≤ 1099511627776) :
    Calls Try.prog 18 #[.slice A xs.length c] w fun e w' => ∃ A' c', e = .returned (.slice A' xs.length c') ∧ IRow w' 3 A' c' xs ∧ Fr [] w w' ∧ (bk A' = none ∨ ∃ j, w.heap.size ≤ j ∧ bk A' = some j) := by
  cases A with
  | none =>
    have hx : xs = [] := by
      rcases hs with h | ⟨ad, h, _⟩
      · simpa [ints] using h
      · cases h
    subst hx
    have he := Lib.run_eql_slice_nil (P := Try.prog) w 22 3 none 0 c 0 0 Try.underlying22
    show Calls Try.prog 18 #[.slice none 0 c] w _
    go_enter Try.func18, Try.ntmps18
    go_wp2
    go_ret
    exact ⟨none, 0, rfl, IRow.nil_ _ _, Fr.refl _ _, .inl rfl⟩
  | some ad =>
    have he := Lib.run_eql_slice_nil (P := Try.prog) w 22 3 (some ad) xs.length c 0 0 Try.underlying22
    go_enter Try.func18, Try.ntmps18
    go_wp2_with (at_builtin; go_must (
      refine wpList_app _ rfl _ _ 22 3 rfl (.int .i64 0) 1 8 Try.underlying22 info3 rfl (by decide) _ 0 0 [] rfl (ORow.made w 3 1) (some ad) xs.length c (ints xs) rfl (ints_len xs) (hs.fr (Fr.alloc (Fr.refl [] w) _) (by simp)) (ints_one _) (by simp only [maxLen]; omega) (by omega) ?_
      intro A1 ca1 w1 hr1 hg1 hb1))
    go_ret
    rw [Nat.zero_add, List.nil_append] at hr1
    refine ⟨A1, ca1, rfl, hr1, ((Fr.refl [] w).alloc _).seq hg1 (by simp [bk]), .inr ?_⟩
    rcases hb1 with h | h
    · exact ⟨_, Nat.le_refl _, h⟩
    · exact ⟨_, by simp, h⟩

/-- The parts of a macro's object: its block g, its map's block r. -/
theorem key_off (g : Nat) (r l tl dot : Value) (o to : Bool) (k : Int) (w : World) (hb : Blk w g 45 #[r, .int .i64 0, l, .bool o, tl, .bool to, dot]) :
    Calls Try.prog 7 #[.pointer (some ⟨g, 0, none⟩), .int .i64 k] w fun e w' => e = .returned (.int .i64 0) ∧ w = w' := by
  have c1 : w.cell? ⟨g, 1, none⟩ = some (.int .i64 0) := hb.cell 1
  go_enter Try.func7, Try.ntmps7
  go_wp2
  go_ret
  exact ⟨rfl, rfl⟩

theorem key_nil (k : Int) (w : World) : Calls Try.prog 7 #[.pointer none, .int .i64 k] w fun e w' => e = .returned (.int .i64 2) ∧ w = w' := by
  go_enter Try.func7, Try.ntmps7
  go_wp2
  go_ret
  exact ⟨rfl, rfl⟩

theorem add_full (g : Nat) (r nm tl dot : Value) (A : Option Addr) (c n : Nat) (o to : Bool) (k : Int) (w : World) (hl : 100 ≤ n)
    (hb : Blk w g 45 #[r, nm, .slice A n c, .bool o, tl, .bool to, dot]) :
    Calls Try.prog 17 #[.pointer (some ⟨g, 2, none⟩), .int .i64 k] w fun e w' => e = .returned (.tuple #[]) ∧
      Blk w' g 45 #[r, nm, .slice A n c, .bool true, tl, .bool to, dot] ∧ Fr [some g] w w' := by
  have c2 : w.cell? ⟨g, 2, none⟩ = some (.slice A n c) := hb.cell 2
  have c3 : w.cell? ⟨g, 3, none⟩ = some (.bool o) := hb.cell 3
  have f3 := hb.frozen 3
  have hl' : (100 : Int) ≤ n := by omega
  go_enter Try.func17, Try.ntmps17
  go_wp2
  refine bodyPost_ret (results_none rfl _ _ _) rfl ?_
  exact ⟨rfl, hb.set_ 3 _, (Fr.refl _ w).setB (g := g) (by simp) 3 _⟩

theorem key_more (g : Nat) (r tl dot : Value) (nm : Int) (A : Option Addr) (c : Nat) (to : Bool) (xs : List Int) (k : Int) (w : World) (hl : xs.length < 100) (hn : (nm == 0) = false)
    (hb : Blk w g 45 #[r, .int .i64 nm, .slice A xs.length c, .bool false, tl, .bool to, dot]) (hr : IRow w 3 A c xs) (hne : some g ≠ bk A) :
    Calls Try.prog 7 #[.pointer (some ⟨g, 0, none⟩), .int .i64 k] w fun e w' => e = .returned (.int .i64 0) ∧
      ∃ A' c', Blk w' g 45 #[r, .int .i64 nm, .slice A' (xs.length + 1) c', .bool false, tl, .bool to, dot] ∧ IRow w' 3 A' c' (xs ++ [k]) ∧ (bk A' = bk A ∨ ∃ j, w.heap.size ≤ j ∧ bk A' = some j) ∧
        Fr [some g, bk A] w w' := by
  have c1 : w.cell? ⟨g, 1, none⟩ = some (.int .i64 nm) := hb.cell 1
  go_enter Try.func7, Try.ntmps7
  go_wp2_with (go_at_call 17; go_must (
    refine (add_more g _ _ _ _ A c to xs k _ hl hb hr hne).mono ?_
    rintro e w1 ⟨rfl, A1, ca1, hB1, hr1, hb1, hf1⟩
    have c3 : w1.cell? ⟨g, 3, none⟩ = some (.bool false) := hB1.cell 3))
  go_ret
  exact ⟨rfl, A1, ca1, hB1, hr1, hb1, hf1⟩

theorem key_full (g : Nat) (r tl dot : Value) (nm : Int) (A : Option Addr) (c n : Nat) (to : Bool) (k : Int) (w : World) (hl : 100 ≤ n) (hn : (nm == 0) = false)
    (hb : Blk w g 45 #[r, .int .i64 nm, .slice A n c, .bool false, tl, .bool to, dot]) :
    Calls Try.prog 7 #[.pointer (some ⟨g, 0, none⟩), .int .i64 k] w fun e w' => e = .returned (.int .i64 7) ∧
      Blk w' g 45 #[r, .int .i64 0, .slice none 0 0, .bool false, tl, .bool to, dot] ∧ Fr [some g] w w' := by
  have c1 : w.cell? ⟨g, 1, none⟩ = some (.int .i64 nm) := hb.cell 1
  go_enter Try.func7, Try.ntmps7
  go_wp2_with (go_at_call 17; go_must (
    refine (add_full g _ _ _ _ A c n false to k _ hl hb).mono ?_
    rintro e w1 ⟨rfl, hB1, hf1⟩
    have d1 : w1.cell? ⟨g, 1, none⟩ = some (.int .i64 nm) := hB1.cell 1
    have d2 : w1.cell? ⟨g, 2, none⟩ = some (.slice A n c) := hB1.cell 2
    have d3 : w1.cell? ⟨g, 3, none⟩ = some (.bool true) := hB1.cell 3
    have f1 := hB1.frozen 1
    have f2 := hB1.frozen 2
    have f3 := hB1.frozen 3))
  go_ret
  exact ⟨rfl, ((hB1.set_ 1 _).set_ 2 _).set_ 3 _, ((hf1.setB (g := g) (by simp) 1 _).setB (g := g) (by simp) 2 _).setB (g := g) (by simp) 3 _⟩
end Go.Proofs.Ytefajedbdpkefaa
