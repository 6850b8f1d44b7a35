import Derived.Test.YthhkannmeljfkaaW5
namespace Go.Proofs.Ythhkannmeljfkaa
open Go.RowKit Go.Proofs.Dm

theorem info3 : (Try.prog.info? 3).map (fun i => (i.zero, i.size, i.bytes)) = some (some (.int .i64 0), 1, 8) := by kernel_rfl
set_option maxHeartbeats 400000 in
theorem clone_any (A : Option Addr) (c : Nat) (xs : List Int) (w : World) (hs : Sl w A (ints xs)) (hl : xs.length ≤ 1099511627776) :
    Calls Try.prog 28 #[.slice A xs.length c] w fun e w' => ∃ A' c', e = .returned (.slice A' xs.length c') ∧ IRow w' 3 A' c' xs ∧ Fr [] w w' ∧ (bk A' = none ∨ ∃ j, w.heap.size ≤ j ∧ bk A' = some j) := by
  cases A with
  | none =>
    have hx : xs = [] := by
      rcases hs with h | ⟨ad, h, _⟩
      · simpa [ints] using h
      · cases h
    subst hx
    have he := Lib.run_eql_slice_nil (P := Try.prog) w 22 3 none 0 c 0 0 Try.underlying22
    show Calls Try.prog 28 #[.slice none 0 c] w _
    go_enter Try.func28, Try.ntmps28
    go_wp2
    go_ret
    exact ⟨none, 0, rfl, IRow.nil_ _ _, Fr.refl _ _, .inl rfl⟩
  | some ad =>
    have he := Lib.run_eql_slice_nil (P := Try.prog) w 22 3 (some ad) xs.length c 0 0 Try.underlying22
    go_enter Try.func28, Try.ntmps28
    go_wp2_with (at_builtin; go_must (
      refine wpList_app _ rfl _ _ 22 3 rfl (.int .i64 0) 1 8 Try.underlying22 info3 rfl (by decide) _ 0 0 [] rfl (ORow.made w 3 1) (some ad) xs.length c (ints xs) rfl (ints_len xs) (hs.fr (Fr.alloc (Fr.refl [] w) _) (by simp)) (ints_one _) (by simp only [maxLen]; omega) (by omega) ?_
      intro A1 ca1 w1 hr1 hg1 hb1))
    go_ret
    rw [Nat.zero_add, List.nil_append] at hr1
    refine ⟨A1, ca1, rfl, hr1, ((Fr.refl [] w).alloc _).seq hg1 (by simp [bk]), .inr ?_⟩
    rcases hb1 with h | h
    · exact ⟨_, Nat.le_refl _, h⟩
    · exact ⟨_, by simp, h⟩


/-- Of two rows that are alike: true. -/
theorem same_yes (A B : Option Addr) (c d : Nat) (xs : List Int) (w : World) (hA : Sl w A (ints xs)) (hB : Sl w B (ints xs)) (hl : xs.length ≤ 1099511627776) :
    Calls Try.prog 11 #[.slice A xs.length c, .slice B xs.length d] w fun e w' => e = .returned (.bool true) ∧ Fr [] w w' := by
  go_enter Try.func11, Try.ntmps11
  go_wp2
  go_loopw [13, 5] (fun i v wr => ∃ k : Nat, i = .int .i64 k ∧ k ≤ xs.length ∧ Fr [] w wr) (fun i _ _ => xs.length - (intOf i).toNat)
  case atStart => exact ⟨0, rfl, Nat.zero_le _, Fr.refl _ _⟩
  case round =>
    obtain ⟨k, rfl, hk, hf⟩ := hrel
    by_cases hlt : k < xs.length
    · have hA' := hA.fr hf (by simp)
      have hB' := hB.fr hf (by simp)
      obtain ⟨ad, rfl, _, h3⟩ := hA'.at_ (ints_get xs k hlt)
      obtain ⟨bd, rfl, _, h4⟩ := hB'.at_ (ints_get xs k hlt)
      clear hA hB hA' hB'
      obtain ⟨x, hx⟩ : ∃ x, x = xs[k] := ⟨_, rfl⟩
      rw [← hx] at h3 h4
      clear hx
      go_wp2
      go_quiet (fail)
      go_wp2
      go_roundw
      case rel => exact ⟨k + 1, by go_num, by omega, hf.drewN _⟩
      case measure => simp [intOf]; omega
    · go_wp2
      go_ret
      exact ⟨rfl, hf⟩

theorem pending_any (g : Nat) (P : PS) (A : Option Addr) (c : Nat) (l : List Int) (w : World) (hb : Blk w g 52 (pc P (.slice A l.length c))) (hs : Sl w A (ints l)) (hl : l.length ≤ 1099511627776) :
    Calls Try.prog 12 #[.pointer (some ⟨g, 0, none⟩)] w fun e w' => ∃ A' c', e = .returned (.slice A' l.length c') ∧ IRow w' 3 A' c' l ∧ Fr [] w w' ∧ (bk A' = none ∨ ∃ j, w.heap.size ≤ j ∧ bk A' = some j) := by
  have c6 : w.cell? ⟨g, 6, none⟩ = some (.slice A l.length c) := hb.cell 6
  go_enter Try.func12, Try.ntmps12
  go_wp2_with (go_at_call 28; go_must (
    refine (clone_any A c l _ hs hl).mono ?_
    rintro e w1 ⟨A1, c1, rfl, hr1, hf1, hb1⟩))
  go_ret
  exact ⟨A1, c1, rfl, hr1, hf1, hb1⟩

theorem new_any (w : World) : Calls Try.prog 7 #[] w fun e w' => ∃ g, e = .returned (.pointer (some ⟨g, 0, none⟩)) ∧ w.heap.size ≤ g ∧ Blk w' g 52 (pc P0 (.slice none 0 0)) ∧ Fr [] w w' := by
  go_enter Try.func7, Try.ntmps7
  go_wp2
  go_ret
  exact ⟨w.heap.size, rfl, Nat.le_refl _, Blk.new w 52 _, (Fr.refl _ w).alloc _⟩

theorem key_esc (g : Nat) (L : Value) (op verb count reg char digits : Int) (st : Nat) (vis rc : Bool) (way : Int) (rec : Bool) (w : World) (hL : L.oneCell' = true) (hb : Blk w g 52 (pc ⟨op, verb, count, reg, char, digits, st, vis, rc⟩ L)) :
    Calls Try.prog 8 #[.pointer (some ⟨g, 0, none⟩), .int .i64 27, .int .i64 way, .bool rec] w fun e w' => e = .returned (.tuple #[.agg #[.int .i64 0, .int .i64 0, .int .i64 0, .int .i64 0, .int .i64 0], .int .i64 0, .int .i64 0]) ∧
      Blk w' g 52 (pc P0 (.slice none 0 0)) ∧ Fr [some g] w w' := by
  have hg := hb.lt
  have hgn : g ≠ w.heap.size := by omega
  go_enter Try.func8, Try.ntmps8
  go_wp2_with (go_at_call 13; go_must (
    refine (reset_any g L hL op verb count reg char digits st vis rc _ (hb.alloc _)).mono ?_
    rintro e w2 ⟨rfl, hB2, hf2⟩
    have hB02 := Blk.fr (Blk.new w 26 #[.int .i64 0, .int .i64 0, .int .i64 0, .int .i64 0, .int .i64 0]) hf2 (by simp; omega)
    have d0 : w2.cell? ⟨w.heap.size, 0, none⟩ = some (.int .i64 0) := hB02.cell 0
    have d1 : w2.cell? ⟨w.heap.size, 1, none⟩ = some (.int .i64 0) := hB02.cell 1
    have d2 : w2.cell? ⟨w.heap.size, 2, none⟩ = some (.int .i64 0) := hB02.cell 2
    have d3 : w2.cell? ⟨w.heap.size, 3, none⟩ = some (.int .i64 0) := hB02.cell 3
    have d4 : w2.cell? ⟨w.heap.size, 4, none⟩ = some (.int .i64 0) := hB02.cell 4
    have e0 : w2.frozen? ⟨w.heap.size, 0, none⟩ = false := hB02.frozen 0
    have e1 : w2.frozen? ⟨w.heap.size, 1, none⟩ = false := hB02.frozen 1
    have e2 : w2.frozen? ⟨w.heap.size, 2, none⟩ = false := hB02.frozen 2
    have e3 : w2.frozen? ⟨w.heap.size, 3, none⟩ = false := hB02.frozen 3
    have e4 : w2.frozen? ⟨w.heap.size, 4, none⟩ = false := hB02.frozen 4))
  refine bodyPost_ret (v := .tuple #[.agg #[.int .i64 0, .int .i64 0, .int .i64 0, .int .i64 0, .int .i64 0], .int .i64 0, .int .i64 0]) (by simp [results, Try.results8, go_sem, d0, d1, d2, d3, d4]) rfl ⟨rfl, ?_, ?_⟩
  · exact ((((hB2.far hgn _).far hgn _).far hgn _).far hgn _).far hgn _
  · exact ((((((((Fr.refl [some g] w).alloc _).seq hf2 (by simp)).setB (g := w.heap.size) (by simp) 0 _).setB (g := w.heap.size) (by simp) 1 _).setB (g := w.heap.size) (by simp) 2 _).setB (g := w.heap.size) (by simp) 3 _).setB (g := w.heap.size) (by simp) 4 _)

set_option maxHeartbeats 800000 in
theorem begin_any (g : Nat) (L : Value) (op verb count reg char digits : Int) (st : Nat) (vis rc : Bool) (k : Int) (w : World) (hb : Blk w g 52 (pc ⟨op, verb, count, reg, char, digits, st, vis, rc⟩ L)) (b0 : 0 ≤ digits) (b1 : digits ≤ 9999) (b2 : 0 ≤ count) (b3 : count ≤ 9999) (r : R3) (hr : pBegin ⟨op, verb, count, reg, char, digits, st, vis, rc⟩ k = r) :
    Calls Try.prog 18 #[.pointer (some ⟨g, 0, none⟩), .int .i64 k] w fun e w' => e = .returned (.tuple #[.agg #[stV r.2.1], .int .i64 r.2.2]) ∧ Blk w' g 52 (pc r.1 L) ∧ Fr [some g] w w' := by
  have hg := hb.lt
  have hgn : g ≠ w.heap.size := by omega
  cases hd : isDigit ⟨op, verb, count, reg, char, digits, st, vis, rc⟩ k with
  | true =>
    obtain rfl : r = (⟨op, verb, count, reg, char, digits * 10 + k - 48, st, vis, rc⟩, 18, 0) := by rw [← hr]; simp [pBegin, pDigit, hd]
    clear hr
    go_enter Try.func18, Try.ntmps18
    go_wp2_with (go_at_call 32; go_must (
      refine (counted_yes g L op verb count reg char digits st vis rc k _ (hb.alloc _) b0 b1 hd).mono ?_
      rintro e w1 ⟨rfl, hB1, hf1⟩
      have hB01 := Blk.fr (Blk.new _ 50 #[.nilFunc]) hf1 (by simp; omega)
      have d01 : w1.cell? ⟨w.heap.size, 0, none⟩ = some .nilFunc := by simpa using hB01.cell 0
      have e01 : w1.frozen? ⟨w.heap.size, 0, none⟩ = false := by simpa using hB01.frozen 0))
    refine bodyPost_ret (v := .tuple #[.agg #[.func (.func 18) #[] #[]], .int .i64 0]) (by simp [results, Try.results18, go_sem, d01]) rfl ⟨rfl, hB1.far hgn _, (((Fr.refl _ w).alloc _).seq hf1 (by simp)).setB (g := w.heap.size) (by simp) 0 _⟩
  | false =>
    have hr2 : pBegin2 (PS.close ⟨op, verb, count, reg, char, digits, st, vis, rc⟩) k = r := by rw [← hr]; simp [pBegin, hd]
    have hcl : ∃ c' d', PS.close ⟨op, verb, count, reg, char, digits, st, vis, rc⟩ = ⟨op, verb, c', reg, char, d', st, vis, rc⟩ := by unfold PS.close; split <;> exact ⟨_, _, rfl⟩
    obtain ⟨c', d', hcl⟩ := hcl
    rw [hcl] at hr2
    exact begin2_any g L op verb count reg char digits st vis rc k w hb b0 b1 b2 b3 hd c' d' hcl r hr2

set_option maxHeartbeats 800000 in
theorem operated_any (g : Nat) (L : Value) (op verb count reg char digits : Int) (st : Nat) (vis rc : Bool) (k : Int) (w : World) (hb : Blk w g 52 (pc ⟨op, verb, count, reg, char, digits, st, vis, rc⟩ L)) (b0 : 0 ≤ digits) (b1 : digits ≤ 9999) (b2 : 0 ≤ count) (b3 : count ≤ 9999) (r : R3) (hr : pOperated ⟨op, verb, count, reg, char, digits, st, vis, rc⟩ k = r) :
    Calls Try.prog 39 #[.pointer (some ⟨g, 0, none⟩), .int .i64 k] w fun e w' => e = .returned (.tuple #[.agg #[stV r.2.1], .int .i64 r.2.2]) ∧ Blk w' g 52 (pc r.1 L) ∧ Fr [some g] w w' := by
  have hg := hb.lt
  have hgn : g ≠ w.heap.size := by omega
  cases hd : isDigit ⟨op, verb, count, reg, char, digits, st, vis, rc⟩ k with
  | true =>
    obtain rfl : r = (⟨op, verb, count, reg, char, digits * 10 + k - 48, st, vis, rc⟩, 39, 0) := by rw [← hr]; simp [pOperated, pDigit, hd]
    clear hr
    go_enter Try.func39, Try.ntmps39
    go_wp2_with (go_at_call 32; go_must (
      refine (counted_yes g L op verb count reg char digits st vis rc k _ (hb.alloc _) b0 b1 hd).mono ?_
      rintro e w1 ⟨rfl, hB1, hf1⟩
      have hB01 := Blk.fr (Blk.new _ 50 #[.nilFunc]) hf1 (by simp; omega)
      have d01 : w1.cell? ⟨w.heap.size, 0, none⟩ = some .nilFunc := by simpa using hB01.cell 0
      have e01 : w1.frozen? ⟨w.heap.size, 0, none⟩ = false := by simpa using hB01.frozen 0))
    refine bodyPost_ret (v := .tuple #[.agg #[.func (.func 39) #[] #[]], .int .i64 0]) (by simp [results, Try.results39, go_sem, d01]) rfl ⟨rfl, hB1.far hgn _, (((Fr.refl _ w).alloc _).seq hf1 (by simp)).setB (g := w.heap.size) (by simp) 0 _⟩
  | false =>
    have hr2 : pOperated2 (PS.close ⟨op, verb, count, reg, char, digits, st, vis, rc⟩) k = r := by rw [← hr]; simp [pOperated, hd]
    have hcl : ∃ c' d', PS.close ⟨op, verb, count, reg, char, digits, st, vis, rc⟩ = ⟨op, verb, c', reg, char, d', st, vis, rc⟩ := by unfold PS.close; split <;> exact ⟨_, _, rfl⟩
    obtain ⟨c', d', hcl⟩ := hcl
    rw [hcl] at hr2
    exact operated2_any g L op verb count reg char digits st vis rc k w hb b0 b1 b2 b3 hd c' d' hcl r hr2

def pStep (P : PS) (k : Int) : R3 := if P.st = 18 then pBegin P k else if P.st = 34 then pRegister P k else if P.st = 35 then pSecond P k else if P.st = 39 then pOperated P k else if P.st = 40 then pNamed P k else pObject P k
/-- What a parser's numbers keep to. -/
structure Inv (P : PS) : Prop where
  d0 : 0 ≤ P.digits
  d1 : P.digits ≤ 9999
  c0 : 0 ≤ P.count
  c1 : P.count ≤ 9999
  dc : P.digits * max P.count 1 ≤ 9999
def stages : List Nat := [18, 34, 35, 39, 40, 48]

end Go.Proofs.Ythhkannmeljfkaa
