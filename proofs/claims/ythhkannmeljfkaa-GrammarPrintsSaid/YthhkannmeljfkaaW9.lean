import Derived.Test.YthhkannmeljfkaaW8
namespace Go.Proofs.Ythhkannmeljfkaa
open Go.RowKit Go.Proofs.Dm

def five (a b c d e : Int) : List Value := [.int .i64 a, .int .i64 b, .int .i64 c, .int .i64 d, .int .i64 e]
theorem told_five (r : R3) : ∃ a b c d e t u, told r = (five a b c d e, t, u) := by
  unfold told
  split
  · exact ⟨0, 0, 0, 0, 0, 2, 5, rfl⟩
  · split
    · exact ⟨_, _, _, _, _, 1, 0, rfl⟩
    · split
      · exact ⟨0, 0, 0, 0, 0, 2, 10, rfl⟩
      · exact ⟨0, 0, 0, 0, 0, 0, 0, rfl⟩

/-- What a parser that is used keeps to. -/
def GInv (P : PS) : Prop := Inv P ∧ (P.st = 0 ∨ P.st ∈ stages)
theorem gInv_P0 : GInv P0 := ⟨⟨by decide, by decide, by decide, by decide, by decide⟩, .inl rfl⟩
theorem gInv_prep {P : PS} (h : GInv P) (way : Int) (rec : Bool) : Inv (prep P way rec) := ⟨h.1.1, h.1.2, h.1.3, h.1.4, h.1.5⟩
theorem gInv_left {P : PS} (h : GInv P) (way : Int) (rec : Bool) (k : Int) (l : List Int) : GInv (left (pStep (prep P way rec) k) l).1 := by
  have ho := pStep_ok _ k (gInv_prep h way rec)
  have hs := pStep_st (prep P way rec) k
  generalize pStep (prep P way rec) k = r at *
  unfold left
  split
  · exact gInv_P0
  · rename_i hn
    simp only [not_or] at hn
    obtain ⟨h1, h2, h3⟩ := hn
    have h4 : overB (kept r) = false := by cases hb : overB (kept r) <;> simp_all
    simp only [overB, Bool.or_eq_false_iff, decide_eq_false_iff_not] at h4
    obtain ⟨h5, h6⟩ := h4
    refine ⟨⟨ho.1, by show (kept r).digits ≤ 9999; omega, ho.2.2.1, ho.2.2.2, by show (kept r).digits * max (kept r).count 1 ≤ 9999; omega⟩, .inr ?_⟩
    rcases hs with ⟨_, hs⟩ | ⟨hs, _⟩ | ⟨hs, _⟩
    · exact hs
    · exact absurd hs h2
    · exact absurd hs h3

theorem key_at (U : Nat → Prop) (w0 w : World) (g : Nat) (P : PS) (l : List Int) (k way : Int) (rec : Bool) (h : PAt U w0 w g P l) (hG : GInv P) (hl : l.length < 1000000) (hk : k ≠ 27) (r : R3) (hr : pStep (prep P way rec) k = r) :
    Calls Try.prog 8 #[.pointer (some ⟨g, 0, none⟩), .int .i64 k, .int .i64 way, .bool rec] w fun e w' => e = .returned (.tuple #[.agg (told r).1.toArray, .int .i64 (told r).2.1, .int .i64 (told r).2.2]) ∧ PAt U w0 w' g (left r (l ++ [k])).1 (left r (l ++ [k])).2 := by
  obtain ⟨hf0, hg0, A, c, hb, hrow, hgA, hA⟩ := h
  obtain ⟨hi, hst⟩ := hG
  obtain ⟨op, verb, count, reg, char, digits, st, vis, rc⟩ := P
  rcases hst with hst | hst
  · exact key_zero U w0 g A c l op verb count reg char digits st vis rc k way rec w hf0 hg0 hb hrow hgA hA hl hi hst hk r hr
  · exact key_some U w0 g A c l op verb count reg char digits st vis rc k way rec w hf0 hg0 hb hrow hgA hA hl hi hst hk r hr

theorem esc_at (U : Nat → Prop) (w0 w : World) (g : Nat) (P : PS) (l : List Int) (way : Int) (rec : Bool) (h : PAt U w0 w g P l) :
    Calls Try.prog 8 #[.pointer (some ⟨g, 0, none⟩), .int .i64 27, .int .i64 way, .bool rec] w fun e w' => e = .returned (.tuple #[.agg (five 0 0 0 0 0).toArray, .int .i64 0, .int .i64 0]) ∧ PAt U w0 w' g P0 [] := by
  obtain ⟨hf0, hg0, A, c, hb, hrow, hgA, hA⟩ := h
  obtain ⟨op, verb, count, reg, char, digits, st, vis, rc⟩ := P
  refine (key_esc g _ op verb count reg char digits st vis rc way rec w rfl hb).mono ?_
  rintro e w' ⟨rfl, hB, hf⟩
  exact ⟨rfl, hf0.seq hf (by simpa using hg0), hg0, none, 0, hB, IRow.nil_ _ _, by simp [bk], by simp [bk]⟩

theorem pend_at (U : Nat → Prop) (w0 w : World) (g : Nat) (P : PS) (l : List Int) (h : PAt U w0 w g P l) (hl : l.length < 1000000) :
    Calls Try.prog 12 #[.pointer (some ⟨g, 0, none⟩)] w fun e w' => ∃ A' c', e = .returned (.slice A' l.length c') ∧ Sl w' A' (ints l) ∧ PAt U w0 w' g P l := by
  obtain ⟨hf0, hg0, A, c, hb, hrow, hgA, hA⟩ := h
  refine (pending_any g P A c l w hb hrow.sl (by omega)).mono ?_
  rintro e w' ⟨A', c', rfl, hr, hf, _⟩
  exact ⟨A', c', rfl, hr.sl, hf0.trans hf, hg0, A, c, Blk.fr hb hf (by simp), hrow.fr hf (by simp), hgA, hA⟩

theorem new_at (w : World) : Calls Try.prog 7 #[] w fun e w' => ∃ g, e = .returned (.pointer (some ⟨g, 0, none⟩)) ∧ w.heap.size ≤ g ∧ g < w'.heap.size ∧ Fr [] w w' ∧ ∀ U w0 w2, FrU U w0 w2 → ¬ U g → Fr [] w' w2 → PAt U w0 w2 g P0 [] := by
  refine (new_any w).mono ?_
  rintro e w' ⟨g, rfl, hg, hb, hf⟩
  exact ⟨g, rfl, hg, hb.lt, hf, fun U w0 w2 h1 h2 h3 => ⟨h1, h2, none, 0, Blk.fr hb h3 (by simp), IRow.nil_ _ _, by simp [bk], by simp [bk]⟩⟩

theorem resetp_at (U : Nat → Prop) (w0 w : World) (g : Nat) (P : PS) (l : List Int) (h : PAt U w0 w g P l) :
    Calls Try.prog 13 #[.pointer (some ⟨g, 0, none⟩)] w fun e w' => e = .returned (.tuple #[]) ∧ PAt U w0 w' g P0 [] := by
  obtain ⟨hf0, hg0, A, c, hb, hrow, hgA, hA⟩ := h
  obtain ⟨op, verb, count, reg, char, digits, st, vis, rc⟩ := P
  refine (reset_any g _ rfl op verb count reg char digits st vis rc w hb).mono ?_
  rintro e w' ⟨rfl, hB, hf⟩
  exact ⟨rfl, hf0.seq hf (by simpa using hg0), hg0, none, 0, hB, IRow.nil_ _ _, by simp [bk], by simp [bk]⟩

theorem PAt.grow {U : Nat → Prop} {w0 w w' : World} {g : Nat} {P : PS} {l : List Int} (h : PAt U w0 w g P l) (hf : Fr [] w w') : PAt U w0 w' g P l := by
  obtain ⟨hf0, hg0, A, c, hb, hrow, hgA, hA⟩ := h
  exact ⟨hf0.trans hf, hg0, A, c, Blk.fr hb hf (by simp), hrow.fr hf (by simp), hgA, hA⟩
/-- A write to a block that is neither the parser's nor its keys'. -/
theorem PAt.write {U : Nat → Prop} {w0 w w' : World} {g b : Nat} {P : PS} {l : List Int} (h : PAt U w0 w g P l) (hf : Fr [some b] w w') (hb : ¬ U b) (t : TypeId) (cs : Array Value) (hB : Blk w b t cs) (h52 : t ≠ 52) (h3 : t ≠ 3) : PAt U w0 w' g P l := by
  obtain ⟨hf0, hg0, A, c, hbg, hrow, hgA, hA⟩ := h
  have hne : some g ∉ [some b] := by
    intro he
    simp at he
    subst he
    unfold Blk at hB hbg
    rw [hB] at hbg
    injection hbg with hbg
    injection hbg with _ ht
    exact h52 ht
  refine ⟨hf0.seq hf (by simpa using hb), hg0, A, c, Blk.fr hbg hf hne, ?_, hgA, hA⟩
  refine hrow.fr hf ?_
  cases hbk : bk A with
  | none => exact .inl rfl
  | some j =>
    refine .inr ?_
    simp only [List.mem_singleton, Option.some.injEq]
    rintro rfl
    rcases hrow.2 with ⟨he, _⟩ | ⟨g', cap, cur, he, _, hh, _⟩
    · injection he with he; rw [he] at hbk; simp [bk] at hbk
    · injection he with he
      rw [he] at hbk
      simp [bk] at hbk
      subst hbk
      unfold Blk at hB
      rw [hB] at hh
      injection hh with hh
      injection hh with _ ht
      exact h3 ht

def movesB (v : Int) : Bool := v == 26471 || amongB v sMotions
theorem moves_any (v : Int) (w : World) : Calls Try.prog 15 #[.int .i64 v] w fun e w' => e = .returned (.bool (movesB v)) ∧ w = w' := by
  by_cases h1 : v = 26471
  · have HV : Hid (movesB v = true) := by show _ = _; simp [movesB, h1]
    have hb : (v == 26471) = true := beq_iff_eq.2 h1
    clear h1
    go_enter Try.func15, Try.ntmps15
    go_wp2
    go_ret
    exact ⟨by rw [HV.out]; simp [hb], rfl⟩
  · have hb : (v == 26471) = false := beq_eq_false_iff_ne.2 h1
    have HV : Hid (movesB v = amongB v sMotions) := by show _ = _; simp [movesB, hb]
    clear h1
    go_enter Try.func15, Try.ntmps15
    go_wp2_with (go_at_call 29; go_must (refine (among_at v sMotions _ _ rfl).mono ?_; rintro e w1 ⟨rfl, rfl⟩))
    go_ret
    exact ⟨by rw [HV.out]; rfl, rfl⟩
end Go.Proofs.Ythhkannmeljfkaa
