import Derived.Test.YthhkannmeljfkaaR7
namespace Go.Proofs.Ythhkannmeljfkaa
open Go.RowKit Go.Proofs.Dm

/-- A step keeps the way, and whether. -/
def Keeps (P : PS) (r : R3) : Prop := r.1.vis = P.vis ∧ r.1.rc = P.rc
theorem keeps_ite {P : PS} {c : Prop} [Decidable c] {a b : R3} (ha : Keeps P a) (hb : Keeps P b) : Keeps P (if c then a else b) := by split <;> assumption
theorem pStep_keeps (P : PS) (k : Int) : Keeps P (pStep P k) := by
  have hcv : P.close.vis = P.vis ∧ P.close.rc = P.rc := by unfold PS.close; split <;> exact ⟨rfl, rfl⟩
  unfold pStep pBegin pOperated pRegister pSecond pNamed pObject pBegin2 pOperated2 pSelected pDigit pWhole pWrong
  repeat' (refine keeps_ite ?_ ?_)
  all_goals first | exact ⟨rfl, rfl⟩ | exact hcv

def start (way : Int) (rec : Bool) : PS := ⟨0, 0, 0, 0, 0, 0, 18, way == 1, rec⟩
theorem prep_P0 (way : Int) (rec : Bool) : prep P0 way rec = start way rec := rfl
theorem told_go (r : R3) : pGo r [] = told r := by
  unfold pGo told
  rfl
theorem prep_kept (P : PS) (way : Int) (rec : Bool) (k : Int) (h : (pStep (prep P way rec) k).2.2 = 0) : prep (kept (pStep (prep P way rec) k)) way rec = kept (pStep (prep P way rec) k) := by
  have hk := pStep_keeps (prep P way rec) k
  have hs := pStep_st (prep P way rec) k
  generalize pStep (prep P way rec) k = r at *
  obtain ⟨⟨op, verb, count, reg, char, digits, st, vis, rc⟩, n, x⟩ := r
  simp only [Keeps, prep] at hk
  simp only [StOk] at hs h
  subst h
  have hn : n ≠ 0 := by
    rcases hs with ⟨_, hs⟩ | ⟨h, _⟩ | ⟨h, _⟩
    · rintro rfl; exact absurd hs (by decide)
    · simp at h
    · simp at h
  obtain ⟨h1, h2⟩ := hk
  subst h1 h2
  simp [kept, prep, hn]

/-- What is begun, read anew, is what the parser has. -/
def Runs (P : PS) (B : List Int) (way : Int) (rec : Bool) : Prop := ∀ k rest, pRun (start way rec) (B ++ k :: rest) = pRun (prep P way rec) (k :: rest)
theorem runs_P0 (way : Int) (rec : Bool) : Runs P0 [] way rec := fun _ _ => rfl
theorem runs_told {P : PS} {B : List Int} {way : Int} {rec : Bool} (h : Runs P B way rec) (k : Int) : pRun (start way rec) (B ++ [k]) = told (pStep (prep P way rec) k) := by
  rw [h k [], pRun_cons, told_go]
theorem runs_left {P : PS} {B : List Int} {way : Int} {rec : Bool} (h : Runs P B way rec) (k : Int) : Runs (left (pStep (prep P way rec) k) (B ++ [k])).1 (left (pStep (prep P way rec) k) (B ++ [k])).2 way rec := by
  unfold left
  split
  · exact runs_P0 way rec
  · rename_i hn
    have hst := pStep_st (prep P way rec) k
    have h0 : (pStep (prep P way rec) k).2.2 = 0 := by
      rcases hst with ⟨h, _⟩ | ⟨h, _⟩ | ⟨h, _⟩
      · exact h
      · exact absurd (.inr (.inl h)) hn
      · exact absurd (.inr (.inr h)) hn
    intro x rest
    have hk := h k (x :: rest)
    simp only [List.append_assoc, List.singleton_append]
    rw [hk, pRun_cons]
    rw [prep_kept P way rec k h0]
    unfold pGo
    rw [if_neg (fun e => hn (.inl e)), if_neg (fun e => hn (.inr (.inl e))), if_neg (fun e => hn (.inr (.inr e)))]
/-- The three ways that a key is told. -/
theorem told_three (r : R3) (hr : StOk r) (l : List Int) : (∃ a b c d e u, told r = (five a b c d e, 1, u) ∧ left r l = (P0, [])) ∨ (∃ u, told r = (five 0 0 0 0 0, 2, u) ∧ left r l = (P0, [])) ∨ (∃ u, told r = (five 0 0 0 0 0, 0, u) ∧ left r l = (kept r, l)) := by
  by_cases ho : overB (kept r) = true
  · right; left
    exact ⟨5, by simp [told, ho, Zero5, five], by simp [left, ho]⟩
  · rcases hr with ⟨h, _⟩ | ⟨h, _⟩ | ⟨h, _⟩
    · right; right
      exact ⟨0, by simp [told, ho, h, Zero5, five], by simp [left, ho, h]⟩
    · left
      exact ⟨_, _, _, _, _, 0, by simp only [told, ho, h]; rfl, by simp [left, ho, h]⟩
    · right; left
      exact ⟨10, by simp [told, ho, h, Zero5, five], by simp [left, ho, h]⟩

theorem PAt.re {U U' : Nat → Prop} {w0 w w' : World} {g : Nat} {P : PS} {l : List Int} (h : PAt U w0 w g P l) {S : List (Option Nat)} (hf : Fr S w w') (hS : ∀ i, some i ∈ S → U i) (hU : ∀ k, U' k → k < w'.heap.size ∧ (U k ∨ w.heap.size ≤ k)) : PAt U' w' w' g P l := by
  obtain ⟨hf0, hg0, A, c, hbg, hrow, hgA, hA⟩ := h
  have hg : g < w.heap.size := hbg.lt
  refine ⟨FrU.refl U' w' (fun k hk => (hU k hk).1), fun hu => ?_, A, c, Blk.fr hbg hf (fun h => hg0 (hS _ h)), hrow.fr hf ?_, hgA, fun j hj hu => ?_⟩
  · rcases (hU g hu).2 with h | h
    · exact hg0 h
    · omega
  · cases hbk : bk A with
    | none => exact .inl rfl
    | some j => exact .inr fun h => hA j hbk (hS _ h)
  · have hj' := hrow.lt hj
    rcases (hU j hu).2 with h | h
    · exact hA j hj h
    · omega

theorem ours_at (a b c d e : Int) (w : World) : Calls Try.prog 10 #[.agg #[.int .i64 a, .int .i64 b, .int .i64 c, .int .i64 d, .int .i64 e]] w fun x w' => x = .returned (.agg #[.int .i64 a, .int .i64 b, .int .i64 c, .int .i64 d, .int .i64 e]) ∧ Fr [] w w' := by
  go_enter Try.func10, Try.ntmps10
  go_wp2
  refine bodyPost_ret (v := .agg #[.int .i64 a, .int .i64 b, .int .i64 c, .int .i64 d, .int .i64 e]) (by simp [results, Try.results10, go_sem]) rfl ⟨rfl, ((Fr.refl [] w).alloc _).alloc _⟩
end Go.Proofs.Ythhkannmeljfkaa
