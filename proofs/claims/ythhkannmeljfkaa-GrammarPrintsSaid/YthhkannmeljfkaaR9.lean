import Derived.Test.YthhkannmeljfkaaR8
import Derived.Deep.RegionWith
import Derived.Deep.DeepCutAuto
namespace Go.Proofs.Ythhkannmeljfkaa
open Go.RowKit Go.Proofs.Dm

theorem FrU.toFr {U : Nat → Prop} {w0 w : World} (h : FrU U w0 w) : ∃ S, Fr S w0 w ∧ ∀ k, U k → some k ∉ S := by
  classical
  refine ⟨((List.range w0.heap.size).filter fun k => decide (¬ U k)).map some, ⟨h.os, h.tape, h.output, h.size, fun k hk hn => ?_⟩, fun k hU hm => ?_⟩
  · have hU : U k := by
      by_cases hU : U k
      · exact hU
      · exact absurd (List.mem_map.2 ⟨k, by simp [hk, hU], rfl⟩) hn
    exact h.block k hU
  · obtain ⟨j, hj, he⟩ := List.mem_map.1 hm
    injection he with he
    subst he
    simp [hU] at hj
theorem _root_.Go.Proofs.Dm.IRow.fru {U : Nat → Prop} {w0 w : World} {A : Option Addr} {c : Nat} {xs : List Int} (hr : IRow w0 3 A c xs) (h : FrU U w0 w) (hU : ∀ j, bk A = some j → U j) : IRow w 3 A c xs := by
  obtain ⟨S, hf, hS⟩ := FrU.toFr h
  refine hr.fr hf ?_
  cases hb : bk A with
  | none => exact .inl rfl
  | some j => exact .inr (hS j (hU j hb))
/-- What a law keeps safe of its own: all that was there, and the keys that are begun. -/
def UB (w : World) (A : Option Addr) (k : Nat) : Prop := k < w.heap.size ∨ bk A = some k

theorem key_uni (w wr : World) (g : Nat) (P : PS) (B : List Int) (k way : Int) (rec : Bool) (Ab : Option Addr) (hP : PAt (UB w Ab) wr wr g P B) (hG : GInv P) (hruns : Runs P B way rec) (hl : B.length < 1000000) :
    ∃ (a b c d e t u : Int) (P1 : PS) (B1 B' : List Int), (Calls Try.prog 8 #[.pointer (some ⟨g, 0, none⟩), .int .i64 k, .int .i64 way, .bool rec] wr fun ee w' => ee = .returned (.tuple #[.agg #[.int .i64 a, .int .i64 b, .int .i64 c, .int .i64 d, .int .i64 e], .int .i64 t, .int .i64 u]) ∧ PAt (UB w Ab) wr w' g P1 B1) ∧
      GInv P1 ∧ Runs P1 B1 way rec ∧ (t = 0 ∨ t = 1 ∨ t = 2) ∧ (t ≠ 1 → a = 0 ∧ b = 0 ∧ c = 0 ∧ d = 0 ∧ e = 0) ∧ (t = 0 → B1 = B') ∧ (t ≠ 0 → B1 = []) ∧
      ((k = 27 ∧ B' = [] ∧ t = 0 ∧ u = 0) ∨ (k ≠ 27 ∧ B' = B ++ [k] ∧ pRun (start way rec) (B ++ [k]) = (five a b c d e, t, u))) := by
  by_cases hk : k = 27
  · subst hk
    exact ⟨0, 0, 0, 0, 0, 0, 0, P0, [], [], esc_at _ wr wr g P B way rec hP, gInv_P0, runs_P0 way rec, .inl rfl, fun _ => ⟨rfl, rfl, rfl, rfl, rfl⟩, fun _ => rfl, fun _ => rfl, .inl ⟨rfl, rfl, rfl, rfl⟩⟩
  · have hkey := key_at _ wr wr g P B k way rec hP hG hl hk _ rfl
    have hG1 := gInv_left hG way rec k (B ++ [k])
    have hrt := runs_told hruns k
    have hru := runs_left hruns k
    rcases told_three _ (pStep_st (prep P way rec) k) (B ++ [k]) with ⟨a, b, c, d, e, u, ht, hl⟩ | ⟨u, ht, hl⟩ | ⟨u, ht, hl⟩
    · rw [ht, hl] at hkey
      rw [ht] at hrt
      rw [hl] at hG1 hru
      exact ⟨a, b, c, d, e, 1, u, P0, [], B ++ [k], hkey, hG1, hru, by omega, fun h => absurd rfl h, fun h => by omega, fun _ => rfl, .inr ⟨hk, rfl, hrt⟩⟩
    · rw [ht, hl] at hkey
      rw [ht] at hrt
      rw [hl] at hG1 hru
      exact ⟨0, 0, 0, 0, 0, 2, u, P0, [], B ++ [k], hkey, hG1, hru, by omega, fun _ => ⟨rfl, rfl, rfl, rfl, rfl⟩, fun h => by omega, fun _ => rfl, .inr ⟨hk, rfl, hrt⟩⟩
    · rw [ht, hl] at hkey
      rw [ht] at hrt
      rw [hl] at hG1 hru
      exact ⟨0, 0, 0, 0, 0, 0, u, _, B ++ [k], B ++ [k], hkey, hG1, hru, by omega, fun _ => ⟨rfl, rfl, rfl, rfl, rfl⟩, fun _ => rfl, fun h => absurd rfl h, .inr ⟨hk, rfl, hrt⟩⟩
theorem blk_set9 {w : World} {g : Nat} {t : TypeId} {x0 x1 x2 x3 x4 x5 x6 x7 x8 : Value} (h : Blk w g t #[x0, x1, x2, x3, x4, x5, x6, x7, x8]) (y0 y1 y2 y3 y4 y5 y6 y7 y8 : Value) :
    Blk ((((((((((w.setCell ⟨g, 0, none⟩ y0).setCell ⟨g, 1, none⟩ y1).setCell ⟨g, 2, none⟩ y2).setCell ⟨g, 3, none⟩ y3).setCell ⟨g, 4, none⟩ y4).setCell ⟨g, 5, none⟩ y5).setCell ⟨g, 6, none⟩ y6).setCell ⟨g, 7, none⟩ y7).setCell ⟨g, 8, none⟩ y8)) g t #[y0, y1, y2, y3, y4, y5, y6, y7, y8] := by
  have h2 := ((((((((h.set_ 0 y0).set_ 1 y1).set_ 2 y2).set_ 3 y3).set_ 4 y4).set_ 5 y5).set_ 6 y6).set_ 7 y7).set_ 8 y8
  simpa using h2
theorem fr_set9 (w : World) (g : Nat) (y0 y1 y2 y3 y4 y5 y6 y7 y8 : Value) :
    Fr [some g] w ((((((((((w.setCell ⟨g, 0, none⟩ y0).setCell ⟨g, 1, none⟩ y1).setCell ⟨g, 2, none⟩ y2).setCell ⟨g, 3, none⟩ y3).setCell ⟨g, 4, none⟩ y4).setCell ⟨g, 5, none⟩ y5).setCell ⟨g, 6, none⟩ y6).setCell ⟨g, 7, none⟩ y7).setCell ⟨g, 8, none⟩ y8)) :=
  ((((((((((Fr.refl [some g] w).setB (g := g) (by simp) 0 y0).setB (g := g) (by simp) 1 y1).setB (g := g) (by simp) 2 y2).setB (g := g) (by simp) 3 y3).setB (g := g) (by simp) 4 y4).setB (g := g) (by simp) 5 y5).setB (g := g) (by simp) 6 y6).setB (g := g) (by simp) 7 y7).setB (g := g) (by simp) 8 y8)
theorem blk_zero5 {w : World} {g : Nat} {t : TypeId} {x0 x1 x2 x3 x4 x5 x6 x7 x8 : Value} (h : Blk w g t #[x0, x1, x2, x3, x4, x5, x6, x7, x8]) (y2 y3 y4 y5 y6 : Value) :
    Blk (((((w.setCell ⟨g, 2, none⟩ y2).setCell ⟨g, 3, none⟩ y3).setCell ⟨g, 4, none⟩ y4).setCell ⟨g, 5, none⟩ y5).setCell ⟨g, 6, none⟩ y6) g t #[x0, x1, y2, y3, y4, y5, y6, x7, x8] := by
  have h2 := ((((h.set_ 2 y2).set_ 3 y3).set_ 4 y4).set_ 5 y5).set_ 6 y6
  simpa using h2
theorem fr_zero5 (w : World) (g : Nat) (y2 y3 y4 y5 y6 : Value) : Fr [some g] w (((((w.setCell ⟨g, 2, none⟩ y2).setCell ⟨g, 3, none⟩ y3).setCell ⟨g, 4, none⟩ y4).setCell ⟨g, 5, none⟩ y5).setCell ⟨g, 6, none⟩ y6) :=
  (((((Fr.refl [some g] w).setB (g := g) (by simp) 2 y2).setB (g := g) (by simp) 3 y3).setB (g := g) (by simp) 4 y4).setB (g := g) (by simp) 5 y5).setB (g := g) (by simp) 6 y6
end Go.Proofs.Ythhkannmeljfkaa
