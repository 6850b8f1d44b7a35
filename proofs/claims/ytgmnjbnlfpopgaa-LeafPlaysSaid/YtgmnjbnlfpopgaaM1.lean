import Derived.Test.YtgmnjbnlfpopgaaProg
import Derived.Test.YtgmnjbnlfpopgaaLib
import Derived.Test.YtgmnjbnlfpopgaaCopy
import Derived.Test.YtgmnjbnlfpopgaaHeap
import Derived.Test.YtgmnjbnlfpopgaaSrt
import Derived.Deep.RegionWith
import Derived.Deep.DeepCutAuto
namespace Go.Proofs.Ytgmnjbnlfpopgaa
open Go.RowKit Go.Proofs.Dm

theorem ret_int {k : IntKind} {a b : Int} (h : a = b) : Ending.returned (.int k a) = .returned (.int k b) := by rw [h]
theorem ret_bool {a b : Bool} (h : a = b) : Ending.returned (.bool a) = .returned (.bool b) := by rw [h]
theorem info3 : (Try.prog.info? 3).map (fun i => (i.zero, i.size, i.bytes)) = some (some (.int .i64 0), 1, 8) := by kernel_rfl

def tens (n : Int) : Int := n / 10
def sgn (x y : Int) : Int := if x < y then -1 else if y < x then 1 else 0
theorem tens_any (n : Int) (w : World) (h0 : -1000000 ≤ n) (h1 : n ≤ 1000000) : Calls Try.prog 38 #[.int .i64 n] w fun e w' => e = .returned (.int .i64 (tens n)) ∧ w' = w := by
  unfold tens
  by_cases hn : n < 0
  · have he : (n - 9).tdiv 10 = n / 10 := by
      have h2 : n - 9 = -(9 - n) := by omega
      rw [h2, Int.neg_tdiv, Int.tdiv_eq_ediv_of_nonneg (by omega)]
      omega
    have HE := Lib.hid he
    clear he
    go_enter Try.func38, Try.ntmps38
    go_wp2
    go_ret
    exact ⟨ret_int (by first | exact HE.out | (unfold wrap64; have := HE.out; omega)), rfl⟩
  · have h2 : 0 ≤ n := by omega
    go_enter Try.func38, Try.ntmps38
    go_wp2
    go_ret
    exact ⟨rfl, rfl⟩
theorem compare_any (a b : Int) (w : World) (h0 : -1000000 ≤ a) (h1 : a ≤ 1000000) (h2 : -1000000 ≤ b) (h3 : b ≤ 1000000) : Calls Try.prog 12 #[.int .i64 a, .int .i64 b] w fun e w' => e = .returned (.int .i64 (sgn (tens a) (tens b))) ∧ w' = w := by
  have ha : tens a = tens a := rfl
  obtain ⟨x, hx⟩ : ∃ x, x = tens a := ⟨_, rfl⟩
  obtain ⟨y, hy⟩ : ∃ y, y = tens b := ⟨_, rfl⟩
  have ca : ∀ w, Calls Try.prog 38 #[.int .i64 a] w fun e w' => e = .returned (.int .i64 x) ∧ w' = w := fun w => by rw [hx]; exact tens_any a w h0 h1
  have cb : ∀ w, Calls Try.prog 38 #[.int .i64 b] w fun e w' => e = .returned (.int .i64 y) ∧ w' = w := fun w => by rw [hy]; exact tens_any b w h2 h3
  rw [← hx, ← hy]
  clear hx hy ha
  by_cases h4 : x < y
  · have HS : Hid (sgn x y = -1) := by show _ = _; simp [sgn, h4]
    go_enter Try.func12, Try.ntmps12
    go_wp2_with (go_at_call 38; go_must ((first | (with_reducible refine (ca _).mono ?_) | (with_reducible refine (cb _).mono ?_)); rintro e w1 ⟨rfl, rfl⟩))
    go_ret
    exact ⟨by rw [HS.out]; rfl, rfl⟩
  · by_cases h5 : y < x
    · have HS : Hid (sgn x y = 1) := by show _ = _; simp [sgn, h4, h5]
      go_enter Try.func12, Try.ntmps12
      go_wp2_with (go_at_call 38; go_must ((first | (with_reducible refine (ca _).mono ?_) | (with_reducible refine (cb _).mono ?_)); rintro e w1 ⟨rfl, rfl⟩))
      go_ret
      exact ⟨by rw [HS.out]; rfl, rfl⟩
    · have HS : Hid (sgn x y = 0) := by show _ = _; simp [sgn, h4, h5]
      go_enter Try.func12, Try.ntmps12
      go_wp2_with (go_at_call 38; go_must ((first | (with_reducible refine (ca _).mono ?_) | (with_reducible refine (cb _).mono ?_)); rintro e w1 ⟨rfl, rfl⟩))
      go_ret
      exact ⟨by rw [HS.out]; rfl, rfl⟩

/-- A function value that compares by a number of each thing; what it reads lies among what U names. -/
def CmpOK (F : Value) (U : Nat → Prop) (w0 : World) (dom : Int → Prop) (key : Int → Int) : Prop :=
  ∃ n C, F = .func (.func n) #[] C ∧ (∀ args w, (callFunc n args).run Try.prog w = .ok (.enter n args) w) ∧ ∀ a b w, dom a → dom b → FrU U w0 w → Calls Try.prog n (#[.int .i64 a, .int .i64 b] ++ C) w fun e w' => e = .returned (.int .i64 (sgn (key a) (key b))) ∧ ∃ m, w' = w.drewN m
theorem cmp_tens (U : Nat → Prop) (w0 : World) : CmpOK (.func (.func 12) #[] #[]) U w0 (fun x => -1000000 ≤ x ∧ x ≤ 1000000) tens :=
  ⟨12, #[], rfl, fun _ _ => by kernel_rfl, fun a b w ha hb _ => (compare_any a b w ha.1 ha.2 hb.1 hb.2).mono fun e w' ⟨he, hw⟩ => ⟨he, 0, by rw [hw]; rfl⟩⟩

/-- A run that is gone through: where it lies, what is left, and which one it is. -/
structure Rn where
  A : Option Addr
  c : Nat
  xs : List Int
  which : Int
def Rn.cells (e : Rn) : List Value := [.slice e.A e.xs.length e.c, .int .i64 e.which]
def rcells (L : List Rn) : List Value := L.flatMap Rn.cells
def RAt (U : Nat → Prop) (w0 w : World) (g : Nat) (F : Value) (L : List Rn) : Prop :=
  FrU U w0 w ∧ ¬ U g ∧ (∃ A cap, Blk w g 75 #[.slice A L.length cap, F] ∧ ORow w 77 2 A cap L.length (rcells L) ∧ some g ≠ bk A ∧ ∀ j, bk A = some j → ¬ U j) ∧
    ∀ e ∈ L, Sl w0 e.A (ints e.xs) ∧ ∀ j, bk e.A = some j → U j
/-- Which one goes ahead. -/
def rlt (key : Int → Int) (a b : Rn) : Bool := decide (key (a.xs.headD 0) < key (b.xs.headD 0)) || (key (a.xs.headD 0) == key (b.xs.headD 0) && decide (a.which < b.which))
theorem rlt_ord (key : Int → Int) : Ordd (rlt key) := by
  refine ⟨fun a b h => ?_, fun a b c h1 h2 => ?_⟩
  · simp only [rlt, Bool.or_eq_true, decide_eq_true_eq, Bool.and_eq_true, beq_iff_eq, Bool.or_eq_false_iff, decide_eq_false_iff_not, Bool.and_eq_false_iff, beq_eq_false_iff_ne] at *
    omega
  · simp only [rlt, Bool.or_eq_false_iff, decide_eq_false_iff_not, Bool.and_eq_false_iff, beq_eq_false_iff_ne] at *
    omega
theorem rcells_len (L : List Rn) : (rcells L).length = L.length * 2 := by
  induction L with
  | nil => rfl
  | cons e L ih => show (e.cells ++ rcells L).length = _; rw [List.length_append, ih]; simp [Rn.cells]; omega
theorem rcells_get (L : List Rn) (i : Nat) (h : i < L.length) : (rcells L)[2 * i]? = some (.slice L[i].A L[i].xs.length L[i].c) ∧ (rcells L)[2 * i + 1]? = some (.int .i64 L[i].which) := by
  induction L generalizing i with
  | nil => simp at h
  | cons e L ih =>
    cases i with
    | zero => exact ⟨rfl, rfl⟩
    | succ i =>
      have := ih i (by simpa using h)
      have hp : rcells (e :: L) = e.cells ++ rcells L := rfl
      have e0 : e.cells.length = 2 := rfl
      rw [hp, List.getElem?_append_right (by rw [e0]; omega), List.getElem?_append_right (by rw [e0]; omega), e0]
      rw [show 2 * (i + 1) - 2 = 2 * i by omega, show 2 * (i + 1) + 1 - 2 = 2 * i + 1 by omega]
      simpa using this
end Go.Proofs.Ytgmnjbnlfpopgaa
