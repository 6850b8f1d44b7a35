import Derived.Test.YtgmnjbnlfpopgaaM4
import Derived.Test.YtgmnjbnlfpopgaaHE
namespace Go.Proofs.Ytgmnjbnlfpopgaa
open Go.RowKit Go.Proofs.Dm

theorem meth_len (a : Addr) (w : World) : (method 231 72 (.pointer (some a)) "Len").run Try.prog w = .ok (51, .pointer (some a)) w := by kernel_rfl
theorem meth_less (a : Addr) (w : World) : (method 231 72 (.pointer (some a)) "Less").run Try.prog w = .ok (99, .pointer (some a)) w := by kernel_rfl
theorem meth_swap (a : Addr) (w : World) : (method 231 72 (.pointer (some a)) "Swap").run Try.prog w = .ok (102, .pointer (some a)) w := by kernel_rfl
theorem meth_push (a : Addr) (w : World) : (method 231 72 (.pointer (some a)) "Push").run Try.prog w = .ok (101, .pointer (some a)) w := by kernel_rfl
theorem meth_pop (a : Addr) (w : World) : (method 231 72 (.pointer (some a)) "Pop").run Try.prog w = .ok (100, .pointer (some a)) w := by kernel_rfl
/-- The heap of runs, with what each of them must be. -/
def RR (U : Nat → Prop) (w0 : World) (g : Nat) (F : Value) (dom : Int → Prop) (w : World) (L : List Rn) : Prop := RAt U w0 w g F L ∧ (∀ e ∈ L, ∀ x ∈ e.xs, dom x) ∧ L.length ≤ 1000000
def rval (x : Rn) : Value := .iface 77 (.agg #[.slice x.A x.xs.length x.c, .int .i64 x.which])
def Full (x : Rn) : Prop := x.xs ≠ []
theorem getD_el {L : List Rn} {i : Nat} (h : i < L.length) : L.getD i rn0 = L[i] := by simp [List.getD_eq_getElem?_getD, h]
theorem runs_hok (U : Nat → Prop) (w0 : World) (g : Nat) (F : Value) (dom : Int → Prop) (key : Int → Int) (hF : CmpOK F U w0 dom key) : HOK 72 ⟨g, 0, none⟩ rn0 (rlt key) (RR U w0 g F dom) Full 51 99 102 where
  mLen := meth_len _
  mLess := meth_less _
  mSwap := meth_swap _
  rLen := fun _ _ => by kernel_rfl
  rLess := fun _ _ => by kernel_rfl
  rSwap := fun _ _ => by kernel_rfl
  cLen := fun w l h => (len_at U w0 w g F l h.1).mono fun e w' ⟨he, hw⟩ => ⟨he, hw ▸ h⟩
  cLess := fun w l i j h hi hj oi oj => by
    rw [getD_el hi] at oi ⊢
    rw [getD_el hj] at oj ⊢
    exact (less_at U w0 w g F l dom key hF h.1 h.2.1 i j hi hj oi oj).mono fun e w' ⟨he, hw⟩ => ⟨he, hw, h.2⟩
  cSwap := fun w l i j h hi hj => (swap_at U w0 w g F l h.1 i j hi hj).mono fun e w' ⟨he, hw⟩ => ⟨he, hw, fun e he => h.2.1 e ((swl_perm rn0 l i j hi hj).mem_iff.1 he), by rw [swl_len]; exact h.2.2⟩
  small := fun w l h => h.2.2
  ord := rlt_ord key
theorem runs_hop (U : Nat → Prop) (w0 : World) (g : Nat) (F : Value) (dom : Int → Prop) : HOP 72 ⟨g, 0, none⟩ rn0 (RR U w0 g F dom) rval (fun x => (Sl w0 x.A (ints x.xs) ∧ ∀ j, bk x.A = some j → U j) ∧ ∀ y ∈ x.xs, dom y) 101 100 where
  mPush := meth_push _
  mPop := meth_pop _
  rPush := fun _ _ => by kernel_rfl
  rPop := fun _ _ => by kernel_rfl
  cPush := fun w l x h hx hl => (push_at U w0 w g F l h.1 x hx.1 h.2.2).mono fun e w' ⟨he, hw⟩ => ⟨he, hw, fun e he => by
    rcases List.mem_append.1 he with he | he
    · exact h.2.1 e he
    · simp at he; subst he; exact hx.2, by simp; omega⟩
  cPop := fun w l x h => (rpop_at U w0 w g F l x h.1 (by have := h.2.2; simp at this; omega)).mono fun e w' ⟨he, hw⟩ => ⟨he, hw, fun e he => h.2.1 e (List.mem_append_left _ he), by have := h.2.2; simp at this; omega⟩
end Go.Proofs.Ytgmnjbnlfpopgaa
