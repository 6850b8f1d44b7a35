import Derived.Test.YtblafakafgediaaGreatW24
import Derived.Shelf.Abstract
import Derived.OwnWalkIn
import Derived.TacticsInMore
import Derived.LoopNIn
import Derived.LoopIn
namespace Go.Proofs.YtblafakafgediaaGreat
open Go.RowKit Go.Shelf Go.Proofs.Dm
variable {E : List (Option Nat)}
attribute [local go_sem] Oper.semAt_some

/-- What a range hands over: the numbers, and the rows. -/
def allR (xs : List RV) (i j : Nat) : List (Nat × RV) := (List.range' i (j - i)).map fun k => (k, xs.getD k RV.none)
def encR (x : Nat × RV) : Array Value := #[.int .i64 (x.1 : Nat), x.2.val]
theorem allR_len (xs : List RV) (i j : Nat) : (allR xs i j).length = j - i := by simp [allR]
theorem allR_snoc (xs : List RV) (i q j : Nat) (h1 : i ≤ q) (h2 : q < j) : allR xs i (q + 1) = allR xs i q ++ [(q, xs.getD q RV.none)] ∧ allR xs i q ++ [(q, xs.getD q RV.none)] <+: allR xs i j := by
  have key : allR xs i (q + 1) = allR xs i q ++ [(q, xs.getD q RV.none)] := by
    unfold allR
    rw [show q + 1 - i = (q - i) + 1 by omega, List.range'_1_concat, List.map_append, show i + (q - i) = q by omega]
    rfl
  refine ⟨key, ?_⟩
  rw [← key]
  refine ⟨(List.range' (q + 1) (j - (q + 1))).map fun k => (k, xs.getD k RV.none), ?_⟩
  unfold allR
  rw [← List.map_append]
  congr 1
  have := List.range'_append (s := i) (m := q + 1 - i) (n := j - (q + 1)) (step := 1)
  rw [show i + 1 * (q + 1 - i) = q + 1 by omega, show q + 1 - i + (j - (q + 1)) = j - i by omega] at this
  exact this
/-- A tree of few things is low. -/
theorem low {w : World} : ∀ {h lo g : Nat} {xs : List RV}, NodeAt TN E w h lo g xs → 1 ≤ lo → (0 < h → 2 ≤ lo) → h + 1 ≤ xs.length
  | 0, _, _, _, hn, h1, _ => Nat.le_trans h1 hn.1
  | h + 1, lo, _, _, ⟨ks, A, c, h0, _, _, hx, _, _, hks⟩, h1, h2 => by
    have h2' := h2 (by omega)
    match ks, h0, hx, hks with
    | [], h0, _, _ => simp at h0; omega
    | [_], h0, _, _ => simp at h0; omega
    | a :: b :: ks, _, hx, hks =>
      have l1 := low (hks a (List.mem_cons_self ..)) (by omega) (fun _ => by omega)
      have l2 := (hks b (List.mem_cons_of_mem _ (List.mem_cons_self ..))).pos (by omega)
      rw [hx]
      simp
      omega
/-- Between two rounds: what is to come, the top leaf perhaps at its end. -/
def TopLe (E : List (Option Nat)) (w : World) (N : Nat) (fs : List (Nat × Nat × Nat)) (L : List RV) : Prop :=
  ∃ (g a nx : Nat) (fs2 : List (Nat × Nat × Nat)) (lo : Nat) (xs rest : List RV), fs = (g, a, nx) :: fs2 ∧ NodeAt TN E w 0 lo g xs ∧ nx ≤ xs.length ∧ AncAt E w N 0 fs2 a xs.length rest ∧ L = xs.drop nx ++ rest
theorem TopAt.le {w : World} {N : Nat} {fs : List (Nat × Nat × Nat)} {L : List RV} (h : TopAt E w N fs L) : TopLe E w N fs L := by
  obtain ⟨g, a, nx, fs2, lo, xs, rest, h1, h2, h3, h4, h5⟩ := h
  exact ⟨g, a, nx, fs2, lo, xs, rest, h1, h2, by omega, h4, h5⟩
theorem chI_of_stk {w0 w w' : World} {B gs c : Nat} {A A' : Option Addr} {fs : List (Nat × Nat × Nat)} (h : StkOf E w0 w gs A c fs) (hg : B ≤ gs) (hA : ∀ j, bk A = some j → B ≤ j) (hc : StkCh gs w w' A A') : ChI B w w' := by
  obtain ⟨S, h1, h2, h3⟩ := hc
  refine ⟨h1.os, h1.tape, h1.output, h1.size, fun k o hk ho => ?_⟩
  refine (h1.block k (lt_of_obj hk) fun hm => ?_).trans hk
  rcases h2 k hm with e | e | e
  · subst e
    have hb := h.1.1
    unfold Blk at hb
    rw [hb] at hk
    injection hk with hk
    subst hk
    rcases ho with ho | ho
    · omega
    · simp [itT] at ho
  · have hbk := hA k e
    rcases h.1.2.1.2 with ⟨he, _⟩ | ⟨g, cap, cur, he, _, hgg, _⟩
    · injection he with he; rw [he] at e; cases e
    · injection he with he
      rw [he] at e
      injection e with e
      subst e
      rw [hgg] at hk
      injection hk with hk
      subst hk
      rcases ho with ho | ho
      · omega
      · simp [itT] at ho
  · have := lt_of_obj hk; omega
theorem StkOf.keeps {w0 w w' : World} {gs c : Nat} {A : Option Addr} {fs : List (Nat × Nat × Nat)} (h : StkOf E w0 w gs A c fs) (hk : KeepsC E w0.heap.size w w') : StkOf E w0 w' gs A c fs := by
  obtain ⟨⟨h1, h2, h3⟩, h4, h5, h6⟩ := h
  refine ⟨⟨hk.2.2.2.2 _ _ h1 (.inr ⟨by simp [itT], rfl⟩), ⟨h2.1, ?_⟩, h3⟩, ⟨hk.1.trans h4.os, hk.2.1.trans h4.tape, hk.2.2.1.trans h4.output, Nat.le_trans h4.size hk.2.2.2.1, fun k hlt hn => ?_⟩, h5, h6⟩
  · rcases h2.2 with h0 | ⟨g, cap, cur, he, hb, hg, rest⟩
    · exact .inl h0
    · exact .inr ⟨g, cap, cur, he, hb, hk.2.2.2.2 _ _ hg (.inr ⟨by simp [itT], rfl⟩), rest⟩
  · have hold := h4.block k hlt hn
    have hget : w0.heap[k]? = some w0.heap[k] := Array.getElem?_eq_getElem hlt
    rw [hget] at hold ⊢
    exact hk.2.2.2.2 k _ hold (.inl ⟨hlt, hn⟩)
theorem newA_ch {gs B : Nat} {w w' : World} {A A' : Option Addr} (hA : ∀ j, bk A = some j → B ≤ j) (hB : B ≤ w.heap.size) (hc : StkCh gs w w' A A') : ∀ j, bk A' = some j → B ≤ j := fun j hj => by
  obtain ⟨S, _, _, h3⟩ := hc
  rcases h3 with h | ⟨i, h, hi⟩
  · exact hA j (by rw [← h]; exact hj)
  · rw [h] at hj; injection hj with hj; omega
end Go.Proofs.YtblafakafgediaaGreat
