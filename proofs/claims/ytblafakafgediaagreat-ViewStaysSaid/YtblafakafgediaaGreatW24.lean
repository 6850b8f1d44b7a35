import Derived.RangeFuncNested
import Derived.RangeFuncFrom
import Derived.RangeFuncBound
import Derived.RangeFuncCalls
import Derived.RangeFuncLeaves
import Derived.Test.YtblafakafgediaaGreatW23
/-!
'for .. := range g': g keeps a stack of its own in cells, of two types that no loop's body turns.
-/
namespace Go.Proofs.YtblafakafgediaaGreat
open Go.RowKit Go.Proofs.Dm

/-- What the machinery of a range, and the iterator, may turn: no cells, or cells of a stack's or a frame's type. -/
def itT : Obj → Bool
  | .cells _ t _ => decide (t = TS ∨ t = TF)
  | _ => true
/-- Only such blocks turned, from B on, and new ones. -/
structure ChI (B : Nat) (W W' : World) : Prop where
  os : W'.os = W.os
  tape : W'.tape = W.tape
  output : W'.output = W.output
  size : W.heap.size ≤ W'.heap.size
  block : ∀ k o, W.heap[k]? = some o → (k < B ∨ itT o = false) → W'.heap[k]? = some o
/-- Such blocks kept, and all below b. -/
structure KeepsI (E : List (Option Nat)) (b : Nat) (W W' : World) : Prop where
  os : W'.os = W.os
  tape : W'.tape = W.tape
  output : W'.output = W.output
  size : W.heap.size ≤ W'.heap.size
  block : ∀ k o, W.heap[k]? = some o → ((k < b ∧ some k ∉ E) ∨ itT o = true) → W'.heap[k]? = some o
def StI (B : Nat) {α : Type} (J : α → World → Prop) : Prop := ∀ s W W', J s W → ChI B W W' → J s W'
theorem ChI.refl (B : Nat) (W : World) : ChI B W W := ⟨rfl, rfl, rfl, Nat.le_refl _, fun _ _ h _ => h⟩
theorem ChI.trans {B : Nat} {a b c : World} (h : ChI B a b) (k : ChI B b c) : ChI B a c := ⟨k.os.trans h.os, k.tape.trans h.tape, k.output.trans h.output, Nat.le_trans h.size k.size, fun i o hi hk => k.block i o (h.block i o hi hk) hk⟩
theorem lt_of_obj {w : World} {k : Nat} {o : Obj} (h : w.heap[k]? = some o) : k < w.heap.size := (Array.getElem?_eq_some_iff.1 h).1
theorem ChI.of_fr {B : Nat} {W W' : World} (hf : Fr [] W W') : ChI B W W' := ⟨hf.os, hf.tape, hf.output, hf.size, fun k _ h _ => (hf.block k (lt_of_obj h) (by simp)).trans h⟩
theorem ChI.put {B : Nat} {W : World} {l : Nat} {o o' : Obj} (hl : W.heap[l]? = some o) (ho : itT o = true) (hB : B ≤ l) : ChI B W (W.putObj l o') := by
  refine ⟨rfl, rfl, rfl, by simp [World.putObj], fun k x hx hk => ?_⟩
  by_cases e : k = l
  · subst e
    rw [hl] at hx
    injection hx with hx
    subst hx
    rcases hk with h | h
    · omega
    · rw [ho] at h; cases h
  · rw [World.putObj_heap_other e]; exact hx
theorem ChI.less {B B' : Nat} {W W' : World} (h : ChI B W W') (hB : B' ≤ B) : ChI B' W W' := ⟨h.os, h.tape, h.output, h.size, fun k o hk hc => h.block k o hk (hc.imp (fun h => by omega) id)⟩
theorem KeepsI.refl (E : List (Option Nat)) (b : Nat) (W : World) : KeepsI E b W W := ⟨rfl, rfl, rfl, Nat.le_refl _, fun _ _ h _ => h⟩
theorem KeepsI.trans {E : List (Option Nat)} {b : Nat} {x y z : World} (h : KeepsI E b x y) (k : KeepsI E b y z) : KeepsI E b x z := ⟨k.os.trans h.os, k.tape.trans h.tape, k.output.trans h.output, Nat.le_trans h.size k.size, fun i o hi hk => k.block i o (h.block i o hi hk) hk⟩
theorem KeepsI.of_fr {E : List (Option Nat)} {b : Nat} {W W' : World} (hf : Fr [] W W') : KeepsI E b W W' := ⟨hf.os, hf.tape, hf.output, hf.size, fun k _ h _ => (hf.block k (lt_of_obj h) (by simp)).trans h⟩
/-- A body's store: a block of another type. -/
theorem KeepsI.of_frS {E : List (Option Nat)} {b : Nat} {W W' : World} {S : List (Option Nat)} (hf : Fr S W W') (hS : ∀ k, some k ∈ S → k < W.heap.size → (b ≤ k ∨ some k ∈ E) ∧ ∃ o, W.heap[k]? = some o ∧ itT o = false) : KeepsI E b W W' := by
  refine ⟨hf.os, hf.tape, hf.output, hf.size, fun k o h hk => ?_⟩
  refine (hf.block k (lt_of_obj h) fun hm => ?_).trans h
  obtain ⟨h1, o', h2, h3⟩ := hS k hm (lt_of_obj h)
  rw [h] at h2
  injection h2 with h2
  subst h2
  rcases hk with hk | hk
  · rcases h1 with h1 | h1
    · have := hk.1; omega
    · exact hk.2 h1
  · rw [h3] at hk; cases hk
/-- What the iterator knows of a round: its stacks stay, and what lay below b. -/
def KeepsC (E : List (Option Nat)) (b : Nat) (W W' : World) : Prop := W'.os = W.os ∧ W'.tape = W.tape ∧ W'.output = W.output ∧ W.heap.size ≤ W'.heap.size ∧ ∀ k o, W.heap[k]? = some o → ((k < b ∧ some k ∉ E) ∨ (itT o = true ∧ o.isCells = true)) → W'.heap[k]? = some o
theorem KeepsC.put {E : List (Option Nat)} {b l : Nat} {W : World} {o o' : Obj} (hl : W.heap[l]? = some o) (ho : o.isCells = false) (hb : b ≤ l) : KeepsC E b W (W.putObj l o') := by
  refine ⟨rfl, rfl, rfl, by simp [World.putObj], fun k x hx hk => ?_⟩
  by_cases e : k = l
  · subst e
    rw [hl] at hx
    injection hx with hx
    subst hx
    rcases hk with h | h
    · have := h.1; omega
    · rw [ho] at h; cases h.2
  · rw [World.putObj_heap_other e]; exact hx
theorem KeepsC.trans {E : List (Option Nat)} {b : Nat} {x y z : World} (h : KeepsC E b x y) (k : KeepsC E b y z) : KeepsC E b x z := ⟨k.1.trans h.1, k.2.1.trans h.2.1, k.2.2.1.trans h.2.2.1, Nat.le_trans h.2.2.2.1 k.2.2.2.1, fun i o hi hk => k.2.2.2.2 i o (h.2.2.2.2 i o hi hk) hk⟩
theorem KeepsI.c {E : List (Option Nat)} {b : Nat} {W W' : World} (h : KeepsI E b W W') : KeepsC E b W W' := ⟨h.os, h.tape, h.output, h.size, fun k o hk hc => h.block k o hk (hc.imp id fun h => h.1)⟩
variable {E : List (Option Nat)} {F : Fence} {n : Nat} {P : Program}
/-- An iterator's word: whatever a round keeps, all come, in their order, or a round has said 'no more'. -/
def SeqX {α : Type} (E : List (Option Nat)) (F : Fence) (n : Nat) (P : Program) (g : Nat) (lb : Array Value) (encs : α → Array Value) (w0 : World) (all : List α) : Prop :=
  ∀ (l : Nat) (J Jx : List α → World → Prop) (W : World), Fr [] w0 W → StI W.heap.size J → StI W.heap.size Jx →
    (∀ pre x W1, J pre W1 → pre ++ [x] <+: all → YieldAt F (n - 1) P l (encs x) W1 fun e W' =>
      (e = .returned (.bool true) ∧ J (pre ++ [x]) W' ∧ KeepsC E w0.heap.size W1 W') ∨ (e = .returned (.bool false) ∧ Jx (pre ++ [x]) W')) →
    J [] W →
    CallsIn F n P g (#[.func (.yield l) #[] #[]] ++ lb) W fun e W' => (∃ v, e = .returned v) ∧ (J all W' ∨ ∃ pre, Jx pre W')
/-- How a round's body may end. -/
def bodyX {α : Type} (E : List (Option Nat)) (b : Nat) (I : List α → World → Prop) (Ix : Code → List α → World → Prop) (xs : List α) (W : World) : Exit → Act → World → Prop
  | .normal, _, W' => KeepsI E b W W' ∧ I xs W'
  | .ret, _, W' => KeepsI E b W W' ∧ Ix .ret xs W'
  | .exit id, _, W' => KeepsI E b W W' ∧ Ix (.exit id) xs W'
  | _, _, _ => False
theorem range_law {α : Type} {g : Operand} {ps : Array Tmp} {assign body : Code} {Q : Exit → Act → World → Prop} {a : Act} {w : World}
    (hro : F.round = none) (h1 : 1 ≤ n) {gf : Nat} {lb : Array Value} (hg : a.eval g = .func (.func gf) #[] lb) (hFg : F.fn gf) (eg : ∀ args w, (callFunc gf args).run P w = .ok (.enter gf args) w)
    {encs : α → Array Value} {w0 : World} {all : List α} (hseq : SeqX E F (n - 1) P gf lb encs w0 all) (hw0 : Fr [] w0 w) (hps : ∀ x, (encs x).size = ps.size)
    (I : List α → World → Prop) (Ix : Code → List α → World → Prop) (hI : StI w.heap.size I) (hIx : ∀ c, StI w.heap.size (Ix c)) (h0 : I [] w) (Ax : α → Act → World → Prop) (hAx : ∀ x a₁ W l o o', W.heap[l]? = some o → o.isCells = false → Ax x a₁ W → Ax x a₁ (W.putObj l o'))
    (hassign : ∀ (l : Nat) (x : α) (W : World) (K : Act → World → Prop), (∀ a₁ W1, Fr [] W W1 → Ax x a₁ W1 → K a₁ W1) →
      assign.wpIn (F.inRound l) (n - 1 - 1) P (Exit.then K (fun _ _ _ => False)) { tmps := (ps.zip (encs x)).foldl (fun t (p, v) => t.setIfInBounds p v) a.tmps, defers := [] } W)
    (hbody : ∀ (l : Nat) (pre : List α) (x : α) (a₁ : Act) (W : World), I pre W → pre ++ [x] <+: all → Ax x a₁ W → body.wpIn (F.inRound l) (n - 1 - 1) P (bodyX E w0.heap.size I Ix (pre ++ [x]) W) a₁ W)
    (hdone : ∀ (D : Nat) (W : World), w.heap.size ≤ D → I all W → W.heap[D]? = some (.deferred (some [])) → Q .normal { a with defers := { target := .collected D, args := #[] } :: a.defers } W)
    (hstop : ∀ (D : Nat) (c : Code) (pre : List α) (W : World), w.heap.size ≤ D → Ix c pre W → W.heap[D]? = some (.deferred (some [])) → c.wpIn F n P Q { a with defers := { target := .collected D, args := #[] } :: a.defers } W) :
    (Code.rangeFunc g ps assign body).wpIn F n P Q a w := by
  refine wpIn_rangeFunc fun fn hfn => ?_
  have hn0 : w0.heap.size ≤ w.heap.size := hw0.size
  -- the loop's record
  obtain ⟨rec, hrec⟩ : ∃ rec : LoopState → Option Code → Loop, rec = fun st pe => { state := st, pending := pe, fn, tmps := a.tmps, params := ps, assign, body, defers := w.heap.size } := ⟨_, rfl⟩
  obtain ⟨W1, hW1⟩ : ∃ W1, W1 = (w.alloc (.deferred (some []))).alloc (.loop (rec .ready none)) := ⟨_, rfl⟩
  have hF1 : Fr [] w W1 := by rw [hW1]; exact ((Fr.refl [] w).alloc _).alloc _
  have hZ1 : W1.heap.size = w.heap.size + 2 := by rw [hW1]; simp
  have hL1 : W1.heap[w.heap.size + 1]? = some (.loop (rec .ready none)) := by
    rw [hW1]
    have := World.alloc_heap_new (w.alloc (.deferred (some []))) (.loop (rec .ready none))
    rwa [World.size_alloc] at this
  have hD1 : W1.heap[w.heap.size]? = some (.deferred (some [])) := by
    rw [hW1]
    exact (Below.heap_alloc _ _ _ (by simp)).trans (World.alloc_heap_new w _)
  refine ⟨w.heap.size + 1, [{ target := .collected w.heap.size, args := #[] }], W1, { target := .fn (.func gf) lb, args := #[.func (.yield (w.heap.size + 1)) #[] #[]] }, W1, gf, #[.func (.yield (w.heap.size + 1)) #[] #[]] ++ lb, W1, ?_, ?_, ?_, ?_, fun _ => h1, ?_⟩
  · rw [hro, hW1, hrec]; exact run_enterLoop_outer _ _ _ _ _
  · simp only [resolve, hg]
    simp [go_sem]
  · intro f' hf'
    simp [Target.leads] at hf'
    subst hf'
    exact hFg
  · simp [invoke, go_sem, eg]
  · -- what the loop knows between two rounds
    have hst : ∀ {K : List α → World → Prop}, StI w.heap.size K → ∀ st pe, StI W1.heap.size fun s W => K s W ∧ W.heap[w.heap.size + 1]? = some (.loop (rec st pe)) ∧ W.heap[w.heap.size]? = some (.deferred (some [])) := fun hK st pe s W W' ⟨q1, q2, q3⟩ hc =>
      ⟨hK s W W' q1 (hc.less hF1.size), hc.block _ _ q2 (.inl (by omega)), hc.block _ _ q3 (.inl (by omega))⟩
    have hput : ∀ {K : List α → World → Prop}, StI w.heap.size K → ∀ {s W r} (r' : Loop), K s W → W.heap[w.heap.size + 1]? = some (.loop r) → K s (W.putObj (w.heap.size + 1) (.loop r')) := fun hK s W r r' hk hl => hK _ _ _ hk (ChI.put hl rfl (by omega))
    refine (hseq (w.heap.size + 1) (fun pre W => I pre W ∧ W.heap[w.heap.size + 1]? = some (.loop (rec .ready none)) ∧ W.heap[w.heap.size]? = some (.deferred (some [])))
      (fun pre W => ∃ c, Ix c pre W ∧ W.heap[w.heap.size + 1]? = some (.loop (rec .done (some c))) ∧ W.heap[w.heap.size]? = some (.deferred (some []))) W1 (hw0.trans hF1) (hst hI _ _)
      (fun s W W' ⟨c, hc⟩ hch => ⟨c, hst (hIx c) _ _ s W W' hc hch⟩) ?_ ⟨hI _ _ _ h0 (ChI.of_fr hF1), hL1, hD1⟩).mono ?_
    · rintro pre x W0 ⟨hi, hl, hk⟩ hpx
      have hy := run_yield (P := P) (args := encs x) hl (by rw [hrec]; exact hps x)
      rw [hrec] at hy
      refine ⟨fn, _, assign, body, hy, roundIn_of_wpIn hfn (hassign _ x W0 _ fun a₁ W hfa hax => ?_)⟩
      have hi := hI _ _ _ hi (ChI.of_fr hfa)
      have hl := (hfa.block _ (lt_of_obj hl) (by simp)).trans hl
      have hk := (hfa.block _ (lt_of_obj hk) (by simp)).trans hk
      have hlt := lt_of_obj hl
      have hc0 : KeepsC E w0.heap.size W0 W := (KeepsI.of_fr hfa).c
      refine ⟨_, run_beginRound hl (by rw [hrec]), ?_⟩
      have hl2 : (W.putObj (w.heap.size + 1) (.loop { rec .ready none with state := .busy })).heap[w.heap.size + 1]? = some (.loop { rec .ready none with state := .busy }) := World.putObj_heap_same hlt
      have hk2 : (W.putObj (w.heap.size + 1) (.loop { rec .ready none with state := .busy })).heap[w.heap.size]? = some (.deferred (some [])) := (World.putObj_heap_other (by omega)).trans hk
      have hc2 : KeepsC E w0.heap.size W (W.putObj (w.heap.size + 1) (.loop { rec .ready none with state := .busy })) := KeepsC.put hl rfl (by omega)
      refine wpIn_mono (hbody _ pre x a₁ _ (hput hI _ hi hl) hpx (hAx _ _ _ _ _ _ hl rfl hax)) ?_
      have fin : ∀ (jump : Option Code) (W3 : World), KeepsI E w0.heap.size (W.putObj (w.heap.size + 1) (.loop { rec .ready none with state := .busy })) W3 →
          (Instr.endRound (w.heap.size + 1) jump).run P W3 = .ok (.bool jump.isNone) (W3.putObj (w.heap.size + 1) (.loop (rec (if jump.isNone then .ready else .done) jump))) ∧
          W3.heap[w.heap.size + 1]? = some (.loop { rec .ready none with state := .busy }) ∧
          (W3.putObj (w.heap.size + 1) (.loop (rec (if jump.isNone then .ready else .done) jump))).heap[w.heap.size + 1]? = some (.loop (rec (if jump.isNone then .ready else .done) jump)) ∧
          (W3.putObj (w.heap.size + 1) (.loop (rec (if jump.isNone then .ready else .done) jump))).heap[w.heap.size]? = some (.deferred (some [])) := by
        intro jump W3 hk3
        have hl3 := hk3.block _ _ hl2 (.inr rfl)
        have hr := run_endRound (P := P) jump hl3
        rw [hrec] at hr hl3 ⊢
        exact ⟨hr, hl3, World.putObj_heap_same (lt_of_obj hl3), (World.putObj_heap_other (by omega)).trans (hk3.block _ _ hk2 (.inr rfl))⟩
      intro e a3 W3 hp
      cases e with
      | normal =>
        obtain ⟨hk3, hi3⟩ := hp
        obtain ⟨hr, hl3, hl4, hk4⟩ := fin none W3 hk3
        exact ⟨_, _, hr, .inl ⟨rfl, ⟨hput hI _ hi3 hl3, hl4, hk4⟩, ((hc0.trans hc2).trans hk3.c).trans (KeepsC.put hl3 rfl (by omega))⟩⟩
      | ret =>
        obtain ⟨hk3, hi3⟩ := hp
        obtain ⟨hr, hl3, hl4, hk4⟩ := fin (some .ret) W3 hk3
        exact ⟨_, _, hr, .inr ⟨rfl, .ret, hput (hIx _) _ hi3 hl3, hl4, hk4⟩⟩
      | exit id =>
        obtain ⟨hk3, hi3⟩ := hp
        obtain ⟨hr, hl3, hl4, hk4⟩ := fin (some (.exit id)) W3 hk3
        exact ⟨_, _, hr, .inr ⟨rfl, .exit id, hput (hIx _) _ hi3 hl3, hl4, hk4⟩⟩
      | goto t => exact hp.elim
      | panic ch => exact hp.elim
      | outgrown => exact hp.elim
    · rintro e W2 ⟨⟨v, rfl⟩, (⟨hi, hl, hk⟩ | ⟨pre, c, hi, hl, hk⟩)⟩
      · have hr := run_endLoop (P := P) hl (by rw [hrec]; simp)
        rw [hrec] at hr
        exact ⟨none, _, hr, hdone _ _ (Nat.le_refl _) (hput hI _ hi hl) ((World.putObj_heap_other (by omega)).trans hk)⟩
      · have hr := run_endLoop (P := P) hl (by rw [hrec]; simp)
        rw [hrec] at hr
        exact ⟨some c, _, hr, hstop _ c pre _ (Nat.le_refl _) (hput (hIx c) _ hi hl) ((World.putObj_heap_other (by omega)).trans hk)⟩
end Go.Proofs.YtblafakafgediaaGreat
