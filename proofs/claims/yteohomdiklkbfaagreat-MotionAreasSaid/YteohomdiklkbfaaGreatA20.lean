import Derived.RangeFuncNested
import Derived.RangeFuncFrom
import Derived.RangeFuncBound
import Derived.RangeFuncCalls
import Derived.RangeFuncLeaves
import Derived.Test.YteohomdiklkbfaaGreatA19
import Derived.Shelf.Abstract
import Derived.OwnWalkIn
import Derived.TacticsInMore
import Derived.LoopNIn
import Derived.LoopIn
/-!
'for ..:=range g': g keeps a stack of its own in cells,of two types that no loop's body turns.
-/
namespace Go.Proofs.YteohomdiklkbfaaGreat
open Go.RowKit Go.Proofs.Dm

def itT:Obj → Bool
  | .cells _ t _ => decide (t = TS ∨ t = TF)
  | _ => true
structure ChI (B:Nat) (W W':World):Prop where
  os:W'.os = W.os
  tape:W'.tape = W.tape
  output:W'.output = W.output
  size:W.heap.size ≤ W'.heap.size
  block:∀ k o,W.heap[k]? = some o → (k < B ∨ itT o = false) → W'.heap[k]? = some o
structure KeepsI (E:List (Option Nat)) (b:Nat) (W W':World):Prop where
  os:W'.os = W.os
  tape:W'.tape = W.tape
  output:W'.output = W.output
  size:W.heap.size ≤ W'.heap.size
  block:∀ k o,W.heap[k]? = some o → ((k < b ∧ some k ∉ E) ∨ itT o = true) → W'.heap[k]? = some o
def StI (B:Nat) {α:Type} (J:α → World → Prop):Prop:=∀ s W W',J s W → ChI B W W' → J s W'
theorem ChI.refl (B:Nat) (W:World):ChI B W W:=⟨rfl,rfl,rfl,Nat.le_refl _,fun _ _ h _ => h⟩
theorem ChI.trans {B:Nat} {a b c:World} (h:ChI B a b) (k:ChI B b c):ChI B a c:=⟨k.os.trans h.os,k.tape.trans h.tape,k.output.trans h.output,Nat.le_trans h.size k.size,fun i o hi hk => k.block i o (h.block i o hi hk) hk⟩
theorem lt_of_obj {w:World} {k:Nat} {o:Obj} (h:w.heap[k]? = some o):k < w.heap.size:=(Array.getElem?_eq_some_iff.1 h).1
theorem ChI.of_fr {B:Nat} {W W':World} (hf:Fr [] W W'):ChI B W W':=⟨hf.os,hf.tape,hf.output,hf.size,fun k _ h _ => (hf.block k (lt_of_obj h) (by simp)).trans h⟩
theorem ChI.put {B:Nat} {W:World} {l:Nat} {o o':Obj} (hl:W.heap[l]? = some o) (ho:itT o = true) (hB:B ≤ l):ChI B W (W.putObj l o'):=by
  refine ⟨rfl,rfl,rfl,by simp [World.putObj],fun k x hx hk => ?_⟩
  by_cases e:k = l
  · subst e
    rw [hl] at hx
    injection hx with hx
    subst hx
    rcases hk with h | h
    · omega
    · rw [ho] at h; cases h
  · rw [World.putObj_heap_other e]; exact hx
theorem ChI.less {B B':Nat} {W W':World} (h:ChI B W W') (hB:B' ≤ B):ChI B' W W':=⟨h.os,h.tape,h.output,h.size,fun k o hk hc => h.block k o hk (hc.imp (fun h => by omega) id)⟩
theorem KeepsI.refl (E:List (Option Nat)) (b:Nat) (W:World):KeepsI E b W W:=⟨rfl,rfl,rfl,Nat.le_refl _,fun _ _ h _ => h⟩
theorem KeepsI.trans {E:List (Option Nat)} {b:Nat} {x y z:World} (h:KeepsI E b x y) (k:KeepsI E b y z):KeepsI E b x z:=⟨k.os.trans h.os,k.tape.trans h.tape,k.output.trans h.output,Nat.le_trans h.size k.size,fun i o hi hk => k.block i o (h.block i o hi hk) hk⟩
theorem KeepsI.of_fr {E:List (Option Nat)} {b:Nat} {W W':World} (hf:Fr [] W W'):KeepsI E b W W':=⟨hf.os,hf.tape,hf.output,hf.size,fun k _ h _ => (hf.block k (lt_of_obj h) (by simp)).trans h⟩
theorem KeepsI.of_frS {E:List (Option Nat)} {b:Nat} {W W':World} {S:List (Option Nat)} (hf:Fr S W W') (hS:∀ k,some k ∈ S → k < W.heap.size → (b ≤ k ∨ some k ∈ E) ∧ ∃ o,W.heap[k]? = some o ∧ itT o = false):KeepsI E b W W':=by
  refine ⟨hf.os,hf.tape,hf.output,hf.size,fun k o h hk => ?_⟩
  refine (hf.block k (lt_of_obj h) fun hm => ?_).trans h
  obtain ⟨h1,o',h2,h3⟩:=hS k hm (lt_of_obj h)
  rw [h] at h2
  injection h2 with h2
  subst h2
  rcases hk with hk | hk
  · rcases h1 with h1 | h1
    · have:=hk.1; omega
    · exact hk.2 h1
  · rw [h3] at hk; cases hk
def KeepsC (E:List (Option Nat)) (b:Nat) (W W':World):Prop:=W'.os = W.os ∧ W'.tape = W.tape ∧ W'.output = W.output ∧ W.heap.size ≤ W'.heap.size ∧ ∀ k o,W.heap[k]? = some o → ((k < b ∧ some k ∉ E) ∨ (itT o = true ∧ o.isCells = true)) → W'.heap[k]? = some o
theorem KeepsC.put {E:List (Option Nat)} {b l:Nat} {W:World} {o o':Obj} (hl:W.heap[l]? = some o) (ho:o.isCells = false) (hb:b ≤ l):KeepsC E b W (W.putObj l o'):=by
  refine ⟨rfl,rfl,rfl,by simp [World.putObj],fun k x hx hk => ?_⟩
  by_cases e:k = l
  · subst e
    rw [hl] at hx
    injection hx with hx
    subst hx
    rcases hk with h | h
    · have:=h.1; omega
    · rw [ho] at h; cases h.2
  · rw [World.putObj_heap_other e]; exact hx
theorem KeepsC.trans {E:List (Option Nat)} {b:Nat} {x y z:World} (h:KeepsC E b x y) (k:KeepsC E b y z):KeepsC E b x z:=⟨k.1.trans h.1,k.2.1.trans h.2.1,k.2.2.1.trans h.2.2.1,Nat.le_trans h.2.2.2.1 k.2.2.2.1,fun i o hi hk => k.2.2.2.2 i o (h.2.2.2.2 i o hi hk) hk⟩
theorem KeepsI.c {E:List (Option Nat)} {b:Nat} {W W':World} (h:KeepsI E b W W'):KeepsC E b W W':=⟨h.os,h.tape,h.output,h.size,fun k o hk hc => h.block k o hk (hc.imp id fun h => h.1)⟩
variable {E:List (Option Nat)} {F:Fence} {n:Nat} {P:Program}
def SeqX {α:Type} (E:List (Option Nat)) (F:Fence) (n:Nat) (P:Program) (g:Nat) (lb:Array Value) (encs:α → Array Value) (w0:World) (all:List α):Prop :=
  ∀ (l:Nat) (J Jx:List α → World → Prop) (W:World),Fr [] w0 W → StI W.heap.size J → StI W.heap.size Jx →
    (∀ pre x W1,J pre W1 → pre ++ [x] <+: all → YieldAt F (n - 1) P l (encs x) W1 fun e W' =>
      (e = .returned (.bool true) ∧ J (pre ++ [x]) W' ∧ KeepsC E w0.heap.size W1 W') ∨ (e = .returned (.bool false) ∧ Jx (pre ++ [x]) W')) →
    J [] W →
    CallsIn F n P g (#[.func (.yield l) #[] #[]] ++ lb) W fun e W' => (∃ v,e = .returned v) ∧ (J all W' ∨ ∃ pre,Jx pre W')
def bodyX {α:Type} (E:List (Option Nat)) (b:Nat) (I:List α → World → Prop) (Ix:Code → List α → World → Prop) (xs:List α) (W:World):Exit → Act → World → Prop
  | .normal,_,W' => KeepsI E b W W' ∧ I xs W'
  | .ret,_,W' => KeepsI E b W W' ∧ Ix .ret xs W'
  | .exit id,_,W' => KeepsI E b W W' ∧ Ix (.exit id) xs W'
  | _,_,_ => False
theorem range_law {α:Type} {g:Operand} {ps:Array Tmp} {assign body:Code} {Q:Exit → Act → World → Prop} {a:Act} {w:World}
    (hro:F.round = none) (h1:1 ≤ n) {gf:Nat} {lb:Array Value} (hg:a.eval g = .func (.func gf) #[] lb) (hFg:F.fn gf) (eg:∀ args w,(callFunc gf args).run P w = .ok (.enter gf args) w)
    {encs:α → Array Value} {w0:World} {all:List α} (hseq:SeqX E F (n - 1) P gf lb encs w0 all) (hw0:Fr [] w0 w) (hps:∀ x,(encs x).size = ps.size)
    (I:List α → World → Prop) (Ix:Code → List α → World → Prop) (hI:StI w.heap.size I) (hIx:∀ c,StI w.heap.size (Ix c)) (h0:I [] w) (Ax:α → Act → World → Prop) (hAx:∀ x a₁ W l o o',W.heap[l]? = some o → o.isCells = false → Ax x a₁ W → Ax x a₁ (W.putObj l o'))
    (hassign:∀ (l:Nat) (x:α) (W:World) (K:Act → World → Prop),(∀ a₁ W1,Fr [] W W1 → Ax x a₁ W1 → K a₁ W1) →
      assign.wpIn (F.inRound l) (n - 1 - 1) P (Exit.then K (fun _ _ _ => False)) { tmps:=(ps.zip (encs x)).foldl (fun t (p,v) => t.setIfInBounds p v) a.tmps,defers:=[] } W)
    (hbody:∀ (l:Nat) (pre:List α) (x:α) (a₁:Act) (W:World),I pre W → pre ++ [x] <+: all → Ax x a₁ W → body.wpIn (F.inRound l) (n - 1 - 1) P (bodyX E w0.heap.size I Ix (pre ++ [x]) W) a₁ W)
    (hdone:∀ (D:Nat) (W:World),w.heap.size ≤ D → I all W → W.heap[D]? = some (.deferred (some [])) → Q .normal { a with defers:={ target:=.collected D,args:=#[] } :: a.defers } W)
    (hstop:∀ (D:Nat) (c:Code) (pre:List α) (W:World),w.heap.size ≤ D → Ix c pre W → W.heap[D]? = some (.deferred (some [])) → c.wpIn F n P Q { a with defers:={ target:=.collected D,args:=#[] } :: a.defers } W) :
    (Code.rangeFunc g ps assign body).wpIn F n P Q a w:=by
  refine wpIn_rangeFunc fun fn hfn => ?_
  have hn0:w0.heap.size ≤ w.heap.size:=hw0.size
  -- the loop's record
  obtain ⟨rec,hrec⟩:∃ rec:LoopState → Option Code → Loop,rec = fun st pe => { state:=st,pending:=pe,fn,tmps:=a.tmps,params:=ps,assign,body,defers:=w.heap.size }:=⟨_,rfl⟩
  obtain ⟨W1,hW1⟩:∃ W1,W1 = (w.alloc (.deferred (some []))).alloc (.loop (rec .ready none)):=⟨_,rfl⟩
  have hF1:Fr [] w W1:=by rw [hW1]; exact ((Fr.refl [] w).alloc _).alloc _
  have hZ1:W1.heap.size = w.heap.size + 2:=by rw [hW1]; simp
  have hL1:W1.heap[w.heap.size + 1]? = some (.loop (rec .ready none)):=by
    rw [hW1]
    have:=World.alloc_heap_new (w.alloc (.deferred (some []))) (.loop (rec .ready none))
    rwa [World.size_alloc] at this
  have hD1:W1.heap[w.heap.size]? = some (.deferred (some [])):=by
    rw [hW1]
    exact (Below.heap_alloc _ _ _ (by simp)).trans (World.alloc_heap_new w _)
  refine ⟨w.heap.size + 1,[{ target:=.collected w.heap.size,args:=#[] }],W1,{ target:=.fn (.func gf) lb,args:=#[.func (.yield (w.heap.size + 1)) #[] #[]] },W1,gf,#[.func (.yield (w.heap.size + 1)) #[] #[]] ++ lb,W1,?_,?_,?_,?_,fun _ => h1,?_⟩
  · rw [hro,hW1,hrec]; exact run_enterLoop_outer _ _ _ _ _
  · simp only [resolve,hg]
    simp [go_sem]
  · intro f' hf'
    simp [Target.leads] at hf'
    subst hf'
    exact hFg
  · simp [invoke,go_sem,eg]
  · -- what the loop knows between two rounds
    have hst:∀ {K:List α → World → Prop},StI w.heap.size K → ∀ st pe,StI W1.heap.size fun s W => K s W ∧ W.heap[w.heap.size + 1]? = some (.loop (rec st pe)) ∧ W.heap[w.heap.size]? = some (.deferred (some [])):=fun hK st pe s W W' ⟨q1,q2,q3⟩ hc =>
      ⟨hK s W W' q1 (hc.less hF1.size),hc.block _ _ q2 (.inl (by omega)),hc.block _ _ q3 (.inl (by omega))⟩
    have hput:∀ {K:List α → World → Prop},StI w.heap.size K → ∀ {s W r} (r':Loop),K s W → W.heap[w.heap.size + 1]? = some (.loop r) → K s (W.putObj (w.heap.size + 1) (.loop r')):=fun hK s W r r' hk hl => hK _ _ _ hk (ChI.put hl rfl (by omega))
    refine (hseq (w.heap.size + 1) (fun pre W => I pre W ∧ W.heap[w.heap.size + 1]? = some (.loop (rec .ready none)) ∧ W.heap[w.heap.size]? = some (.deferred (some [])))
      (fun pre W => ∃ c,Ix c pre W ∧ W.heap[w.heap.size + 1]? = some (.loop (rec .done (some c))) ∧ W.heap[w.heap.size]? = some (.deferred (some []))) W1 (hw0.trans hF1) (hst hI _ _)
      (fun s W W' ⟨c,hc⟩ hch => ⟨c,hst (hIx c) _ _ s W W' hc hch⟩) ?_ ⟨hI _ _ _ h0 (ChI.of_fr hF1),hL1,hD1⟩).mono ?_
    · rintro pre x W0 ⟨hi,hl,hk⟩ hpx
      have hy:=run_yield (P:=P) (args:=encs x) hl (by rw [hrec]; exact hps x)
      rw [hrec] at hy
      refine ⟨fn,_,assign,body,hy,roundIn_of_wpIn hfn (hassign _ x W0 _ fun a₁ W hfa hax => ?_)⟩
      have hi:=hI _ _ _ hi (ChI.of_fr hfa)
      have hl:=(hfa.block _ (lt_of_obj hl) (by simp)).trans hl
      have hk:=(hfa.block _ (lt_of_obj hk) (by simp)).trans hk
      have hlt:=lt_of_obj hl
      have hc0:KeepsC E w0.heap.size W0 W:=(KeepsI.of_fr hfa).c
      refine ⟨_,run_beginRound hl (by rw [hrec]),?_⟩
      have hl2:(W.putObj (w.heap.size + 1) (.loop { rec .ready none with state:=.busy })).heap[w.heap.size + 1]? = some (.loop { rec .ready none with state:=.busy }):=World.putObj_heap_same hlt
      have hk2:(W.putObj (w.heap.size + 1) (.loop { rec .ready none with state:=.busy })).heap[w.heap.size]? = some (.deferred (some [])):=(World.putObj_heap_other (by omega)).trans hk
      have hc2:KeepsC E w0.heap.size W (W.putObj (w.heap.size + 1) (.loop { rec .ready none with state:=.busy })):=KeepsC.put hl rfl (by omega)
      refine wpIn_mono (hbody _ pre x a₁ _ (hput hI _ hi hl) hpx (hAx _ _ _ _ _ _ hl rfl hax)) ?_
      have fin:∀ (jump:Option Code) (W3:World),KeepsI E w0.heap.size (W.putObj (w.heap.size + 1) (.loop { rec .ready none with state:=.busy })) W3 →
          (Instr.endRound (w.heap.size + 1) jump).run P W3 = .ok (.bool jump.isNone) (W3.putObj (w.heap.size + 1) (.loop (rec (if jump.isNone then .ready else .done) jump))) ∧
          W3.heap[w.heap.size + 1]? = some (.loop { rec .ready none with state:=.busy }) ∧
          (W3.putObj (w.heap.size + 1) (.loop (rec (if jump.isNone then .ready else .done) jump))).heap[w.heap.size + 1]? = some (.loop (rec (if jump.isNone then .ready else .done) jump)) ∧
          (W3.putObj (w.heap.size + 1) (.loop (rec (if jump.isNone then .ready else .done) jump))).heap[w.heap.size]? = some (.deferred (some [])):=by
        intro jump W3 hk3
        have hl3:=hk3.block _ _ hl2 (.inr rfl)
        have hr:=run_endRound (P:=P) jump hl3
        rw [hrec] at hr hl3 ⊢
        exact ⟨hr,hl3,World.putObj_heap_same (lt_of_obj hl3),(World.putObj_heap_other (by omega)).trans (hk3.block _ _ hk2 (.inr rfl))⟩
      intro e a3 W3 hp
      cases e with
      | normal =>
        obtain ⟨hk3,hi3⟩:=hp
        obtain ⟨hr,hl3,hl4,hk4⟩:=fin none W3 hk3
        exact ⟨_,_,hr,.inl ⟨rfl,⟨hput hI _ hi3 hl3,hl4,hk4⟩,((hc0.trans hc2).trans hk3.c).trans (KeepsC.put hl3 rfl (by omega))⟩⟩
      | ret =>
        obtain ⟨hk3,hi3⟩:=hp
        obtain ⟨hr,hl3,hl4,hk4⟩:=fin (some .ret) W3 hk3
        exact ⟨_,_,hr,.inr ⟨rfl,.ret,hput (hIx _) _ hi3 hl3,hl4,hk4⟩⟩
      | exit id =>
        obtain ⟨hk3,hi3⟩:=hp
        obtain ⟨hr,hl3,hl4,hk4⟩:=fin (some (.exit id)) W3 hk3
        exact ⟨_,_,hr,.inr ⟨rfl,.exit id,hput (hIx _) _ hi3 hl3,hl4,hk4⟩⟩
      | goto t => exact hp.elim
      | panic ch => exact hp.elim
      | outgrown => exact hp.elim
    · rintro e W2 ⟨⟨v,rfl⟩,(⟨hi,hl,hk⟩ | ⟨pre,c,hi,hl,hk⟩)⟩
      · have hr:=run_endLoop (P:=P) hl (by rw [hrec]; simp)
        rw [hrec] at hr
        exact ⟨none,_,hr,hdone _ _ (Nat.le_refl _) (hput hI _ hi hl) ((World.putObj_heap_other (by omega)).trans hk)⟩
      · have hr:=run_endLoop (P:=P) hl (by rw [hrec]; simp)
        rw [hrec] at hr
        exact ⟨some c,_,hr,hstop _ c pre _ (Nat.le_refl _) (hput (hIx c) _ hi hl) ((World.putObj_heap_other (by omega)).trans hk)⟩
end Go.Proofs.YteohomdiklkbfaaGreat
namespace Go.Proofs.YteohomdiklkbfaaGreat
open Go.RowKit Go.Shelf Go.Proofs.Dm
variable {E:List (Option Nat)}
attribute [local go_sem] Oper.semAt_some

def allR (xs:List RV) (i j:Nat):List (Nat × RV):=(List.range' i (j - i)).map fun k => (k,xs.getD k RV.none)
def encR (x:Nat × RV):Array Value:=#[.int .i64 (x.1:Nat),x.2.val]
theorem allR_len (xs:List RV) (i j:Nat):(allR xs i j).length = j - i:=by simp [allR]
theorem allR_snoc (xs:List RV) (i q j:Nat) (h1:i ≤ q) (h2:q < j):allR xs i (q + 1) = allR xs i q ++ [(q,xs.getD q RV.none)] ∧ allR xs i q ++ [(q,xs.getD q RV.none)] <+: allR xs i j:=by
  have key:allR xs i (q + 1) = allR xs i q ++ [(q,xs.getD q RV.none)]:=by
    unfold allR
    rw [show q + 1 - i = (q - i) + 1 by omega,List.range'_1_concat,List.map_append,show i + (q - i) = q by omega]
    rfl
  refine ⟨key,?_⟩
  rw [← key]
  refine ⟨(List.range' (q + 1) (j - (q + 1))).map fun k => (k,xs.getD k RV.none),?_⟩
  unfold allR
  rw [← List.map_append]
  congr 1
  have:=List.range'_append (s:=i) (m:=q + 1 - i) (n:=j - (q + 1)) (step:=1)
  rw [show i + 1 * (q + 1 - i) = q + 1 by omega,show q + 1 - i + (j - (q + 1)) = j - i by omega] at this
  exact this
theorem low {w:World}:∀ {h lo g:Nat} {xs:List RV},NodeAt TN E w h lo g xs → 1 ≤ lo → (0 < h → 2 ≤ lo) → h + 1 ≤ xs.length
  | 0,_,_,_,hn,h1,_ => Nat.le_trans h1 hn.1
  | h + 1,lo,_,_,⟨ks,A,c,h0,_,_,hx,_,_,hks⟩,h1,h2 => by
    have h2':=h2 (by omega)
    match ks,h0,hx,hks with
    | [],h0,_,_ => simp at h0; omega
    | [_],h0,_,_ => simp at h0; omega
    | a :: b :: ks,_,hx,hks =>
      have l1:=low (hks a (List.mem_cons_self ..)) (by omega) (fun _ => by omega)
      have l2:=(hks b (List.mem_cons_of_mem _ (List.mem_cons_self ..))).pos (by omega)
      rw [hx]
      simp
      omega
def TopLe (E:List (Option Nat)) (w:World) (N:Nat) (fs:List (Nat × Nat × Nat)) (L:List RV):Prop :=
  ∃ (g a nx:Nat) (fs2:List (Nat × Nat × Nat)) (lo:Nat) (xs rest:List RV),fs = (g,a,nx) :: fs2 ∧ NodeAt TN E w 0 lo g xs ∧ nx ≤ xs.length ∧ AncAt E w N 0 fs2 a xs.length rest ∧ L = xs.drop nx ++ rest
theorem TopAt.le {w:World} {N:Nat} {fs:List (Nat × Nat × Nat)} {L:List RV} (h:TopAt E w N fs L):TopLe E w N fs L:=by
  obtain ⟨g,a,nx,fs2,lo,xs,rest,h1,h2,h3,h4,h5⟩:=h
  exact ⟨g,a,nx,fs2,lo,xs,rest,h1,h2,by omega,h4,h5⟩
theorem chI_of_stk {w0 w w':World} {B gs c:Nat} {A A':Option Addr} {fs:List (Nat × Nat × Nat)} (h:StkOf E w0 w gs A c fs) (hg:B ≤ gs) (hA:∀ j,bk A = some j → B ≤ j) (hc:StkCh gs w w' A A'):ChI B w w':=by
  obtain ⟨S,h1,h2,h3⟩:=hc
  refine ⟨h1.os,h1.tape,h1.output,h1.size,fun k o hk ho => ?_⟩
  refine (h1.block k (lt_of_obj hk) fun hm => ?_).trans hk
  rcases h2 k hm with e | e | e
  · subst e
    have hb:=h.1.1
    unfold Blk at hb
    rw [hb] at hk
    injection hk with hk
    subst hk
    rcases ho with ho | ho
    · omega
    · simp [itT] at ho
  · have hbk:=hA k e
    rcases h.1.2.1.2 with ⟨he,_⟩ | ⟨g,cap,cur,he,_,hgg,_⟩
    · injection he with he; rw [he] at e; cases e
    · injection he with he
      rw [he] at e
      injection e with e
      subst e
      rw [hgg] at hk
      injection hk with hk
      subst hk
      rcases ho with ho | ho
      · omega
      · simp [itT] at ho
  · have:=lt_of_obj hk; omega
theorem StkOf.keeps {w0 w w':World} {gs c:Nat} {A:Option Addr} {fs:List (Nat × Nat × Nat)} (h:StkOf E w0 w gs A c fs) (hk:KeepsC E w0.heap.size w w'):StkOf E w0 w' gs A c fs:=by
  obtain ⟨⟨h1,h2,h3⟩,h4,h5,h6⟩:=h
  refine ⟨⟨hk.2.2.2.2 _ _ h1 (.inr ⟨by simp [itT],rfl⟩),⟨h2.1,?_⟩,h3⟩,⟨hk.1.trans h4.os,hk.2.1.trans h4.tape,hk.2.2.1.trans h4.output,Nat.le_trans h4.size hk.2.2.2.1,fun k hlt hn => ?_⟩,h5,h6⟩
  · rcases h2.2 with h0 | ⟨g,cap,cur,he,hb,hg,rest⟩
    · exact .inl h0
    · exact .inr ⟨g,cap,cur,he,hb,hk.2.2.2.2 _ _ hg (.inr ⟨by simp [itT],rfl⟩),rest⟩
  · have hold:=h4.block k hlt hn
    have hget:w0.heap[k]? = some w0.heap[k]:=Array.getElem?_eq_getElem hlt
    rw [hget] at hold ⊢
    exact hk.2.2.2.2 k _ hold (.inl ⟨hlt,hn⟩)
theorem newA_ch {gs B:Nat} {w w':World} {A A':Option Addr} (hA:∀ j,bk A = some j → B ≤ j) (hB:B ≤ w.heap.size) (hc:StkCh gs w w' A A'):∀ j,bk A' = some j → B ≤ j:=fun j hj => by
  obtain ⟨S,_,_,h3⟩:=hc
  rcases h3 with h | ⟨i,h,hi⟩
  · exact hA j (by rw [← h]; exact hj)
  · rw [h] at hj; injection hj with hj; omega
end Go.Proofs.YteohomdiklkbfaaGreat
