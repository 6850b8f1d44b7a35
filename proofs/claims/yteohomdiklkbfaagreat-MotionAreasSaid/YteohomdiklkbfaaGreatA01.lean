import Derived.WalkKit
import Derived.Laws.OwnMore
import Derived.Deep.Draws
import Derived.Deep.AppendLies
import Derived.Deep.QuietTactic
import Derived.BigQuiet
import Derived.StillTailTactics
import Derived.Lib.Hide
import Derived.Maps.AppendAt
import Derived.Deep.DeepMust
import Derived.Deep.DeepFit
import Derived.Outline
import Derived.WalkSpells
import Derived.ChangeSame
import Derived.Below
import Derived.WalkLawsBesides
/-!
A block that is known whole; a frame that names the blocks that may be written; rows of a call's own.
-/
namespace Go.Proofs.Dm
open Go.RowKit

def Blk (w:World) (g:Nat) (t:TypeId) (cs:Array Value):Prop:=w.heap[g]? = some (.cells cs t (0,0))

section
variable {w w':World} {g:Nat} {t:TypeId} {cs:Array Value}
theorem Blk.lt (h:Blk w g t cs):g < w.heap.size:=by
  rcases Nat.lt_or_ge g w.heap.size with hlt | hge
  · exact hlt
  · unfold Blk at h; rw [Array.getElem?_eq_none hge] at h; cases h
theorem Blk.cell (h:Blk w g t cs) (i:Nat):w.cell? ⟨g,i,none⟩ = cs[i]?:=cell_of_row w g i cs t (0,0) h
theorem Blk.frozen (h:Blk w g t cs) (i:Nat):w.frozen? ⟨g,i,none⟩ = false:=by
  unfold Blk at h
  simp [World.frozen?,h]
theorem Blk.new (w:World) (t:TypeId) (cs:Array Value):Blk (w.alloc (.cells cs t)) w.heap.size t cs:=heap_alloc_new w _
theorem Blk.drew (h:Blk w g t cs):Blk w.drew g t cs:=h
theorem Blk.drewN (h:Blk w g t cs) (n:Nat):Blk (w.drewN n) g t cs:=h
theorem Blk.alloc (h:Blk w g t cs) (o:Obj):Blk (w.alloc o) g t cs:=(Below.heap_alloc w o g h.lt).trans h
theorem Blk.set_ (h:Blk w g t cs) (i:Nat) (u:Value):Blk (w.setCell ⟨g,i,none⟩ u) g t (cs.setIfInBounds i u):=by
  unfold Blk at h ⊢
  simp [World.setCell,Array.getElem?_modify,h]
theorem Blk.far (h:Blk w g t cs) {p:Addr} (hp:g ≠ p.block) (u:Value):Blk (w.setCell p u) g t cs:=(Below.heap_setCell w p u g hp).trans h
end

structure Fr (S:List (Option Nat)) (w w':World):Prop where
  os:w'.os = w.os
  tape:w'.tape = w.tape
  output:w'.output = w.output
  size:w.heap.size ≤ w'.heap.size
  block:∀ k,k < w.heap.size → some k ∉ S → w'.heap[k]? = w.heap[k]?

theorem Fr.refl (S:List (Option Nat)) (w:World):Fr S w w:=⟨rfl,rfl,rfl,Nat.le_refl _,fun _ _ _ => rfl⟩
theorem Fr.trans {S:List (Option Nat)} {a b c:World} (h:Fr S a b) (k:Fr S b c):Fr S a c :=
  ⟨k.os.trans h.os,k.tape.trans h.tape,k.output.trans h.output,Nat.le_trans h.size k.size,fun i hi hs => (k.block i (Nat.lt_of_lt_of_le hi h.size) hs).trans (h.block i hi hs)⟩
theorem Fr.then {S S':List (Option Nat)} {a b c:World} (h:Fr S a b) (k:Fr S' b c) (hs:∀ i,i < a.heap.size → some i ∈ S' → some i ∈ S):Fr S a c :=
  ⟨k.os.trans h.os,k.tape.trans h.tape,k.output.trans h.output,Nat.le_trans h.size k.size,fun i hi hn => (k.block i (Nat.lt_of_lt_of_le hi h.size) (fun e => hn (hs i hi e))).trans (h.block i hi hn)⟩
theorem Fr.weaken {S S':List (Option Nat)} {a b:World} (h:Fr S a b) (hs:∀ i,i < a.heap.size → some i ∈ S → some i ∈ S'):Fr S' a b :=
  ⟨h.os,h.tape,h.output,h.size,fun i hi hn => h.block i hi fun e => hn (hs i hi e)⟩
theorem Fr.drew {S:List (Option Nat)} {a w:World} (h:Fr S a w):Fr S a w.drew:=⟨h.os,h.tape,h.output,h.size,h.block⟩
theorem Fr.drewN {S:List (Option Nat)} {a w:World} (h:Fr S a w) (n:Nat):Fr S a (w.drewN n):=⟨h.os,h.tape,h.output,h.size,h.block⟩
theorem Fr.alloc {S:List (Option Nat)} {a w:World} (h:Fr S a w) (o:Obj):Fr S a (w.alloc o) :=
  h.then (S':=[]) ⟨rfl,rfl,rfl,by simp,fun k hk _ => Below.heap_alloc _ _ _ hk⟩ (fun _ _ e => by simp at e)
theorem Fr.setB {S:List (Option Nat)} {a w:World} (h:Fr S a w) {g:Nat} (hg:g < a.heap.size → some g ∈ S) (i:Nat) (u:Value):Fr S a (w.setCell ⟨g,i,none⟩ u) :=
  h.then (S':=[some g]) ⟨rfl,rfl,rfl,by simp [World.setCell],fun k _ hk => Below.heap_setCell _ _ _ _ (by simpa using hk)⟩ (fun i hi e => by simp at e; subst e; exact hg hi)
theorem Fr.grown {S:List (Option Nat)} {a w w':World} {row:Option Nat} (h:Fr S a w) (hg:w.grownBy w' row) (hr:∀ k,row = some k → k < a.heap.size → some k ∈ S):Fr S a w' :=
  h.then (S':=[row]) ⟨hg.os,hg.tape,hg.output,hg.size,fun k hk hn => hg.block k hk (by simpa using hn)⟩ (fun i hi e => by simp at e; exact hr i e.symm hi)
theorem Fr.cell {S:List (Option Nat)} {w w':World} (h:Fr S w w') {p:Addr} (hp:p.block < w.heap.size) (hn:some p.block ∉ S):w'.cell? p = w.cell? p:=World.cell?_of_block (w:=w) (h.block p.block hp hn)
theorem Blk.fr {S:List (Option Nat)} {w w':World} {g:Nat} {t:TypeId} {cs:Array Value} (h:Blk w g t cs) (hf:Fr S w w') (hn:some g ∉ S):Blk w' g t cs:=(hf.block g h.lt hn).trans h

structure FrU (U:Nat → Prop) (w0 w:World):Prop where
  os:w.os = w0.os
  tape:w.tape = w0.tape
  output:w.output = w0.output
  size:w0.heap.size ≤ w.heap.size
  dom:∀ k,U k → k < w0.heap.size
  block:∀ k,U k → w.heap[k]? = w0.heap[k]?
theorem FrU.refl (U:Nat → Prop) (w:World) (h:∀ k,U k → k < w.heap.size):FrU U w w:=⟨rfl,rfl,rfl,Nat.le_refl _,h,fun _ _ => rfl⟩
theorem FrU.seq {U:Nat → Prop} {S:List (Option Nat)} {w0 a b:World} (h:FrU U w0 a) (k:Fr S a b) (hs:∀ i,some i ∈ S → ¬ U i):FrU U w0 b :=
  ⟨k.os.trans h.os,k.tape.trans h.tape,k.output.trans h.output,Nat.le_trans h.size k.size,h.dom,fun i hi => (k.block i (Nat.lt_of_lt_of_le (h.dom i hi) h.size) (fun e => hs i e hi)).trans (h.block i hi)⟩
theorem FrU.trans {U:Nat → Prop} {w0 a b:World} (h:FrU U w0 a) (k:Fr [] a b):FrU U w0 b:=h.seq k (by simp)
theorem FrU.alloc {U:Nat → Prop} {w0 a:World} (h:FrU U w0 a) (o:Obj):FrU U w0 (a.alloc o):=h.seq ((Fr.refl [] a).alloc o) (by simp)
theorem FrU.setB {U:Nat → Prop} {w0 a:World} (h:FrU U w0 a) {g:Nat} (hg:¬ U g) (i:Nat) (u:Value):FrU U w0 (a.setCell ⟨g,i,none⟩ u) :=
  h.seq ((Fr.refl [some g] a).setB (g:=g) (by simp) i u) (by simpa using hg)
theorem FrU.new {U:Nat → Prop} {w0 a:World} (h:FrU U w0 a) {j:Nat} (hj:a.heap.size ≤ j):¬ U j:=fun hu => by have:=h.dom j hu; have:=h.size; omega
theorem FrU.fr {w0 w:World} (h:FrU (· < w0.heap.size) w0 w):Fr [] w0 w:=⟨h.os,h.tape,h.output,h.size,fun k hk _ => h.block k hk⟩
theorem FrU.of_fr {w0 w:World} (h:Fr [] w0 w):FrU (· < w0.heap.size) w0 w:=⟨h.os,h.tape,h.output,h.size,fun _ hk => hk,fun k hk => h.block k hk (by simp)⟩

def bk (A:Option Addr):Option Nat:=A.map Addr.block
theorem ownBlock_bk (A:Option Addr) (n c:Nat):(Value.slice A n c).ownBlock = bk A:=by cases A <;> rfl

def Sl (w:World) (A:Option Addr) (cs:List Value):Prop:=cs = [] ∨ ∃ ad,A = some ad ∧ ∀ j u,cs[j]? = some u → w.cell? (ad.add j) = some u
theorem Sl.nil_ (w:World) (A:Option Addr):Sl w A []:=.inl rfl
theorem Sl.at_ {w:World} {A:Option Addr} {cs:List Value} (h:Sl w A cs) {k:Nat} {u:Value} (hu:cs[k]? = some u):∃ ad,A = some ad ∧ ad.block < w.heap.size ∧ w.cell? (ad.add k) = some u:=by
  rcases h with h | ⟨ad,rfl,hc⟩
  · subst h; simp at hu
  · have hb:=World.block_lt_of_cell? w _ (hc k u hu)
    refine ⟨ad,rfl,?_,hc k u hu⟩
    have:(ad.add k).block = ad.block:=by unfold Addr.add; split <;> rfl
    omega
theorem Sl.take {w:World} {A:Option Addr} {cs:List Value} (h:Sl w A cs) (m:Nat):Sl w A (cs.take m):=by
  rcases h with h | ⟨ad,rfl,hc⟩
  · subst h; exact .inl (by simp)
  · refine .inr ⟨ad,rfl,fun j u hu => hc j u ?_⟩
    rw [List.getElem?_take] at hu
    split at hu
    · exact hu
    · cases hu
theorem block_add (a:Addr) (n:Nat):(a.add n).block = a.block:=by unfold Addr.add; split <;> rfl
theorem Sl.fr {S:List (Option Nat)} {w w':World} {A:Option Addr} {cs:List Value} (h:Sl w A cs) (hf:Fr S w w') (hn:bk A = none ∨ bk A ∉ S):Sl w' A cs:=by
  rcases h with h | ⟨ad,rfl,hc⟩
  · exact .inl h
  · refine .inr ⟨ad,rfl,fun j u hu => ?_⟩
    have hw:=hc j u hu
    have hlt:=World.block_lt_of_cell? w _ hw
    rw [block_add] at hlt
    rw [← hw]
    refine hf.cell (by rw [block_add]; exact hlt) ?_
    rw [block_add]
    rcases hn with hn | hn
    · simp [bk] at hn
    · simpa [bk] using hn

theorem Fr.seq {S S':List (Option Nat)} {a b c:World} (h:Fr S a b) (k:Fr S' b c) (hs:∀ x ∈ S',x ∈ S ∨ x = none ∨ ∃ j,a.heap.size ≤ j ∧ x = some j):Fr S a c :=
  h.then k fun i hi e => by
    rcases hs _ e with h | h | ⟨j,hj,h⟩
    · exact h
    · cases h
    · injection h with h; omega

def ORow (w:World) (e:TypeId) (sz:Nat) (A:Option Addr) (c n:Nat) (cs:List Value):Prop:=w.ownsRow 0 e sz (.slice A n c) n cs
section
variable {w w':World} {e:TypeId} {sz c n:Nat} {A:Option Addr} {cs:List Value}
theorem ORow.nil_ (w:World) (e:TypeId) (sz:Nat):ORow w e sz none 0 0 []:=World.ownsRow_nil _ _ _ _
theorem ORow.made (w:World) (e:TypeId) (sz:Nat):ORow (w.alloc (.cells #[] e)) e sz (some ⟨w.heap.size,0,none⟩) 0 0 []:=World.ownsRow_made w #[] 0 (Nat.zero_le _) (Nat.zero_le _) (by simp)
theorem ORow.len (h:ORow w e sz A c n cs):cs.length = n * sz:=h.1
theorem ORow.fr {S:List (Option Nat)} (h:ORow w e sz A c n cs) (hf:Fr S w w') (hn:bk A = none ∨ bk A ∉ S):ORow w' e sz A c n cs:=by
  refine ⟨h.1,?_⟩
  rcases h.2 with hn' | ⟨g,cap,cur,he,hb,hgg,rest⟩
  · exact .inl hn'
  · refine .inr ⟨g,cap,cur,he,hb,?_,rest⟩
    injection he with he _ _
    subst he
    have hn':some g ∉ S:=by
      rcases hn with hn | hn
      · simp [bk] at hn
      · simpa [bk] using hn
    rw [hf.block g (Array.getElem?_eq_some_iff.1 hgg).1 hn']
    exact hgg
theorem ORow.lt (h:ORow w e sz A c n cs) {k:Nat} (hk:bk A = some k):k < w.heap.size:=(World.ownsRow.lt h k (by rw [ownBlock_bk]; exact hk)).2
theorem ORow.sl (h:ORow w e sz A c n cs):Sl w A cs:=by
  cases A with
  | none =>
    rcases h.2 with ⟨_,h0⟩ | ⟨g,cap,cur,he,_⟩
    · exact .inl (List.eq_nil_of_length_eq_zero (by rw [h.1,h0]; omega))
    · injection he with he; cases he
  | some ad =>
    refine .inr ⟨ad,rfl,fun j u hu => ?_⟩
    rcases h.2 with ⟨he,_⟩ | ⟨g,cap,cur,he,_⟩
    · injection he with he; cases he
    · injection he with he _ _
      injection he with he
      subst he
      exact World.ownsRow.cells h (g:=g) rfl j u hu
theorem ORow.cap (h:ORow w e sz A c n cs):n ≤ c:=by
  rcases h.2 with ⟨he,h0⟩ | ⟨g,cap,cur,he,_,_,h1,_⟩
  · injection he with _ _ hc; omega
  · injection he with _ _ hc; omega
theorem run_app {P:Program} (w:World) (t ty e:TypeId) (z:Value) (sz bytes:Nat)
    (ht:P.underlying t = some (.slice e)) (hinfo:(P.info? e).map (fun i => (i.zero,i.size,i.bytes)) = some (some z,sz,bytes)) (hzs:z.cells.size = sz) (hsz:0 < sz)
    (A:Option Addr) (c n:Nat) (cs:List Value) (hown:ORow w e sz A c n cs) (A2:Option Addr) (m c2:Nat) (news:List Value)
    (hl:news.length = m * sz) (hsl:Sl w A2 news) (h1:∀ u ∈ news,u.oneCell' = true) (h63:n + m ≤ maxLen) (hbytes:(n + m) * bytes ≤ 140737488355328) :
    ∃ A' c' w',(Builtin.append_ #[t,t] ty #[.slice A n c,.slice A2 m c2]).run P w = .ok (.slice A' (n + m) c') w' ∧ ORow w' e sz A' c' (n + m) (cs ++ news) ∧ Fr [bk A] w w' ∧ (bk A' = bk A ∨ bk A' = some w.heap.size):=by
  obtain ⟨i0,hi,hz0,hz1,hz2⟩:=info_parts hinfo
  rcases Nat.eq_zero_or_pos m with h0 | h0
  · subst h0
    have hn:news = []:=List.eq_nil_of_length_eq_zero (by simpa using hl)
    subst hn
    refine ⟨A,c,w,?_,by simpa using hown,Fr.refl _ _,.inl rfl⟩
    rcases A with _ | ad
    · have hn0:n = 0 ∧ c = 0:=by
        rcases hown.2 with ⟨he,h0⟩ | ⟨g,cap,cur,he,_⟩
        · injection he with _ _ hc; exact ⟨h0,hc⟩
        · injection he with he; cases he
      obtain ⟨rfl,rfl⟩:=hn0
      cases A2 <;> simp [Builtin.append_,run_underlying ht,sizeOf,typeInfo,hi,Builtin.lenOf,Builtin.firstCells,loadCells,loadCellsFrom]
    · have hnc:n ≤ c:=hown.cap
      cases A2 <;> simp [Builtin.append_,run_underlying ht,sizeOf,typeInfo,hi,Builtin.lenOf,Builtin.firstCells,hnc,loadCells,loadCellsFrom,storeCells]
  · have hpos:0 < m * sz:=Nat.mul_pos h0 hsz
    rcases hsl with hsl | ⟨ad,rfl,hc⟩
    · subst hsl; simp at hl; omega
    · obtain ⟨v',w',hr,ho',hg,_,hb⟩:=run_append_own_at (P:=P) w 0 t ty e i0 z sz bytes ht hi hz0 hz1 hz2 hzs hsz (.slice A n c) n cs hown ad m c2 news hl hc h1 h63 hbytes (Nat.zero_le _)
      have hsh:∃ A' c',v' = .slice A' (n + m) c':=by
        rcases ho'.2 with ⟨_,h0⟩ | ⟨g,cap,cur,rfl,_⟩
        · omega
        · exact ⟨_,cap,rfl⟩
      obtain ⟨A',c',rfl⟩:=hsh
      exact ⟨A',c',w',hr,ho',(Fr.refl _ w).grown hg (fun k hk _ => by rw [ownBlock_bk] at hk; simp [hk]),by simpa only [ownBlock_bk] using hb⟩

theorem wp_app {P:Program} (w:World) {o:Oper} {a:Act} {K:Act → World → Prop} {Q:Exit → Act → World → Prop} (s x:Operand) (t e:TypeId)
    (ho:o.op = .call { callee:=.builtin .append,args:=#[s,x],argTypes:=#[t,t] }) (z:Value) (sz bytes:Nat)
    (ht:P.underlying t = some (.slice e)) (hinfo:(P.info? e).map (fun i => (i.zero,i.size,i.bytes)) = some (some z,sz,bytes)) (hzs:z.cells.size = sz) (hsz:0 < sz)
    (A:Option Addr) (c n:Nat) (cs:List Value) (hs:a.eval s = .slice A n c) (hown:ORow w e sz A c n cs) (A2:Option Addr) (m c2:Nat) (news:List Value) (hx:a.eval x = .slice A2 m c2)
    (hl:news.length = m * sz) (hsl:Sl w A2 news) (h1:∀ u ∈ news,u.oneCell' = true) (h63:n + m ≤ maxLen) (hbytes:(n + m) * bytes ≤ 140737488355328)
    (h:∀ A' c' w',ORow w' e sz A' c' (n + m) (cs ++ news) → Fr [bk A] w w' → (bk A' = bk A ∨ bk A' = some w.heap.size) → K (a.put o.dst (.slice A' (n + m) c')) w'):o.wp P a w K Q:=by
  obtain ⟨A',c',w',hr,h2,h3,h4⟩:=run_app (P:=P) w t o.type e z sz bytes ht hinfo hzs hsz A c n cs hown A2 m c2 news hl hsl h1 h63 hbytes
  unfold Oper.wp execOp
  simp only [ho,resolve,invoke,builtin,Sem.run_bind,Sem.run_pure,Result.andThen_ok,List.map_toArray,List.map_cons,List.map_nil,hs,hx,hr]
  exact h _ _ _ h2 h3 h4

theorem wpList_app {P:Program} (w:World) {ops:Array Oper} {rest:List Oper} {o:Oper} {a:Act} {Q:Exit → Act → World → Prop} (hgd:o.guard = none) (s x:Operand) (t e:TypeId)
    (ho:o.op = .call { callee:=.builtin .append,args:=#[s,x],argTypes:=#[t,t] }) (z:Value) (sz bytes:Nat)
    (ht:P.underlying t = some (.slice e)) (hinfo:(P.info? e).map (fun i => (i.zero,i.size,i.bytes)) = some (some z,sz,bytes)) (hzs:z.cells.size = sz) (hsz:0 < sz)
    (A:Option Addr) (c n:Nat) (cs:List Value) (hs:a.eval s = .slice A n c) (hown:ORow w e sz A c n cs) (A2:Option Addr) (m c2:Nat) (news:List Value) (hx:a.eval x = .slice A2 m c2)
    (hl:news.length = m * sz) (hsl:Sl w A2 news) (h1:∀ u ∈ news,u.oneCell' = true) (h63:n + m ≤ maxLen) (hbytes:(n + m) * bytes ≤ 140737488355328)
    (h:∀ A' c' w',ORow w' e sz A' c' (n + m) (cs ++ news) → Fr [bk A] w w' → (bk A' = bk A ∨ bk A' = some w.heap.size) → wpList P ops Q rest (a.put o.dst (.slice A' (n + m) c')) w') :
    wpList P ops Q (o :: rest) a w :=
  wpList_plain hgd fun _ hK => wp_app w s x t e ho z sz bytes ht hinfo hzs hsz A c n cs hs hown A2 m c2 news hx hl hsl h1 h63 hbytes fun A' c' w' h2 h3 h4 => hK _ _ (h A' c' w' h2 h3 h4)
end

def ints (xs:List Int):List Value:=xs.map (Value.int .i64)
def IRow (w:World) (e:TypeId) (A:Option Addr) (c:Nat) (xs:List Int):Prop:=ORow w e 1 A c xs.length (ints xs)
section
variable {w w':World} {e:TypeId} {c:Nat} {A:Option Addr} {xs:List Int}
theorem IRow.nil_ (w:World) (e:TypeId):IRow w e none 0 []:=ORow.nil_ _ _ _
theorem IRow.fr {S:List (Option Nat)} (h:IRow w e A c xs) (hf:Fr S w w') (hn:bk A = none ∨ bk A ∉ S):IRow w' e A c xs:=ORow.fr h hf hn
theorem IRow.lt (h:IRow w e A c xs) {k:Nat} (hk:bk A = some k):k < w.heap.size:=ORow.lt h hk
theorem IRow.sl (h:IRow w e A c xs):Sl w A (ints xs):=ORow.sl h
end
theorem sl_new (w:World) (v:Value) (t:TypeId):Sl (w.alloc (.cells #[v] t)) (some ⟨w.heap.size,0,none⟩) [v]:=.inr ⟨_,rfl,cell_one_new w v t⟩

section
open Go.WideShapes Go.ChangeShapes
variable {H:Type} {enc:TypeId × Value → H} {P:Program}
end

end Go.Proofs.Dm
/-!
What stays,whatever is written but to the blocks that E names,and to new ones.
-/
namespace Go.Proofs.Dm
open Go.RowKit

def Kp (E:List (Option Nat)) (w:World) (P:World → Prop):Prop:=∀ w',Fr E w w' → P w'
theorem Fr.of_nil {E:List (Option Nat)} {w w':World} (h:Fr [] w w'):Fr E w w':=h.weaken (fun _ _ e => by simp at e)
section
variable {E E':List (Option Nat)} {w w':World} {P Q:World → Prop}
theorem Kp.now (h:Kp E w P):P w:=h w (Fr.refl _ _)
theorem Kp.fr (h:Kp E w P) (hf:Fr E w w'):Kp E w' P:=fun _ k => h _ (hf.trans k)
theorem Kp.fr0 (h:Kp E w P) (hf:Fr [] w w'):Kp E w' P:=h.fr hf.of_nil
theorem Kp.mono (h:Kp E w P) (k:∀ w',P w' → Q w'):Kp E w Q:=fun _ hf => k _ (h _ hf)
theorem Kp.and (h:Kp E w P) (k:Kp E w Q):Kp E w (fun w => P w ∧ Q w):=fun _ hf => ⟨h _ hf,k _ hf⟩
theorem Kp.left (h:Kp E w (fun w => P w ∧ Q w)):Kp E w P:=fun _ hf => (h _ hf).1
theorem Kp.right (h:Kp E w (fun w => P w ∧ Q w)):Kp E w Q:=fun _ hf => (h _ hf).2
theorem Kp.all {α:Type} {R:α → World → Prop} (h:∀ x,Kp E w (R x)):Kp E w (fun w => ∀ x,R x w):=fun _ hf x => h x _ hf
theorem Kp.grow (h:Kp E w P) (hf:Fr E w w') (hE:∀ k,some k ∈ E' → some k ∈ E ∨ w.heap.size ≤ k):Kp E' w' P:=fun w'' hf' =>
  h _ (hf.then hf' fun i hi e => by rcases hE i e with h | h; exact h; omega)
theorem Kp.sub (h:Kp E w P) (hE:∀ k,some k ∈ E' → some k ∈ E):Kp E' w P:=h.grow (Fr.refl _ _) fun k hk => .inl (hE k hk)
theorem Kp.blk {g:Nat} {t:TypeId} {cs:Array Value} (h:Blk w g t cs) (hn:some g ∉ E):Kp E w (fun w => Blk w g t cs):=fun _ hf => h.fr hf hn
theorem Kp.sl {A:Option Addr} {cs:List Value} (h:Sl w A cs) (hn:bk A = none ∨ bk A ∉ E):Kp E w (fun w => Sl w A cs):=fun _ hf => h.fr hf hn
end
def Old (E:List (Option Nat)) (w:World):Prop:=∀ k,some k ∈ E → k < w.heap.size
theorem Old.fr {E S:List (Option Nat)} {w w':World} (h:Old E w) (hf:Fr S w w'):Old E w':=fun k hk => Nat.lt_of_lt_of_le (h k hk) hf.size
theorem Old.new {E:List (Option Nat)} {w:World} (h:Old E w) {k:Nat} (hk:w.heap.size ≤ k):some k ∉ E:=fun e => by have:=h k e; omega
theorem Old.newA {E:List (Option Nat)} {w:World} (h:Old E w) {A:Option Addr} (hA:∀ j,bk A = some j → w.heap.size ≤ j):bk A = none ∨ bk A ∉ E:=by
  cases hb:bk A with
  | none => exact .inl rfl
  | some j => exact .inr (h.new (hA j hb))
theorem Old.nil_ (w:World):Old [] w:=fun _ h => by simp at h
theorem sl_kp {w:World} {A:Option Addr} {cs:List Value} {E:List (Option Nat)} (h:Sl w A cs) (hE:∀ k,some k ∈ E → w.heap.size ≤ k):Kp E w (fun w => Sl w A cs):=by
  rcases h with h | ⟨ad,rfl,hc⟩
  · exact fun _ _ => .inl h
  · intro w' hf
    refine .inr ⟨ad,rfl,fun j u hu => ?_⟩
    have hw:=hc j u hu
    have hlt:=World.block_lt_of_cell? w _ hw
    rw [← hw]
    exact hf.cell hlt fun he => by have:=hE _ he; omega
end Go.Proofs.Dm
