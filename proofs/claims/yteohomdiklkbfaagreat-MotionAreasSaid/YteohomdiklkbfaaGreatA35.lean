import Derived.Test.YteohomdiklkbfaaGreatA34
import Derived.Test.YteohomdiklkbfaaGreatA29
namespace Go.Proofs.YteohomdiklkbfaaGreat
open Go.RowKit Go.Proofs.Dm

set_option maxHeartbeats 800000 in
theorem below_any (w:World) (p:Option Addr) (tl:Bool) (eo:Int) (xs:List RV) (n a:Nat) (i:Int) (ht:TreeAt TN [] w p xs) (hn:n = xs.length) (hn7:n ≤ 700) (hA:BegAt n i a) :
    Calls Tryz.prog 34 #[.agg #[.pointer p,.bool tl,.int .i64 eo],.int .i64 i] w fun en w' => en = .returned (.int .i64 (nextP xs a)) ∧ Fr [] w w':=by
  have HF:Hid (Fr [] w (w.alloc (.cells #[.pointer p,.bool tl,.int .i64 eo] TGr))):=(Fr.refl [] w).alloc _
  have HI:=Lib.hid (index_any _ p xs n a i (ht.fr0 HF.out) hn hn7 hA)
  clear ht hn hn7 hA
  go_enter Tryz.func34,Tryz.ntmps34
  go_wp2_with fail
  refine HI.out.mono ?_
  rintro en w2 ⟨rfl,hf2⟩
  have HF2:=Lib.hid (HF.out.trans hf2)
  clear hf2
  go_wp2_with fail
  go_ret
  exact ⟨rfl,HF2.out⟩
end Go.Proofs.YteohomdiklkbfaaGreat
namespace Go.Proofs.YteohomdiklkbfaaGreat
open Go.RowKit Go.Shelf Go.Proofs.Dm
attribute [local go_sem] Oper.semAt_some

structure GRo (tb te:TypeId) (sz:Nat) (w2 W:World) (OB:Nat) (C:Option Addr) (c n:Nat) (vs:List Value):Prop where
  box:Blk W OB tb #[.slice C n c]
  own:ORow W te sz C c n vs
  fr:Fr [some OB] w2 W
  ob:OB < w2.heap.size
  nw:∀ j,bk C = some j → w2.heap.size ≤ j
  it:∀ cs,itT (.cells cs te) = false ∧ itT (.cells cs tb) = false
section
variable {tb te:TypeId} {sz:Nat} {w2 W W':World} {OB c n:Nat} {C:Option Addr} {vs:List Value}
theorem GRo.fr0 (h:GRo tb te sz w2 W OB C c n vs) (hf:Fr [] W W'):GRo tb te sz w2 W' OB C c n vs:=⟨h.box.fr hf (by simp),ORow.fr h.own hf (.inr List.not_mem_nil),h.fr.trans hf.of_nil,h.ob,h.nw,h.it⟩
theorem GRo.ch (h:GRo tb te sz w2 W OB C c n vs) (hc:ChI w2.heap.size W W'):GRo tb te sz w2 W' OB C c n vs:=by
  refine ⟨hc.block _ _ h.box (.inl h.ob),⟨h.own.1,?_⟩,fr_ch h.fr hc,h.ob,h.nw,h.it⟩
  rcases h.own.2 with h0 | ⟨g,cap,cur,he,hb,hg,rest⟩
  · exact .inl h0
  · exact .inr ⟨g,cap,cur,he,hb,hc.block _ _ hg (.inr (h.it _).1),rest⟩
theorem GRo.ne (h:GRo tb te sz w2 W OB C c n vs):bk C ≠ some OB:=fun e => by have:=h.nw OB e; have:=h.ob; omega
theorem GRo.put {Wa W1:World} {C1:Option Addr} {c1 m:Nat} {ns:List Value} (h:GRo tb te sz w2 W OB C c n vs) (hfa:Fr [] W Wa) (hr:ORow W1 te sz C1 c1 (n + m) (vs ++ ns)) (hg:Fr [bk C] Wa W1) (hb:bk C1 = bk C ∨ bk C1 = some Wa.heap.size) :
    GRo tb te sz w2 (W1.setCell ⟨OB,0,none⟩ (.slice C1 (n + m) c1)) OB C1 c1 (n + m) (vs ++ ns) ∧ Blk W1 OB tb #[.slice C n c] ∧ Fr [some OB,bk C] W (W1.setCell ⟨OB,0,none⟩ (.slice C1 (n + m) c1)):=by
  have hb1:=(h.box.fr hfa (by simp)).fr hg (fun e => by rw [List.mem_singleton] at e; exact h.ne e.symm)
  have hob:=h.ob
  have hs1:=h.fr.size
  have hs2:=hfa.size
  have hset:Fr [some OB] W1 (W1.setCell ⟨OB,0,none⟩ (.slice C1 (n + m) c1)):=(Fr.refl _ W1).setB (by simp) 0 _
  have hn1:∀ j,bk C1 = some j → w2.heap.size ≤ j:=fun j hj => by
    rcases hb with e | e
    · exact h.nw j (e ▸ hj)
    · rw [e] at hj; injection hj with hj; omega
  refine ⟨⟨hb1.set_ 0 _,?_,?_,hob,hn1,h.it⟩,hb1,?_⟩
  · refine ORow.fr hr hset ?_
    cases hB:bk C1 with
    | none => exact .inl rfl
    | some j => exact .inr fun e => by rw [List.mem_singleton] at e; injection e with e; have:=hn1 j hB; omega
  · refine ((h.fr.trans hfa.of_nil).seq hg fun y hy => ?_).trans hset
    rw [List.mem_singleton] at hy
    subst hy
    cases hB:bk C with
    | none => exact .inr (.inl rfl)
    | some j => exact .inr (.inr ⟨j,h.nw j hB,rfl⟩)
  · exact (hfa.of_nil.trans (hg.weaken fun i _ e => by rw [List.mem_singleton] at e; rw [e]; exact List.mem_cons_of_mem _ (List.mem_singleton.2 rfl))).trans (hset.weaken fun i _ e => by rw [List.mem_singleton] at e; rw [e]; exact List.mem_cons_self ..)
theorem GRo.keeps {b:Nat} {E:List (Option Nat)} (h:GRo tb te sz w2 W OB C c n vs) (hf:Fr [some OB,bk C] W W') (hb:b = w2.heap.size) (hE:some OB ∈ E):KeepsI E b W W':=by
  subst hb
  refine KeepsI.of_frS hf fun k hk hlt => ?_
  rcases List.mem_cons.1 hk with e | e
  · injection e with e
    subst e
    exact ⟨.inr hE,_,h.box,(h.it _).2⟩
  · rw [List.mem_singleton] at e
    refine ⟨.inl (h.nw k e.symm),?_⟩
    rcases h.own.2 with ⟨h0,_⟩ | ⟨g,cap,cur,he,hbb,hg,rest⟩
    · injection h0 with h0; subst h0; cases e
    · injection he with he
      subst he
      injection e with e
      subst e
      exact ⟨_,hg,(h.it _).1⟩
end
def numI (l:List (Nat × RV)):List Value:=l.map fun x => .int .i64 (x.1:Nat)
def IntsAns (w:World) (l:List (Nat × RV)) (en:Ending) (w':World):Prop :=
  ∃ (C:Option Addr) (n c:Nat),en = .returned (.slice C n c) ∧ n = l.length ∧ Sl w' C (numI l) ∧ Fr [] w w'
end Go.Proofs.YteohomdiklkbfaaGreat
namespace Go.Proofs.YteohomdiklkbfaaGreat
open Go.RowKit Go.Shelf Go.Proofs.Dm
attribute [local go_sem] Oper.semAt_some

structure WT (w2 W:World) (TB MB:Nat) (t m:Int):Prop where
  tb:Blk W TB 3 #[.int .i64 t]
  mb:Blk W MB 3 #[.int .i64 m]
  fr:Fr [some TB,some MB] w2 W
  lt:TB < w2.heap.size ∧ MB < w2.heap.size
  ne:TB ≠ MB
section
variable {w2 W W':World} {TB MB:Nat} {t m:Int}
theorem WT.fr0 (h:WT w2 W TB MB t m) (hf:Fr [] W W'):WT w2 W' TB MB t m:=⟨h.tb.fr hf (by simp),h.mb.fr hf (by simp),h.fr.trans hf.of_nil,h.lt,h.ne⟩
theorem WT.ch (h:WT w2 W TB MB t m) (hc:ChI w2.heap.size W W'):WT w2 W' TB MB t m:=⟨hc.block _ _ h.tb (.inl h.lt.1),hc.block _ _ h.mb (.inl h.lt.2),fr_ch h.fr hc,h.lt,h.ne⟩
theorem WT.put (h:WT w2 W TB MB t m) (t' m':Int):WT w2 ((W.setCell ⟨TB,0,none⟩ (.int .i64 t')).setCell ⟨MB,0,none⟩ (.int .i64 m')) TB MB t' m' :=
  ⟨(h.tb.set_ 0 _).far (fun e => h.ne e) _,(h.mb.far (fun e => h.ne e.symm) _).set_ 0 _,(h.fr.setB (fun _ => by simp) 0 _).setB (fun _ => by simp) 0 _,h.lt,h.ne⟩
theorem WT.keeps {b:Nat} {E:List (Option Nat)} (h:WT w2 W TB MB t m) (hf:Fr [some TB,some MB] W W') (hb:b = w2.heap.size) (hT:some TB ∈ E) (hM:some MB ∈ E):KeepsI E b W W':=by
  subst hb
  refine KeepsI.of_frS hf fun k hk hlt => ?_
  rcases List.mem_cons.1 hk with e | e
  · injection e with e
    subst e
    exact ⟨.inr hT,_,h.tb,by simp [itT]; decide⟩
  · rw [List.mem_singleton] at e
    injection e with e
    subst e
    exact ⟨.inr hM,_,h.mb,by simp [itT]; decide⟩
end
end Go.Proofs.YteohomdiklkbfaaGreat
namespace Go.Proofs.YteohomdiklkbfaaGreat
open Go.RowKit Go.Proofs.Dm

def intsV (l:List Int):List Value:=l.map (Value.int .i64)
theorem numI_ints (l:List (Nat × RV)):numI l = intsV (l.map fun x => (x.1:Int)):=by
  unfold numI intsV
  rw [List.map_map]
  rfl
end Go.Proofs.YteohomdiklkbfaaGreat
