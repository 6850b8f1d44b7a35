import Derived.Test.YtblafakafgediaaGreatF33
import Derived.Test.YtblafakafgediaaGreatF29
namespace Go.Proofs.YtblafakafgediaaGreat
open Go.RowKit Go.Proofs.Dm

set_option maxHeartbeats 800000 in
theorem below_any (w:World) (p:Option Addr) (tl:Bool) (eo:Int) (xs:List RV) (n a:Nat) (i:Int) (ht:TreeAt TN [] w p xs) (hn:n = xs.length) (hn7:n ≤ 700) (hA:BegAt n i a) :
    Calls Tryz.prog 67 #[.agg #[.pointer p,.bool tl,.int .i64 eo],.int .i64 i] w fun en w' => en = .returned (.int .i64 (nextP xs a)) ∧ Fr [] w w':=by
  have HF:Hid (Fr [] w (w.alloc (.cells #[.pointer p,.bool tl,.int .i64 eo] TGr))):=(Fr.refl [] w).alloc _
  have HI:=Lib.hid (index_any _ p xs n a i (ht.fr0 HF.out) hn hn7 hA)
  clear ht hn hn7 hA
  go_enter Tryz.func67,Tryz.ntmps67
  go_wp2_with fail
  refine HI.out.mono ?_
  rintro en w2 ⟨rfl,hf2⟩
  have HF2:=Lib.hid (HF.out.trans hf2)
  clear hf2
  go_wp2_with fail
  go_ret
  exact ⟨rfl,HF2.out⟩
end Go.Proofs.YtblafakafgediaaGreat
namespace Go.Proofs.YtblafakafgediaaGreat
open Go.RowKit Go.Shelf Go.Proofs.Dm
attribute [local go_sem] Oper.semAt_some

structure GRo (tb te:TypeId) (sz:Nat) (w2 W:World) (OB:Nat) (C:Option Addr) (c n:Nat) (vs:List Value):Prop where
  box:Blk W OB tb #[.slice C n c]
  own:ORow W te sz C c n vs
  fr:Fr [some OB] w2 W
  ob:OB < w2.heap.size
  nw:∀ j,bk C = some j → w2.heap.size ≤ j
  it:∀ cs,itT (.cells cs te) = false ∧ itT (.cells cs tb) = false
section
variable {tb te:TypeId} {sz:Nat} {w2 W W':World} {OB c n:Nat} {C:Option Addr} {vs:List Value}
theorem GRo.fr0 (h:GRo tb te sz w2 W OB C c n vs) (hf:Fr [] W W'):GRo tb te sz w2 W' OB C c n vs:=⟨h.box.fr hf (by simp),ORow.fr h.own hf (.inr List.not_mem_nil),h.fr.trans hf.of_nil,h.ob,h.nw,h.it⟩
theorem GRo.ch (h:GRo tb te sz w2 W OB C c n vs) (hc:ChI w2.heap.size W W'):GRo tb te sz w2 W' OB C c n vs:=by
  refine ⟨hc.block _ _ h.box (.inl h.ob),⟨h.own.1,?_⟩,fr_ch h.fr hc,h.ob,h.nw,h.it⟩
  rcases h.own.2 with h0 | ⟨g,cap,cur,he,hb,hg,rest⟩
  · exact .inl h0
  · exact .inr ⟨g,cap,cur,he,hb,hc.block _ _ hg (.inr (h.it _).1),rest⟩
theorem GRo.ne (h:GRo tb te sz w2 W OB C c n vs):bk C ≠ some OB:=fun e => by have:=h.nw OB e; have:=h.ob; omega
theorem GRo.put {Wa W1:World} {C1:Option Addr} {c1 m:Nat} {ns:List Value} (h:GRo tb te sz w2 W OB C c n vs) (hfa:Fr [] W Wa) (hr:ORow W1 te sz C1 c1 (n + m) (vs ++ ns)) (hg:Fr [bk C] Wa W1) (hb:bk C1 = bk C ∨ bk C1 = some Wa.heap.size) :
    GRo tb te sz w2 (W1.setCell ⟨OB,0,none⟩ (.slice C1 (n + m) c1)) OB C1 c1 (n + m) (vs ++ ns) ∧ Blk W1 OB tb #[.slice C n c] ∧ Fr [some OB,bk C] W (W1.setCell ⟨OB,0,none⟩ (.slice C1 (n + m) c1)):=by
  have hb1:=(h.box.fr hfa (by simp)).fr hg (fun e => by rw [List.mem_singleton] at e; exact h.ne e.symm)
  have hob:=h.ob
  have hs1:=h.fr.size
  have hs2:=hfa.size
  have hset:Fr [some OB] W1 (W1.setCell ⟨OB,0,none⟩ (.slice C1 (n + m) c1)):=(Fr.refl _ W1).setB (by simp) 0 _
  have hn1:∀ j,bk C1 = some j → w2.heap.size ≤ j:=fun j hj => by
    rcases hb with e | e
    · exact h.nw j (e ▸ hj)
    · rw [e] at hj; injection hj with hj; omega
  refine ⟨⟨hb1.set_ 0 _,?_,?_,hob,hn1,h.it⟩,hb1,?_⟩
  · refine ORow.fr hr hset ?_
    cases hB:bk C1 with
    | none => exact .inl rfl
    | some j => exact .inr fun e => by rw [List.mem_singleton] at e; injection e with e; have:=hn1 j hB; omega
  · refine ((h.fr.trans hfa.of_nil).seq hg fun y hy => ?_).trans hset
    rw [List.mem_singleton] at hy
    subst hy
    cases hB:bk C with
    | none => exact .inr (.inl rfl)
    | some j => exact .inr (.inr ⟨j,h.nw j hB,rfl⟩)
  · exact (hfa.of_nil.trans (hg.weaken fun i _ e => by rw [List.mem_singleton] at e; rw [e]; exact List.mem_cons_of_mem _ (List.mem_singleton.2 rfl))).trans (hset.weaken fun i _ e => by rw [List.mem_singleton] at e; rw [e]; exact List.mem_cons_self ..)
theorem GRo.keeps {b:Nat} {E:List (Option Nat)} (h:GRo tb te sz w2 W OB C c n vs) (hf:Fr [some OB,bk C] W W') (hb:b = w2.heap.size) (hE:some OB ∈ E):KeepsI E b W W':=by
  subst hb
  refine KeepsI.of_frS hf fun k hk hlt => ?_
  rcases List.mem_cons.1 hk with e | e
  · injection e with e
    subst e
    exact ⟨.inr hE,_,h.box,(h.it _).2⟩
  · rw [List.mem_singleton] at e
    refine ⟨.inl (h.nw k e.symm),?_⟩
    rcases h.own.2 with ⟨h0,_⟩ | ⟨g,cap,cur,he,hbb,hg,rest⟩
    · injection h0 with h0; subst h0; cases e
    · injection he with he
      subst he
      injection e with e
      subst e
      exact ⟨_,hg,(h.it _).1⟩
end
def shownR (l:List (Nat × RV)):List (Nat × RV):=l.filter fun x => !x.2.h
def numI (l:List (Nat × RV)):List Value:=l.map fun x => .int .i64 (x.1:Nat)
def rowsP (xs:List RV) (a h:Nat):List (Nat × RV):=(shownR (allR xs a xs.length)).take h
theorem shownR_snoc (l:List (Nat × RV)) (x:Nat × RV):shownR (l ++ [x]) = shownR l ++ if x.2.h then [] else [x]:=by
  unfold shownR
  rw [List.filter_append]
  cases h:x.2.h <;> simp [h]
theorem rowsP_cut (xs:List RV) (a h:Nat) (pre:List (Nat × RV)) (x:Nat × RV) (hp:pre ++ [x] <+: allR xs a xs.length) (hl:(shownR pre).length = h):rowsP xs a h = shownR pre:=by
  obtain ⟨t,ht⟩:=hp
  unfold rowsP shownR
  rw [← ht,List.append_assoc,List.filter_append,List.take_append_of_le_length (by unfold shownR at hl; omega),List.take_of_length_le (by unfold shownR at hl; omega)]
theorem rowsP_all (xs:List RV) (a h:Nat) (hl:(shownR (allR xs a xs.length)).length ≤ h):rowsP xs a h = shownR (allR xs a xs.length):=List.take_of_length_le hl
theorem infoIn:(Tryz.prog.info? 3).map (fun i => (i.zero,i.size,i.bytes)) = some (some (Value.int .i64 0),1,8):=by kernel_rfl
def IntsAns (w:World) (l:List (Nat × RV)) (en:Ending) (w':World):Prop :=
  ∃ (C:Option Addr) (n c:Nat),en = .returned (.slice C n c) ∧ n = l.length ∧ Sl w' C (numI l) ∧ Fr [] w w'
set_option maxRecDepth 100000 in
set_option maxHeartbeats 1600000 in
theorem rows_any (w:World) (p:Option Addr) (tl:Bool) (eo:Int) (xs:List RV) (n a h:Nat) (top left wid:Int) (ht:TreeAt TN [] w p xs) (hn:n = xs.length) (hn7:n ≤ 700) (hA:BegAt n top a) (hh:h ≤ 1000000) :
    Calls Tryz.prog 18 #[.agg #[.int .i64 top,.int .i64 left,.int .i64 (h:Nat),.int .i64 wid],.agg #[.pointer p,.bool tl,.int .i64 eo]] w (IntsAns w (rowsP xs a h)):=by
  have HLN:Hid (∀ w',Fr [] w w' → Calls Tryz.prog 36 #[.agg #[.pointer p,.bool tl,.int .i64 eo]] w' fun en w'' => en = .returned (.int .i64 (n:Nat)) ∧ Fr [] w' w''):=by
    show ∀ _,_
    intro w' hf
    have:=glen_any [] p xs tl eo w' (ht.fr0 hf)
    rw [← hn] at this
    exact this
  have HRG:Hid (∀ w',Fr [] w w' → Calls Tryz.prog 71 #[.agg #[.pointer p],.int .i64 top,.int .i64 (n:Nat)] w' (FuncNew w' p a n)):=by
    show ∀ _,_
    intro w' hf
    have hA2:=hA
    rw [hn] at hA2
    exact range_gen [] p xs w' top (n:Nat) a n (ht.fr0 hf) (by omega) hA2 (by rw [← hn]; have:=hA.le; unfold EndAt; omega)
  have HW:Hid (∀ W0,W0 = ((w.alloc (.cells #[.int .i64 top,.int .i64 left,.int .i64 (h:Nat),.int .i64 wid] 40)).alloc (.cells #[.pointer p,.bool tl,.int .i64 eo] TGr)).alloc (.cells #[.slice none 0 0] 48) →
      Fr [] w W0 ∧ Blk W0 w.heap.size 40 #[.int .i64 top,.int .i64 left,.int .i64 (h:Nat),.int .i64 wid] ∧ Blk W0 (w.heap.size + 1) TGr #[.pointer p,.bool tl,.int .i64 eo] ∧ Blk W0 (w.heap.size + 1 + 1) 48 #[.slice none 0 0]):=by
    show ∀ _,_
    rintro W0 rfl
    have b1:=Blk.new (w.alloc (.cells #[.int .i64 top,.int .i64 left,.int .i64 (h:Nat),.int .i64 wid] 40)) TGr #[.pointer p,.bool tl,.int .i64 eo]
    have b2:=Blk.new ((w.alloc (.cells #[.int .i64 top,.int .i64 left,.int .i64 (h:Nat),.int .i64 wid] 40)).alloc (.cells #[.pointer p,.bool tl,.int .i64 eo] TGr)) 48 #[.slice none 0 0]
    have b3:=b1.alloc (.cells #[.slice none 0 0] 48)
    simp only [World.size_alloc] at b2 b3
    exact ⟨(((Fr.refl [] w).alloc _).alloc _).alloc _,((Blk.new w _ _).alloc _).alloc _,b3,b2⟩
  have HIN:Hid (TreeAt TN [] w p xs):=ht
  have HN:Hid (n = xs.length ∧ n ≤ 700 ∧ a ≤ n):=⟨hn,hn7,hA.le⟩
  have HH:=Lib.hid hh
  clear ht hn hn7 hA hh
  refine callsIn_wide.1 (callsIn_of_wp_marks (n:=3) Tryz.func18 rfl trivial (wpIn_wide.2 ?_))
  simp only [Tryz.ntmps18,List.size_toArray,List.length_cons,List.length_nil,Nat.reduceAdd,Nat.reduceSub,Array.replicate_succ,Array.replicate_zero,List.push_toArray,List.append_toArray,List.nil_append,List.cons_append]
  go_wp2_with fail
  obtain ⟨W0,hW0⟩:∃ W0,W0 = ((w.alloc (.cells #[.int .i64 top,.int .i64 left,.int .i64 (h:Nat),.int .i64 wid] 40)).alloc (.cells #[.pointer p,.bool tl,.int .i64 eo] TGr)).alloc (.cells #[.slice none 0 0] 48):=⟨_,rfl⟩
  obtain ⟨k1,k2,k3,k4⟩:=HW.out W0 hW0
  rw [← hW0]
  obtain ⟨OB,hOB⟩:∃ OB,OB = w.heap.size + 1 + 1:=⟨_,rfl⟩
  obtain ⟨GB,hGB⟩:∃ GB,GB = w.heap.size + 1:=⟨_,rfl⟩
  obtain ⟨VB,hVB⟩:∃ VB,VB = w.heap.size:=⟨_,rfl⟩
  rw [← hOB] at k4 ⊢
  rw [← hGB] at k3 ⊢
  rw [← hVB] at k2 ⊢
  have HB0:Hid (Fr [] w W0 ∧ Blk W0 GB TGr #[.pointer p,.bool tl,.int .i64 eo] ∧ Blk W0 VB 40 #[.int .i64 top,.int .i64 left,.int .i64 (h:Nat),.int .i64 wid] ∧ Blk W0 OB 48 #[.slice none 0 0]):=⟨k1,k3,k2,k4⟩
  have HNB:Hid (VB = w.heap.size ∧ GB = w.heap.size + 1 ∧ OB = w.heap.size + 1 + 1):=⟨hVB,hGB,hOB⟩
  have HCEL:Hid (∀ w',Fr [] W0 w' → w'.cell? ⟨GB,0,none⟩ = some (.pointer p) ∧ w'.cell? ⟨GB,1,none⟩ = some (.bool tl) ∧ w'.cell? ⟨GB,2,none⟩ = some (.int .i64 eo) ∧ w'.cell? ⟨VB,0,none⟩ = some (.int .i64 top)):=by
    show ∀ _,_
    intro w' hf
    have h1:=HB0.out.2.1.fr hf (by simp)
    have h2:=HB0.out.2.2.1.fr hf (by simp)
    exact ⟨h1.cell 0,h1.cell 1,h1.cell 2,h2.cell 0⟩
  clear hW0 k1 k2 k3 k4 hOB hGB hVB HW
  obtain ⟨g0,g1,g2,v0⟩:=HCEL.out W0 (Fr.refl _ _)
  go_region_held3 (fun w' => w'.cell? ⟨GB,0,none⟩ = some (.pointer p) ∧ w'.cell? ⟨GB,1,none⟩ = some (.bool tl) ∧ w'.cell? ⟨GB,2,none⟩ = some (.int .i64 eo) ∧ w'.cell? ⟨VB,0,none⟩ = some (.int .i64 top)) (go_keep) ((first
    | (go_at_call 36; go_must (
         refine (HLN.out _ (HB0.out.1.drew)).mono ?_
         rintro e w4 ⟨rfl,hf4⟩
         have HF4:Hid (Fr [] W0 w4):=(Fr.refl [] W0).drew.trans hf4
         obtain ⟨g0',g1',g2',v0'⟩:=HCEL.out w4 HF4.out
         clear hf4))
    | (go_at_call 71; go_must (
         refine (HRG.out _ (HB0.out.1.trans HF4.out)).mono ?_
         rintro e w5 ⟨bi,bj,bt,rfl,hbi,hbj,hbt,hf5,hx1,hx2,hx3⟩
         have HF5:Hid (Fr [] W0 w5):=HF4.out.trans hf5
         obtain ⟨g0'',g1'',g2'',v0''⟩:=HCEL.out w5 HF5.out
         have HBB:Hid (w5.cell? ⟨bi,0,none⟩ = some (.int .i64 (a:Nat)) ∧ w5.cell? ⟨bj,0,none⟩ = some (.int .i64 (n:Nat)) ∧ w5.cell? ⟨bt,0,none⟩ = some (.pointer p)):=⟨hbi,hbj,hbt⟩
         have HBX:Hid (W0.heap.size ≤ bi ∧ W0.heap.size ≤ bj ∧ W0.heap.size ≤ bt):=by have:=HF4.out.size; exact ⟨by omega,by omega,by omega⟩
         clear hbi hbj hbt hf5 hx1 hx2 hx3))))
  all_goals go_wp2_with fail
  have HTR:Hid (TreeAt TN [some OB] w5 p xs):=by
    have:=HIN.out
    refine this.grow (E':=[some OB]) (HB0.out.1.trans HF5.out) fun k hk => ?_
    rw [List.mem_singleton] at hk
    injection hk with hk
    exact .inr (by have:=HNB.out; omega)
  have HGR0:Hid (GRo 48 3 1 w5 w5 OB none 0 0 []):=⟨HB0.out.2.2.2.fr HF5.out (by simp),ORow.nil_ _ _ _,Fr.refl _ _,(HB0.out.2.2.2.fr HF5.out (by simp)).lt,fun j hj => (by cases hj),fun cs => ⟨by simp [itT]; decide,by simp [itT]; decide⟩⟩
  have HVB:Hid (Blk w5 VB 40 #[.int .i64 top,.int .i64 left,.int .i64 (h:Nat),.int .i64 wid] ∧ VB ≠ OB):=⟨HB0.out.2.2.1.fr HF5.out (by simp),by have:=HNB.out; omega⟩
  rw [← wpIn_wide (n:=3)]
  refine range_law (E:=[some OB]) (F:=Fence.wide) rfl (by omega) (gf:=131) rfl trivial (enters_of Tryz.func131 (by kernel_rfl) rfl)
    (range_stops (3 - 1) bi bj bt a n w5 p xs HN.out.2.2 (by rw [← HN.out.1]; exact Nat.le_refl _) (by have:=HN.out; omega) HTR.out HBB.out.1 HBB.out.2.1 HBB.out.2.2 ?hne) (Fr.refl _ _) (fun _ => rfl)
    (fun pre W => ∃ (C:Option Addr) (c m:Nat),m ≤ h ∧ Hid (GRo 48 3 1 w5 W OB C c m (numI (shownR pre)))) (fun cd _ W => cd = .exit 0 ∧ ∃ (C:Option Addr) (c m:Nat),Hid (GRo 48 3 1 w5 W OB C c m (numI (rowsP xs a h)))) ?hI ?hIx ?h0
    (fun x a₁ W => ∃ b,a₁ = { tmps:=#[.agg #[.int .i64 top,.int .i64 left,.int .i64 (h:Nat),.int .i64 wid],.agg #[.pointer p,.bool tl,.int .i64 eo],.pointer (some ⟨VB,0,none⟩),.pointer (some ⟨GB,0,none⟩),.slice none 0 0,.pointer (some ⟨OB,0,none⟩),.int .i64 (x.1:Nat),.pointer (some ⟨b,0,none⟩),.pointer (some ⟨GB,0,none⟩),.agg #[.pointer p],.pointer (some ⟨VB,0,none⟩),.int .i64 top,.agg #[.pointer p,.bool tl,.int .i64 eo],.int .i64 (n:Nat),.func (.func 131) #[] #[.pointer (some ⟨bi,0,none⟩),.pointer (some ⟨bj,0,none⟩),.pointer (some ⟨bt,0,none⟩)],.int .i64 (x.1:Nat),x.2.val,undef,undef,undef,undef,undef,undef,undef,undef,undef,undef,undef,undef,undef],defers:=[] } ∧ Blk W b TRow #[.slice x.2.A x.2.n x.2.c,.int .i64 x.2.e,.bool x.2.h]) ?hAx ?assign ?body ?done ?stop
  case hne =>
    have key:∀ (x:Nat),W0.heap.size ≤ x → some x ∉ [some OB]:=fun x hx e => by
      rw [List.mem_singleton] at e
      injection e with e
      have:=HB0.out.2.2.2.lt
      omega
    exact ⟨key bi HBX.out.1,key bj HBX.out.2.1,key bt HBX.out.2.2⟩
  case hI =>
    rintro pre W W' ⟨C,c,m,hm,h⟩ hc
    exact ⟨C,c,m,hm,h.out.ch hc⟩
  case hIx =>
    rintro cd pre W W' ⟨h1,C,c,m,h2⟩ hc
    exact ⟨h1,C,c,m,h2.out.ch hc⟩
  case h0 => exact ⟨none,0,0,Nat.zero_le _,HGR0.out⟩
  case hAx =>
    rintro x a₁ W l o o' hl ho ⟨b,rfl,hb⟩
    refine ⟨b,rfl,?_⟩
    unfold Blk at hb ⊢
    rw [World.putObj_heap_other]
    · exact hb
    · intro e; subst e; rw [hb] at hl; injection hl with hl; subst hl; cases ho
  case assign =>
    intro l x W K hK
    obtain ⟨xq,⟨rA,rn,rc,re,rh⟩⟩:=x
    simp only [encR,RV.val]
    gi_wp2
    refine hK _ _ ((Fr.refl [] W).alloc _) ⟨W.heap.size,rfl,Blk.new W TRow _⟩
  case body =>
    rintro l pre x a₁ W ⟨C,c,m,hmh,HG⟩ hpx ⟨b,rfl,hb⟩
    obtain ⟨xq,⟨rA,rn,rc,re,rh⟩⟩:=x
    simp only [RV.val] at hb ⊢
    have hvb:=HVB.out.1.fr HG.out.fr (fun e => by rw [List.mem_singleton] at e; injection e with e; exact HVB.out.2 e)
    have hml:m = (shownR pre).length:=by
      have:=HG.out.own.1
      unfold numI at this
      rw [List.length_map,Nat.mul_one] at this
      exact this.symm
    have v2:W.cell? ⟨VB,2,none⟩ = some (.int .i64 (h:Nat)):=hvb.cell 2
    have o0:W.cell? ⟨OB,0,none⟩ = some (.slice C m c):=HG.out.box.cell 0
    have b2:W.cell? ⟨b,2,none⟩ = some (.bool rh):=hb.cell 2
    have HCU:Hid (m = h → rowsP xs a h = shownR pre):=by
      show _ → _
      intro e
      rw [HN.out.1] at hpx
      exact rowsP_cut xs a h pre _ hpx (by omega)
    have HSN:=Lib.hid (shownR_snoc pre (xq,⟨rA,rn,rc,re,rh⟩))
    have HM:Hid (m ≤ 1000000):=by have:=HH.out; show _ ≤ _; omega
    clear hvb hb hpx hml
    by_cases hcut:m = h
    · have hc1:(m:Int) = (h:Int):=by omega
      have hc2:((m:Int) == (h:Int)) = true:=by simpa using hc1
      have HCU2:=Lib.hid (HCU.out hcut)
      clear hcut
      gi_wp2
      refine ⟨KeepsI.of_fr (Fr.refl _ _),rfl,C,c,m,?_⟩
      show GRo _ _ _ _ _ _ _ _ _ _
      rw [HCU2.out]
      exact HG.out
    · have hc1:¬ (m:Int) = (h:Int):=by omega
      have hc2:((m:Int) == (h:Int)) = false:=by simpa using hc1
      cases rh with
      | true =>
        gi_wp2
        refine ⟨KeepsI.of_fr (Fr.refl _ _),C,c,m,hmh,?_⟩
        show GRo _ _ _ _ _ _ _ _ _ _
        rw [HSN.out]
        simpa using HG.out
      | false =>
        have hm1:m + 1 ≤ h:=by omega
        gi_wp2_with (gi_at_builtin; go_must (
          refine wpListIn_app rfl _ _ 48 3 rfl (Value.int .i64 0) 1 8 Tryz.underlying48 infoIn rfl (by decide) C c m (numI (shownR pre)) rfl (ORow.fr HG.out.own ((Fr.refl [] W).alloc _) (.inr List.not_mem_nil)) _ 1 1 [.int .i64 (xq:Nat)] rfl rfl (sl_new W _ _) (by simp [Value.oneCell']) (by have:=HM.out; simp only [maxLen]; omega) (by have:=HM.out; omega) ?_
          intro C1 c1 w7 hr7 hg7 hb7
          have hput:=HG.out.put ((Fr.refl [] W).alloc _) hr7 hg7 hb7
          have HP7:=Lib.hid hput
          have o1:w7.cell? ⟨OB,0,none⟩ = some (.slice C m c):=hput.2.1.cell 0
          have oz:=hput.2.1.frozen 0
          have ol:=hput.2.1.lt
          clear hr7 hg7 hb7 hput))
        refine ⟨HG.out.keeps HP7.out.2.2 rfl (List.mem_singleton.2 rfl),C1,c1,m + 1,hm1,?_⟩
        show GRo _ _ _ _ _ _ _ _ _ _
        rw [HSN.out]
        unfold numI
        rw [List.map_append]
        exact HP7.out.1
  case done =>
    rintro D W hD ⟨C,c,m,hmh,HG⟩ hK
    have hml:m = (shownR (allR xs a n)).length:=by
      have:=HG.out.own.1
      unfold numI at this
      rw [List.length_map,Nat.mul_one] at this
      exact this.symm
    have hrp:shownR (allR xs a n) = rowsP xs a h:=by
      rw [HN.out.1] at hml ⊢
      exact (rowsP_all xs a h (by omega)).symm
    have HGX:Hid (GRo 48 3 1 w5 W OB C c m (numI (rowsP xs a h))):=by show GRo _ _ _ _ _ _ _ _ _ _; rw [← hrp]; exact HG.out
    clear HG hml hrp hmh
    have o0:W.cell? ⟨OB,0,none⟩ = some (.slice C m c):=HGX.out.box.cell 0
    have HDD:=Lib.hid hD
    have HKD:=Lib.hid hK
    clear hD hK
    go_wp2_with fail
    refine ⟨by simp,.inl ⟨_,_,rfl,run_takeDeferred HKD.out,?_⟩⟩
    have hc:=HGX.out.ch (ChI.put (o':=.deferred none) HKD.out rfl HDD.out)
    refine ⟨.slice C m c,by simp [results,Tryz.results18,go_sem],C,m,c,rfl,?_,ORow.sl hc.own,(HB0.out.1.trans HF5.out).seq hc.fr fun x hx => ?_⟩
    · have:=hc.own.1
      unfold numI at this
      rw [List.length_map,Nat.mul_one] at this
      exact this.symm
    · rw [List.mem_singleton] at hx
      exact .inr (.inr ⟨OB,by have:=HNB.out; omega,hx⟩)
  case stop =>
    rintro D cd pre W hD ⟨rfl,C,c,m,HGX⟩ hK
    have o0:W.cell? ⟨OB,0,none⟩ = some (.slice C m c):=HGX.out.box.cell 0
    have HDD:=Lib.hid hD
    have HKD:=Lib.hid hK
    clear hD hK
    rw [wpIn_wide]
    go_wp2_with fail
    refine ⟨by simp,.inl ⟨_,_,rfl,run_takeDeferred HKD.out,?_⟩⟩
    have hc:=HGX.out.ch (ChI.put (o':=.deferred none) HKD.out rfl HDD.out)
    refine ⟨.slice C m c,by simp [results,Tryz.results18,go_sem],C,m,c,rfl,?_,ORow.sl hc.own,(HB0.out.1.trans HF5.out).seq hc.fr fun x hx => ?_⟩
    · have:=hc.own.1
      unfold numI at this
      rw [List.length_map,Nat.mul_one] at this
      exact this.symm
    · rw [List.mem_singleton] at hx
      exact .inr (.inr ⟨OB,by have:=HNB.out; omega,hx⟩)
end Go.Proofs.YtblafakafgediaaGreat
