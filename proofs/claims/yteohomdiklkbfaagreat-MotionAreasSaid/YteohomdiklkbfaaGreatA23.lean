import Derived.Test.YteohomdiklkbfaaGreatA22
import Derived.OrdersIn
namespace Go.Proofs.YteohomdiklkbfaaGreat
open Go.RowKit Go.Shelf Go.Proofs.Dm
attribute [local go_sem] Oper.semAt_some
def FuncNew (w:World) (p:Option Addr) (i j:Nat) (en:Ending) (w':World):Prop :=
  ∃ bi bj bt:Nat,en = .returned (.func (.func 77) #[] #[.pointer (some ⟨bi,0,none⟩),.pointer (some ⟨bj,0,none⟩),.pointer (some ⟨bt,0,none⟩)]) ∧
    w'.cell? ⟨bi,0,none⟩ = some (.int .i64 (i:Nat)) ∧ w'.cell? ⟨bj,0,none⟩ = some (.int .i64 (j:Nat)) ∧ w'.cell? ⟨bt,0,none⟩ = some (.pointer p) ∧ Fr [] w w' ∧ w.heap.size ≤ bi ∧ w.heap.size ≤ bj ∧ w.heap.size ≤ bt
set_option maxHeartbeats 800000 in
theorem range_new (E:List (Option Nat)) (p:Option Addr) (xs:List RV) (w:World) (ht:TreeAt TN E w p xs) (hn:xs.length ≤ 100000) :
    Calls Tryz.prog 38 #[.agg #[.pointer p],.int .i64 0,.int .i64 (xs.length:Nat)] w (FuncNew w p 0 xs.length):=by
  obtain ⟨n,hnn⟩:∃ n,n = xs.length:=⟨_,rfl⟩
  have HW:Hid (∀ W0,W0 = ((w.alloc (.cells #[.pointer p] 29)).alloc (.cells #[.int .i64 0] 3)).alloc (.cells #[.int .i64 (n:Nat)] 3) → Fr [] w W0 ∧ Blk W0 w.heap.size 29 #[.pointer p] ∧ Blk W0 (w.heap.size + 1) 3 #[.int .i64 0] ∧ Blk W0 (w.heap.size + 1 + 1) 3 #[.int .i64 (n:Nat)] ∧
      Calls Tryz.prog 76 #[.agg #[.pointer p],.int .i64 0,.int .i64 (n:Nat)] W0 fun en w' => en = .returned (.tuple #[.int .i64 0,.int .i64 (n:Nat)]) ∧ Fr [] W0 w'):=by
    show ∀ _,_
    rintro W0 rfl
    have hf:Fr [] w (((w.alloc (.cells #[.pointer p] 29)).alloc (.cells #[.int .i64 0] 3)).alloc (.cells #[.int .i64 (n:Nat)] 3)):=(((Fr.refl [] w).alloc _).alloc _).alloc _
    have b1:=Blk.new (w.alloc (.cells #[.pointer p] 29)) 3 #[.int .i64 0]
    have b2:=Blk.new ((w.alloc (.cells #[.pointer p] 29)).alloc (.cells #[.int .i64 0] 3)) 3 #[.int .i64 (n:Nat)]
    refine ⟨hf,((Blk.new w _ _).alloc _).alloc _,?_,?_,?_⟩
    · have:=b1.alloc (.cells #[.int .i64 (n:Nat)] 3)
      simpa using this
    · simpa using b2
    · rw [hnn]
      exact stretch_all E p xs _ (ht.fr0 (by rw [← hnn]; exact hf)) hn
  rw [← hnn]
  clear ht hn hnn
  go_enter Tryz.func38,Tryz.ntmps38
  go_wp2_with fail
  obtain ⟨W0,hW0⟩:∃ W0,W0 = ((w.alloc (.cells #[.pointer p] 29)).alloc (.cells #[.int .i64 0] 3)).alloc (.cells #[.int .i64 (n:Nat)] 3):=⟨_,rfl⟩
  obtain ⟨k1,k2,k3,k4,k5⟩:=HW.out W0 hW0
  rw [← hW0]
  refine k5.mono ?_
  rintro en w1 ⟨rfl,hf⟩
  have c2:=k2.fr hf (by simp)
  have c3:=k3.fr hf (by simp)
  have c4:=k4.fr hf (by simp)
  have HF:=Lib.hid (k1.trans hf)
  have HB:Hid (Blk w1 w.heap.size 29 #[.pointer p] ∧ Blk w1 (w.heap.size + 1) 3 #[.int .i64 0] ∧ Blk w1 (w.heap.size + 1 + 1) 3 #[.int .i64 (n:Nat)]):=⟨c2,c3,c4⟩
  have d3:w1.cell? ⟨w.heap.size + 1,0,none⟩ = some (.int .i64 0):=c3.cell 0
  have d4:w1.cell? ⟨w.heap.size + 1 + 1,0,none⟩ = some (.int .i64 (n:Nat)):=c4.cell 0
  have z3:=c3.frozen 0
  have z4:=c4.frozen 0
  have l3:=c3.lt
  have l4:=c4.lt
  clear hW0 k1 k2 k3 k4 k5 hf c2 c3 c4 HW
  go_wp2_with fail
  go_ret
  obtain ⟨b2,b3,b4⟩:=HB.out
  have e3:=(b3.set_ 0 (.int .i64 0)).far (p:=⟨w.heap.size + 1 + 1,0,none⟩) (by simp) (.int .i64 (n:Nat))
  have e4:=(b4.far (p:=⟨w.heap.size + 1,0,none⟩) (by simp) (.int .i64 0)).set_ 0 (.int .i64 (n:Nat))
  have e2:=(b2.far (p:=⟨w.heap.size + 1,0,none⟩) (by simp) (.int .i64 0)).far (p:=⟨w.heap.size + 1 + 1,0,none⟩) (by simp; omega) (.int .i64 (n:Nat))
  exact ⟨_,_,_,rfl,e3.cell 0,e4.cell 0,e2.cell 0,(HF.out.setB (fun h => by omega) _ _).setB (fun h => by omega) _ _,by omega,by omega,Nat.le_refl _⟩
def widthP (rs:List RV):Nat:=(rs.map RV.n).foldl max 0
theorem rowlen_any (w:World) (A:Option Addr) (n c:Nat) (e:Int) (h:Bool):Calls Tryz.prog 40 #[.agg #[.slice A n c,.int .i64 e,.bool h]] w fun e w' => e = .returned (.int .i64 (n:Nat)) ∧ Fr [] w w':=by
  go_enter Tryz.func40,Tryz.ntmps40
  go_wp2_with fail
  go_ret
  exact ⟨rfl,(Fr.refl [] w).alloc _⟩
structure WV (w2 W:World) (OB m:Nat):Prop where
  box:Blk W OB 3 #[.int .i64 (m:Nat)]
  fr:Fr [some OB] w2 W
  ob:OB < w2.heap.size
section
variable {w2 W W':World} {OB m:Nat}
theorem WV.fr0 (h:WV w2 W OB m) (hf:Fr [] W W'):WV w2 W' OB m:=⟨h.box.fr hf (by simp),h.fr.trans hf.of_nil,h.ob⟩
theorem WV.ch (h:WV w2 W OB m) (hc:ChI w2.heap.size W W'):WV w2 W' OB m:=by
  refine ⟨hc.block _ _ h.box (.inl h.ob),⟨hc.os.trans h.fr.os,hc.tape.trans h.fr.tape,hc.output.trans h.fr.output,Nat.le_trans h.fr.size hc.size,fun k hk hn => ?_⟩,h.ob⟩
  have hold:=h.fr.block k hk hn
  have hget:w2.heap[k]? = some w2.heap[k]:=Array.getElem?_eq_getElem hk
  rw [hget] at hold ⊢
  exact hc.block k _ hold (.inl hk)
theorem WV.put (h:WV w2 W OB m) (m':Nat):WV w2 (W.setCell ⟨OB,0,none⟩ (.int .i64 (m':Nat))) OB m' :=
  ⟨h.box.set_ 0 _,h.fr.setB (fun _ => by simp) 0 _,h.ob⟩
theorem WV.keeps {b:Nat} {E:List (Option Nat)} (h:WV w2 W OB m) (hf:Fr [some OB] W W') (hb:b = w2.heap.size) (hE:some OB ∈ E):KeepsI E b W W':=by
  subst hb
  refine KeepsI.of_frS hf fun k hk hlt => ?_
  rw [List.mem_singleton] at hk
  injection hk with e
  subst e
  exact ⟨.inr hE,_,h.box,by simp [itT]; decide⟩
end
set_option maxRecDepth 100000 in
set_option maxHeartbeats 1600000 in
theorem gwidth_any (w:World) (p:Option Addr) (tl:Bool) (eo:Int) (n:Nat) (xs:List RV) (ht:TreeAt TN [] w p xs) (hn:n = xs.length) (hn7:n ≤ 700) (hc:∀ r ∈ xs,r.n ≤ 1000) :
    Calls Tryz.prog 19 #[.agg #[.pointer p,.bool tl,.int .i64 eo]] w fun e w' => e = .returned (.int .i64 (widthP xs:Nat)) ∧ Fr [] w w':=by
  have HLN:Hid (∀ w',Fr [] w w' → Calls Tryz.prog 27 #[.agg #[.pointer p,.bool tl,.int .i64 eo]] w' fun en w'' => en = .returned (.int .i64 (n:Nat)) ∧ Fr [] w' w''):=by
    show ∀ _,_
    intro w' hf
    have:=glen_any [] p xs tl eo w' (ht.fr0 hf)
    rw [← hn] at this
    exact this
  have HRG:Hid (∀ w',Fr [] w w' → Calls Tryz.prog 38 #[.agg #[.pointer p],.int .i64 0,.int .i64 (n:Nat)] w' (FuncNew w' p 0 n)):=by
    show ∀ _,_
    intro w' hf
    have:=range_new [] p xs w' (ht.fr0 hf) (by omega)
    rw [← hn] at this
    exact this
  have HW:Hid (∀ W0,W0 = (w.alloc (.cells #[.pointer p,.bool tl,.int .i64 eo] TGr)).alloc (.cells #[.int .i64 0] 3) →
      Fr [] w W0 ∧ Blk W0 w.heap.size TGr #[.pointer p,.bool tl,.int .i64 eo] ∧ Blk W0 (w.heap.size + 1) 3 #[.int .i64 0]):=by
    show ∀ _,_
    rintro W0 rfl
    have b1:=Blk.new (w.alloc (.cells #[.pointer p,.bool tl,.int .i64 eo] TGr)) 3 #[.int .i64 0]
    refine ⟨((Fr.refl [] w).alloc _).alloc _,(Blk.new w TGr _).alloc _,by simpa using b1⟩
  have HIN:Hid (TreeAt TN [] w p xs):=ht
  have HN:Hid (n = xs.length ∧ n ≤ 700):=⟨hn,hn7⟩
  have HC:=Lib.hid hc
  clear ht hn hn7 hc
  refine callsIn_wide.1 (callsIn_of_wp_marks (n:=3) Tryz.func19 rfl trivial (wpIn_wide.2 ?_))
  simp only [Tryz.ntmps19,List.size_toArray,List.length_cons,List.length_nil,Nat.reduceAdd,Nat.reduceSub,Array.replicate_succ,Array.replicate_zero,List.push_toArray,List.append_toArray,List.nil_append,List.cons_append]
  go_wp2_with fail
  obtain ⟨W0,hW0⟩:∃ W0,W0 = (w.alloc (.cells #[.pointer p,.bool tl,.int .i64 eo] TGr)).alloc (.cells #[.int .i64 0] 3):=⟨_,rfl⟩
  obtain ⟨k1,k2,k3⟩:=HW.out W0 hW0
  rw [← hW0]
  obtain ⟨OB,hOB⟩:∃ OB,OB = w.heap.size + 1:=⟨_,rfl⟩
  obtain ⟨GB,hGB⟩:∃ GB,GB = w.heap.size:=⟨_,rfl⟩
  rw [← hOB] at k3 ⊢
  rw [← hGB] at k2 ⊢
  have HB0:Hid (Fr [] w W0 ∧ Blk W0 GB TGr #[.pointer p,.bool tl,.int .i64 eo] ∧ Blk W0 OB 3 #[.int .i64 0]):=⟨k1,k2,k3⟩
  have HNB:Hid (GB = w.heap.size ∧ OB = w.heap.size + 1):=⟨hGB,hOB⟩
  have g0:W0.cell? ⟨GB,0,none⟩ = some (.pointer p):=k2.cell 0
  have g1:W0.cell? ⟨GB,1,none⟩ = some (.bool tl):=k2.cell 1
  have g2:W0.cell? ⟨GB,2,none⟩ = some (.int .i64 eo):=k2.cell 2
  clear hW0 k1 k2 k3 hOB hGB HW
  have n1:=World.new_ne W0 _ g0
  go_region_held3 (fun w' => w'.cell? ⟨GB,0,none⟩ = some (.pointer p) ∧ w'.cell? ⟨GB,1,none⟩ = some (.bool tl) ∧ w'.cell? ⟨GB,2,none⟩ = some (.int .i64 eo)) (go_keep) ((first
    | (go_at_call 27; go_must (
         refine (HLN.out _ (HB0.out.1.drew)).mono ?_
         rintro e w4 ⟨rfl,hf4⟩
         have HF4:Hid (Fr [] W0 w4):=(Fr.refl [] W0).drew.trans hf4
         have kk:=HB0.out.2.1.fr HF4.out (by simp)
         have g0':w4.cell? ⟨GB,0,none⟩ = some (.pointer p):=kk.cell 0
         have g1':w4.cell? ⟨GB,1,none⟩ = some (.bool tl):=kk.cell 1
         have g2':w4.cell? ⟨GB,2,none⟩ = some (.int .i64 eo):=kk.cell 2
         clear hf4 kk))
    | (go_at_call 38; go_must (
         refine (HRG.out _ (HB0.out.1.trans HF4.out)).mono ?_
         rintro e w5 ⟨bi,bj,bt,rfl,hbi,hbj,hbt,hf5,hx1,hx2,hx3⟩
         have HF5:Hid (Fr [] W0 w5):=HF4.out.trans hf5
         have kk:=HB0.out.2.1.fr HF5.out (by simp)
         have g0'':w5.cell? ⟨GB,0,none⟩ = some (.pointer p):=kk.cell 0
         have g1'':w5.cell? ⟨GB,1,none⟩ = some (.bool tl):=kk.cell 1
         have g2'':w5.cell? ⟨GB,2,none⟩ = some (.int .i64 eo):=kk.cell 2
         have HBB:Hid (w5.cell? ⟨bi,0,none⟩ = some (.int .i64 (0:Nat)) ∧ w5.cell? ⟨bj,0,none⟩ = some (.int .i64 (n:Nat)) ∧ w5.cell? ⟨bt,0,none⟩ = some (.pointer p)):=⟨hbi,hbj,hbt⟩
         have HBX:Hid (W0.heap.size ≤ bi ∧ W0.heap.size ≤ bj ∧ W0.heap.size ≤ bt):=by have:=HF4.out.size; exact ⟨by omega,by omega,by omega⟩
         clear hbi hbj hbt hf5 kk hx1 hx2 hx3))))
  all_goals go_wp2_with fail
  all_goals
    have HTR:Hid (TreeAt TN [some OB] w5 p xs):=by
      have:=HIN.out
      refine this.grow (E':=[some OB]) (HB0.out.1.trans HF5.out) fun k hk => ?_
      rw [List.mem_singleton] at hk
      injection hk with hk
      exact .inr (by have:=HNB.out; omega)
    have HWV0:Hid (WV w5 w5 OB 0):=⟨HB0.out.2.2.fr HF5.out (by simp),Fr.refl _ _,(HB0.out.2.2.fr HF5.out (by simp)).lt⟩
    rw [← wpIn_wide (n:=3)]
    refine range_law (E:=[some OB]) (F:=Fence.wide) rfl (by omega) (gf:=77) rfl trivial (enters_of Tryz.func77 (by kernel_rfl) rfl)
      (range_stops (3 - 1) bi bj bt 0 n w5 p xs (Nat.zero_le _) (by rw [HN.out.1]; exact Nat.le_refl _) (by have:=HN.out; omega) HTR.out HBB.out.1 HBB.out.2.1 HBB.out.2.2 ?hne) (Fr.refl _ _) (fun _ => rfl)
      (fun pre W => Hid (WV w5 W OB (widthP (xs.take pre.length)))) (fun _ _ _ => False) ?hI (fun _ _ _ _ h _ => h) ?h0
      (fun x a₁ W => ∃ b,a₁ = { tmps:=#[.agg #[.pointer p,.bool tl,.int .i64 eo],.pointer (some ⟨GB,0,none⟩),.int .i64 0,.pointer (some ⟨OB,0,none⟩),undef,.pointer (some ⟨b,0,none⟩),.pointer (some ⟨GB,0,none⟩),.agg #[.pointer p],.agg #[.pointer p,.bool tl,.int .i64 eo],.int .i64 (n:Nat),.func (.func 77) #[] #[.pointer (some ⟨bi,0,none⟩),.pointer (some ⟨bj,0,none⟩),.pointer (some ⟨bt,0,none⟩)],.int .i64 (x.1:Nat),x.2.val,undef,undef,undef,undef,undef],defers:=[] } ∧ Blk W b TRow #[.slice x.2.A x.2.n x.2.c,.int .i64 x.2.e,.bool x.2.h]) ?hAx ?assign ?body ?done ?stop
    case hne =>
      have key:∀ (x:Nat) (u:Value),w5.cell? ⟨x,0,none⟩ = some u → x ≠ OB → some x ∉ [some OB]:=fun x u hx hn e => by
        rw [List.mem_singleton] at e
        injection e with e
        exact hn e
      have hob:OB < W0.heap.size:=HB0.out.2.2.lt
      exact ⟨key bi _ HBB.out.1 (by have:=HBX.out; omega),key bj _ HBB.out.2.1 (by have:=HBX.out; omega),key bt _ HBB.out.2.2 (by have:=HBX.out; omega)⟩
    case hI =>
      rintro pre W W' h hc
      exact h.out.ch hc
    case h0 => exact HWV0.out
    case hAx =>
      rintro x a₁ W l o o' hl ho ⟨b,rfl,hb⟩
      refine ⟨b,rfl,?_⟩
      unfold Blk at hb ⊢
      rw [World.putObj_heap_other]
      · exact hb
      · intro e; subst e; rw [hb] at hl; injection hl with hl; subst hl; cases ho
    case assign =>
      intro l x W K hK
      obtain ⟨xq,⟨rA,rn,rc,re,rh⟩⟩:=x
      simp only [encR,RV.val]
      gi_wp2
      refine hK _ _ ((Fr.refl [] W).alloc _) ⟨W.heap.size,rfl,Blk.new W TRow _⟩
    case body =>
      rintro l pre x a₁ W HWV0' hpx ⟨b,rfl,hb⟩
      obtain ⟨xq,⟨rA,rn,rc,re,rh⟩⟩:=x
      simp only [RV.val] at hb ⊢
      obtain ⟨hq,hqn,hqr⟩:=allR_at _ _ _ _ _ hpx
      subst hq
      obtain ⟨q,hq⟩:∃ q,q = pre.length:=⟨_,rfl⟩
      rw [← hq] at hqn hqr HWV0' ⊢
      have hql:q < xs.length:=by rw [← HN.out.1]; exact hqn
      have hrv:xs[q] = ⟨rA,rn,rc,re,rh⟩:=by
        rw [hqr,List.getD_eq_getElem?_getD,List.getElem?_eq_getElem hql]
        rfl
      have hrn:rn ≤ 1000:=by
        have:=HC.out _ (List.getElem_mem hql)
        rw [hrv] at this
        exact this
      obtain ⟨m,hm⟩:∃ m,m = widthP (xs.take q):=⟨_,rfl⟩
      have HQ0:Hid (q = pre.length ∧ widthP (xs.take (q + 1)) = max m rn):=by
        refine ⟨hq,?_⟩
        rw [List.take_succ_eq_append_getElem hql,hrv,hm]
        simp [widthP]
      rw [← hm] at HWV0'
      have HWV:Hid (WV w5 W OB m):=HWV0'
      have o0:W.cell? ⟨OB,0,none⟩ = some (.int .i64 (m:Nat)):=HWV.out.box.cell 0
      have b0:W.cell? ⟨b,0,none⟩ = some (.slice rA rn rc):=hb.cell 0
      have b1:W.cell? ⟨b,1,none⟩ = some (.int .i64 re):=hb.cell 1
      have b2:W.cell? ⟨b,2,none⟩ = some (.bool rh):=hb.cell 2
      clear hq hqr hql hrv hrn hm hb HWV0' hpx hqn
      rcases Nat.lt_or_ge m rn with hlt | hge
      · have HQ:Hid (q = pre.length ∧ widthP (xs.take (q + 1)) = rn):=⟨HQ0.out.1,by rw [HQ0.out.2]; omega⟩
        have h1:(m:Int) < (rn:Int):=by omega
        have h2:(m:Int) ≤ (rn:Int):=by omega
        have h3:¬ (rn:Int) < (m:Int):=by omega
        have h4:¬ (rn:Int) ≤ (m:Int):=by omega
        clear hlt HQ0
        gi_wp2
        refine wpIn_region_any (by kernel_rfl) ?_
        change wpAnyIn _ _ _ _ _ _ _ _ _ (World.drew _)
        refine wpAnyIn_ready (rs:=[0,1]) (by kernel_rfl) (by simp) ?_
        refine AllReadyIn.cons rfl (fun K hK => ?_) (AllReadyIn.cons rfl (fun K hK => ?_) AllReadyIn.nil)
        · go_simp
          refine hK _ _ ?_
          clear hK K
          refine wpAnyIn_ready (rs:=[1]) (by kernel_rfl) (by simp) ?_
          refine AllReadyIn.cons rfl (fun K hK => ?_) AllReadyIn.nil
          go_simp
          refine hK _ _ ?_
          clear hK K
          refine wpAnyIn_ready (rs:=[2]) (by kernel_rfl) (by simp) ?_
          refine AllReadyIn.cons rfl (fun K hK => ?_) AllReadyIn.nil
          rw [if_pos (by simp [Region.wanted])]
          refine wpIn_call (by intro c h; cases h) (f:=40) (vs:=#[.agg #[.slice rA rn rc,.int .i64 re,.bool rh]]) (by go_simp) (rowlen_any _ rA rn rc re rh) (by rintro e w' ⟨he,_⟩; exact ⟨_,he⟩) ?_
          intro v10 w10 hans
          obtain ⟨hv10,hf10⟩:=hans
          injection hv10 with hv10
          subst hv10
          have HF10:Hid (Fr [] W w10):=((Fr.refl [] W).drew).trans hf10
          have HWV10:=Lib.hid (HWV.out.fr0 HF10.out)
          have o0:w10.cell? ⟨OB,0,none⟩ = some (.int .i64 (m:Nat)):=HWV10.out.box.cell 0
          have oz:=HWV10.out.box.frozen 0
          have ol:=HWV10.out.box.lt
          clear hf10
          try go_simp
          refine hK _ _ ?_
          clear hK K
          refine wpAnyIn_ready (rs:=[3]) (by kernel_rfl) (by simp) ?_
          refine AllReadyIn.cons rfl (fun K hK => ?_) AllReadyIn.nil
          go_simp
          refine hK _ _ ?_
          clear hK K
          refine wpAnyIn_ready (rs:=[4]) (by kernel_rfl) (by simp) ?_
          refine AllReadyIn.cons rfl (fun K hK => ?_) AllReadyIn.nil
          go_simp
          refine hK _ _ ?_
          clear hK K
          refine wpAnyIn_done (by kernel_rfl) ?_ _
          gi_wp2
          have hf11:Fr [some OB] w10 (w10.setCell ⟨OB,0,none⟩ (.int .i64 (rn:Nat))):=(Fr.refl _ _).setB (fun _ => by simp) 0 _
          refine ⟨(KeepsI.of_fr HF10.out).trans (HWV10.out.keeps hf11 rfl (List.mem_singleton.2 rfl)),?_⟩
          show Hid (WV w5 _ OB (widthP (xs.take (pre ++ [_]).length)))
          rw [List.length_append,List.length_singleton,← HQ.out.1,HQ.out.2]
          exact HWV10.out.put rn
        · go_simp
          refine hK _ _ ?_
          clear hK K
          refine wpAnyIn_ready (rs:=[0,2]) (by kernel_rfl) (by simp) ?_
          refine AllReadyIn.cons rfl (fun K hK => ?_) (AllReadyIn.cons rfl (fun K hK => ?_) AllReadyIn.nil)
          · go_simp
            refine hK _ _ ?_
            clear hK K
            refine wpAnyIn_ready (rs:=[2]) (by kernel_rfl) (by simp) ?_
            refine AllReadyIn.cons rfl (fun K hK => ?_) AllReadyIn.nil
            rw [if_pos (by simp [Region.wanted])]
            refine wpIn_call (by intro c h; cases h) (f:=40) (vs:=#[.agg #[.slice rA rn rc,.int .i64 re,.bool rh]]) (by go_simp) (rowlen_any _ rA rn rc re rh) (by rintro e w' ⟨he,_⟩; exact ⟨_,he⟩) ?_
            intro v10 w10 hans
            obtain ⟨hv10,hf10⟩:=hans
            injection hv10 with hv10
            subst hv10
            have HF10:Hid (Fr [] W w10):=((Fr.refl [] W).drew).trans hf10
            have HWV10:=Lib.hid (HWV.out.fr0 HF10.out)
            have o0:w10.cell? ⟨OB,0,none⟩ = some (.int .i64 (m:Nat)):=HWV10.out.box.cell 0
            have oz:=HWV10.out.box.frozen 0
            have ol:=HWV10.out.box.lt
            clear hf10
            try go_simp
            refine hK _ _ ?_
            clear hK K
            refine wpAnyIn_ready (rs:=[3]) (by kernel_rfl) (by simp) ?_
            refine AllReadyIn.cons rfl (fun K hK => ?_) AllReadyIn.nil
            go_simp
            refine hK _ _ ?_
            clear hK K
            refine wpAnyIn_ready (rs:=[4]) (by kernel_rfl) (by simp) ?_
            refine AllReadyIn.cons rfl (fun K hK => ?_) AllReadyIn.nil
            go_simp
            refine hK _ _ ?_
            clear hK K
            refine wpAnyIn_done (by kernel_rfl) ?_ _
            gi_wp2
            have hf11:Fr [some OB] w10 (w10.setCell ⟨OB,0,none⟩ (.int .i64 (rn:Nat))):=(Fr.refl _ _).setB (fun _ => by simp) 0 _
            refine ⟨(KeepsI.of_fr HF10.out).trans (HWV10.out.keeps hf11 rfl (List.mem_singleton.2 rfl)),?_⟩
            show Hid (WV w5 _ OB (widthP (xs.take (pre ++ [_]).length)))
            rw [List.length_append,List.length_singleton,← HQ.out.1,HQ.out.2]
            exact HWV10.out.put rn
          · rw [if_pos (by simp [Region.wanted])]
            refine wpIn_call (by intro c h; cases h) (f:=40) (vs:=#[.agg #[.slice rA rn rc,.int .i64 re,.bool rh]]) (by go_simp) (rowlen_any _ rA rn rc re rh) (by rintro e w' ⟨he,_⟩; exact ⟨_,he⟩) ?_
            intro v10 w10 hans
            obtain ⟨hv10,hf10⟩:=hans
            injection hv10 with hv10
            subst hv10
            have HF10:Hid (Fr [] W w10):=((Fr.refl [] W).drew).trans hf10
            have HWV10:=Lib.hid (HWV.out.fr0 HF10.out)
            have o0:w10.cell? ⟨OB,0,none⟩ = some (.int .i64 (m:Nat)):=HWV10.out.box.cell 0
            have oz:=HWV10.out.box.frozen 0
            have ol:=HWV10.out.box.lt
            clear hf10
            try go_simp
            refine hK _ _ ?_
            clear hK K
            refine wpAnyIn_ready (rs:=[0]) (by kernel_rfl) (by simp) ?_
            refine AllReadyIn.cons rfl (fun K hK => ?_) AllReadyIn.nil
            go_simp
            refine hK _ _ ?_
            clear hK K
            refine wpAnyIn_ready (rs:=[3]) (by kernel_rfl) (by simp) ?_
            refine AllReadyIn.cons rfl (fun K hK => ?_) AllReadyIn.nil
            go_simp
            refine hK _ _ ?_
            clear hK K
            refine wpAnyIn_ready (rs:=[4]) (by kernel_rfl) (by simp) ?_
            refine AllReadyIn.cons rfl (fun K hK => ?_) AllReadyIn.nil
            go_simp
            refine hK _ _ ?_
            clear hK K
            refine wpAnyIn_done (by kernel_rfl) ?_ _
            gi_wp2
            have hf11:Fr [some OB] w10 (w10.setCell ⟨OB,0,none⟩ (.int .i64 (rn:Nat))):=(Fr.refl _ _).setB (fun _ => by simp) 0 _
            refine ⟨(KeepsI.of_fr HF10.out).trans (HWV10.out.keeps hf11 rfl (List.mem_singleton.2 rfl)),?_⟩
            show Hid (WV w5 _ OB (widthP (xs.take (pre ++ [_]).length)))
            rw [List.length_append,List.length_singleton,← HQ.out.1,HQ.out.2]
            exact HWV10.out.put rn
      · have HQ:Hid (q = pre.length ∧ widthP (xs.take (q + 1)) = m):=⟨HQ0.out.1,by rw [HQ0.out.2]; omega⟩
        have h1:¬ (m:Int) < (rn:Int):=by omega
        have h2:(rn:Int) ≤ (m:Int):=by omega
        clear hge HQ0
        gi_wp2
        refine wpIn_region_any (by kernel_rfl) ?_
        change wpAnyIn _ _ _ _ _ _ _ _ _ (World.drew _)
        refine wpAnyIn_ready (rs:=[0,1]) (by kernel_rfl) (by simp) ?_
        refine AllReadyIn.cons rfl (fun K hK => ?_) (AllReadyIn.cons rfl (fun K hK => ?_) AllReadyIn.nil)
        · go_simp
          refine hK _ _ ?_
          clear hK K
          refine wpAnyIn_ready (rs:=[1]) (by kernel_rfl) (by simp) ?_
          refine AllReadyIn.cons rfl (fun K hK => ?_) AllReadyIn.nil
          go_simp
          refine hK _ _ ?_
          clear hK K
          refine wpAnyIn_ready (rs:=[2]) (by kernel_rfl) (by simp) ?_
          refine AllReadyIn.cons rfl (fun K hK => ?_) AllReadyIn.nil
          rw [if_pos (by simp [Region.wanted])]
          refine wpIn_call (by intro c h; cases h) (f:=40) (vs:=#[.agg #[.slice rA rn rc,.int .i64 re,.bool rh]]) (by go_simp) (rowlen_any _ rA rn rc re rh) (by rintro e w' ⟨he,_⟩; exact ⟨_,he⟩) ?_
          intro v10 w10 hans
          obtain ⟨hv10,hf10⟩:=hans
          injection hv10 with hv10
          subst hv10
          have HF10:Hid (Fr [] W w10):=((Fr.refl [] W).drew).trans hf10
          have HWV10:=Lib.hid (HWV.out.fr0 HF10.out)
          have o0:w10.cell? ⟨OB,0,none⟩ = some (.int .i64 (m:Nat)):=HWV10.out.box.cell 0
          have oz:=HWV10.out.box.frozen 0
          have ol:=HWV10.out.box.lt
          clear hf10
          try go_simp
          refine hK _ _ ?_
          clear hK K
          refine wpAnyIn_ready (rs:=[3]) (by kernel_rfl) (by simp) ?_
          refine AllReadyIn.cons rfl (fun K hK => ?_) AllReadyIn.nil
          go_simp
          refine hK _ _ ?_
          clear hK K
          refine wpAnyIn_ready (rs:=[4]) (by kernel_rfl) (by simp) ?_
          refine AllReadyIn.cons rfl (fun K hK => ?_) AllReadyIn.nil
          go_simp
          refine hK _ _ ?_
          clear hK K
          refine wpAnyIn_done (by kernel_rfl) ?_ _
          gi_wp2
          have hf11:Fr [some OB] w10 (w10.setCell ⟨OB,0,none⟩ (.int .i64 (m:Nat))):=(Fr.refl _ _).setB (fun _ => by simp) 0 _
          refine ⟨(KeepsI.of_fr HF10.out).trans (HWV10.out.keeps hf11 rfl (List.mem_singleton.2 rfl)),?_⟩
          show Hid (WV w5 _ OB (widthP (xs.take (pre ++ [_]).length)))
          rw [List.length_append,List.length_singleton,← HQ.out.1,HQ.out.2]
          exact HWV10.out.put m
        · go_simp
          refine hK _ _ ?_
          clear hK K
          refine wpAnyIn_ready (rs:=[0,2]) (by kernel_rfl) (by simp) ?_
          refine AllReadyIn.cons rfl (fun K hK => ?_) (AllReadyIn.cons rfl (fun K hK => ?_) AllReadyIn.nil)
          · go_simp
            refine hK _ _ ?_
            clear hK K
            refine wpAnyIn_ready (rs:=[2]) (by kernel_rfl) (by simp) ?_
            refine AllReadyIn.cons rfl (fun K hK => ?_) AllReadyIn.nil
            rw [if_pos (by simp [Region.wanted])]
            refine wpIn_call (by intro c h; cases h) (f:=40) (vs:=#[.agg #[.slice rA rn rc,.int .i64 re,.bool rh]]) (by go_simp) (rowlen_any _ rA rn rc re rh) (by rintro e w' ⟨he,_⟩; exact ⟨_,he⟩) ?_
            intro v10 w10 hans
            obtain ⟨hv10,hf10⟩:=hans
            injection hv10 with hv10
            subst hv10
            have HF10:Hid (Fr [] W w10):=((Fr.refl [] W).drew).trans hf10
            have HWV10:=Lib.hid (HWV.out.fr0 HF10.out)
            have o0:w10.cell? ⟨OB,0,none⟩ = some (.int .i64 (m:Nat)):=HWV10.out.box.cell 0
            have oz:=HWV10.out.box.frozen 0
            have ol:=HWV10.out.box.lt
            clear hf10
            try go_simp
            refine hK _ _ ?_
            clear hK K
            refine wpAnyIn_ready (rs:=[3]) (by kernel_rfl) (by simp) ?_
            refine AllReadyIn.cons rfl (fun K hK => ?_) AllReadyIn.nil
            go_simp
            refine hK _ _ ?_
            clear hK K
            refine wpAnyIn_ready (rs:=[4]) (by kernel_rfl) (by simp) ?_
            refine AllReadyIn.cons rfl (fun K hK => ?_) AllReadyIn.nil
            go_simp
            refine hK _ _ ?_
            clear hK K
            refine wpAnyIn_done (by kernel_rfl) ?_ _
            gi_wp2
            have hf11:Fr [some OB] w10 (w10.setCell ⟨OB,0,none⟩ (.int .i64 (m:Nat))):=(Fr.refl _ _).setB (fun _ => by simp) 0 _
            refine ⟨(KeepsI.of_fr HF10.out).trans (HWV10.out.keeps hf11 rfl (List.mem_singleton.2 rfl)),?_⟩
            show Hid (WV w5 _ OB (widthP (xs.take (pre ++ [_]).length)))
            rw [List.length_append,List.length_singleton,← HQ.out.1,HQ.out.2]
            exact HWV10.out.put m
          · rw [if_pos (by simp [Region.wanted])]
            refine wpIn_call (by intro c h; cases h) (f:=40) (vs:=#[.agg #[.slice rA rn rc,.int .i64 re,.bool rh]]) (by go_simp) (rowlen_any _ rA rn rc re rh) (by rintro e w' ⟨he,_⟩; exact ⟨_,he⟩) ?_
            intro v10 w10 hans
            obtain ⟨hv10,hf10⟩:=hans
            injection hv10 with hv10
            subst hv10
            have HF10:Hid (Fr [] W w10):=((Fr.refl [] W).drew).trans hf10
            have HWV10:=Lib.hid (HWV.out.fr0 HF10.out)
            have o0:w10.cell? ⟨OB,0,none⟩ = some (.int .i64 (m:Nat)):=HWV10.out.box.cell 0
            have oz:=HWV10.out.box.frozen 0
            have ol:=HWV10.out.box.lt
            clear hf10
            try go_simp
            refine hK _ _ ?_
            clear hK K
            refine wpAnyIn_ready (rs:=[0]) (by kernel_rfl) (by simp) ?_
            refine AllReadyIn.cons rfl (fun K hK => ?_) AllReadyIn.nil
            go_simp
            refine hK _ _ ?_
            clear hK K
            refine wpAnyIn_ready (rs:=[3]) (by kernel_rfl) (by simp) ?_
            refine AllReadyIn.cons rfl (fun K hK => ?_) AllReadyIn.nil
            go_simp
            refine hK _ _ ?_
            clear hK K
            refine wpAnyIn_ready (rs:=[4]) (by kernel_rfl) (by simp) ?_
            refine AllReadyIn.cons rfl (fun K hK => ?_) AllReadyIn.nil
            go_simp
            refine hK _ _ ?_
            clear hK K
            refine wpAnyIn_done (by kernel_rfl) ?_ _
            gi_wp2
            have hf11:Fr [some OB] w10 (w10.setCell ⟨OB,0,none⟩ (.int .i64 (m:Nat))):=(Fr.refl _ _).setB (fun _ => by simp) 0 _
            refine ⟨(KeepsI.of_fr HF10.out).trans (HWV10.out.keeps hf11 rfl (List.mem_singleton.2 rfl)),?_⟩
            show Hid (WV w5 _ OB (widthP (xs.take (pre ++ [_]).length)))
            rw [List.length_append,List.length_singleton,← HQ.out.1,HQ.out.2]
            exact HWV10.out.put m
    case done =>
      rintro D W hD HWV hK
      have hle:xs.take (allR xs 0 n).length = xs:=List.take_of_length_le (by rw [allR_len]; have:=HN.out; omega)
      rw [hle] at HWV
      have o0:W.cell? ⟨OB,0,none⟩ = some (.int .i64 (widthP xs:Nat)):=HWV.out.box.cell 0
      have HKD:=Lib.hid hK
      have HDD:=Lib.hid hD
      clear hK hD
      go_wp2_with fail
      refine ⟨by simp,.inl ⟨_,_,rfl,run_takeDeferred HKD.out,?_⟩⟩
      have hc:=HWV.out.ch (ChI.put (o':=.deferred none) HKD.out rfl HDD.out)
      refine ⟨_,results_tmp rfl _ _ _,rfl,?_⟩
      refine (HB0.out.1.trans HF5.out).seq hc.fr fun x hx => ?_
      rw [List.mem_singleton] at hx
      exact .inr (.inr ⟨OB,by have:=HNB.out; omega,hx⟩)
    case stop =>
      rintro D c pre W _ h _
      exact h.elim
end Go.Proofs.YteohomdiklkbfaaGreat
