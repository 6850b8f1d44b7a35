import Derived.Test.YtblafakafgediaaGreatF34
import Derived.Test.YtblafakafgediaaGreatF13
import Derived.Test.YtblafakafgediaaGreatF12
import Derived.Test.YtblafakafgediaaGreatF11
namespace Go.Proofs.YtblafakafgediaaGreat
open Go.RowKit Go.Shelf Go.Proofs.Dm
attribute [local go_sem] Oper.semAt_some

structure WT (w2 W:World) (TB MB:Nat) (t m:Int):Prop where
  tb:Blk W TB 3 #[.int .i64 t]
  mb:Blk W MB 3 #[.int .i64 m]
  fr:Fr [some TB,some MB] w2 W
  lt:TB < w2.heap.size ∧ MB < w2.heap.size
  ne:TB ≠ MB
section
variable {w2 W W':World} {TB MB:Nat} {t m:Int}
theorem WT.fr0 (h:WT w2 W TB MB t m) (hf:Fr [] W W'):WT w2 W' TB MB t m:=⟨h.tb.fr hf (by simp),h.mb.fr hf (by simp),h.fr.trans hf.of_nil,h.lt,h.ne⟩
theorem WT.ch (h:WT w2 W TB MB t m) (hc:ChI w2.heap.size W W'):WT w2 W' TB MB t m:=⟨hc.block _ _ h.tb (.inl h.lt.1),hc.block _ _ h.mb (.inl h.lt.2),fr_ch h.fr hc,h.lt,h.ne⟩
theorem WT.put (h:WT w2 W TB MB t m) (t' m':Int):WT w2 ((W.setCell ⟨TB,0,none⟩ (.int .i64 t')).setCell ⟨MB,0,none⟩ (.int .i64 m')) TB MB t' m' :=
  ⟨(h.tb.set_ 0 _).far (fun e => h.ne e) _,(h.mb.far (fun e => h.ne e.symm) _).set_ 0 _,(h.fr.setB (fun _ => by simp) 0 _).setB (fun _ => by simp) 0 _,h.lt,h.ne⟩
theorem WT.keeps {b:Nat} {E:List (Option Nat)} (h:WT w2 W TB MB t m) (hf:Fr [some TB,some MB] W W') (hb:b = w2.heap.size) (hT:some TB ∈ E) (hM:some MB ∈ E):KeepsI E b W W':=by
  subst hb
  refine KeepsI.of_frS hf fun k hk hlt => ?_
  rcases List.mem_cons.1 hk with e | e
  · injection e with e
    subst e
    exact ⟨.inr hT,_,h.tb,by simp [itT]; decide⟩
  · rw [List.mem_singleton] at e
    injection e with e
    subst e
    exact ⟨.inr hM,_,h.mb,by simp [itT]; decide⟩
end
def topOf (l:List (Nat × RV)) (last:Nat):Nat:=(((shownR l).getLast?).map (·.1)).getD last
def highP (xs:List RV) (j h last:Nat):Nat:=((((shownR (downR xs j 0)).take h).getLast?).map (·.1)).getD last
theorem topOf_snoc (l:List (Nat × RV)) (x:Nat × RV) (last:Nat):topOf (l ++ [x]) last = if x.2.h then topOf l last else x.1:=by
  unfold topOf
  rw [shownR_snoc]
  cases x.2.h <;> simp
theorem highP_cut (xs:List RV) (j h last:Nat) (pre:List (Nat × RV)) (x:Nat × RV) (hp:pre ++ [x] <+: downR xs j 0) (hx:x.2.h = false) (hl:(shownR pre).length + 1 = h):highP xs j h last = x.1:=by
  obtain ⟨t,ht⟩:=hp
  have h1:shownR (pre ++ [x]) = shownR pre ++ [x]:=by rw [shownR_snoc,hx]; rfl
  have h2:shownR (downR xs j 0) = (shownR pre ++ [x]) ++ shownR t:=by
    rw [← ht,← h1]
    unfold shownR
    rw [List.filter_append]
  unfold highP
  rw [h2,List.take_append_of_le_length (by simp; omega),List.take_of_length_le (by simp; omega)]
  simp
theorem highP_all (xs:List RV) (j h last:Nat) (hl:(shownR (downR xs j 0)).length ≤ h):highP xs j h last = topOf (downR xs j 0) last:=by
  unfold highP topOf
  rw [List.take_of_length_le hl]
set_option maxRecDepth 100000 in
set_option maxHeartbeats 1600000 in
theorem highest_any (w:World) (p:Option Addr) (tl:Bool) (eo:Int) (xs:List RV) (n h last j:Nat) (top left wid:Int) (ht:TreeAt TN [] w p xs) (hn:n = xs.length) (hn7:n ≤ 700) (hh:h ≤ 1000000) (h1:1 ≤ h) (hl:j = last + 1) (hln:last < n) :
    Calls Tryz.prog 70 #[.agg #[.int .i64 top,.int .i64 left,.int .i64 (h:Nat),.int .i64 wid],.agg #[.pointer p,.bool tl,.int .i64 eo],.int .i64 (last:Nat)] w fun en w' => en = .returned (.int .i64 (highP xs j h last:Nat)) ∧ Fr [] w w':=by
  have HRG:Hid (∀ w',Fr [] w w' → Calls Tryz.prog 96 #[.agg #[.pointer p],.int .i64 0,.int .i64 ((last:Nat) + 1:Int)] w' (FuncNewB w' p 0 j)):=by
    show ∀ _,_
    intro w' hf
    exact back_gen [] p xs w' 0 ((last:Nat) + 1:Int) 0 j (ht.fr0 hf) (by omega) (by unfold BegAt; omega) (by rw [← hn]; unfold EndAt; omega)
  have HW:Hid (∀ W0,W0 = (((w.alloc (.cells #[.int .i64 top,.int .i64 left,.int .i64 (h:Nat),.int .i64 wid] 40)).alloc (.cells #[.pointer p,.bool tl,.int .i64 eo] TGr)).alloc (.cells #[.int .i64 (last:Nat)] 3)).alloc (.cells #[.int .i64 0] 3) →
      Fr [] w W0 ∧ Blk W0 w.heap.size 40 #[.int .i64 top,.int .i64 left,.int .i64 (h:Nat),.int .i64 wid] ∧ Blk W0 (w.heap.size + 1) TGr #[.pointer p,.bool tl,.int .i64 eo] ∧ Blk W0 (w.heap.size + 1 + 1) 3 #[.int .i64 (last:Nat)] ∧ Blk W0 (w.heap.size + 1 + 1 + 1) 3 #[.int .i64 0]):=by
    show ∀ _,_
    rintro W0 rfl
    have b1:=Blk.new (w.alloc (.cells #[.int .i64 top,.int .i64 left,.int .i64 (h:Nat),.int .i64 wid] 40)) TGr #[.pointer p,.bool tl,.int .i64 eo]
    have b2:=Blk.new ((w.alloc (.cells #[.int .i64 top,.int .i64 left,.int .i64 (h:Nat),.int .i64 wid] 40)).alloc (.cells #[.pointer p,.bool tl,.int .i64 eo] TGr)) 3 #[.int .i64 (last:Nat)]
    have b3:=Blk.new (((w.alloc (.cells #[.int .i64 top,.int .i64 left,.int .i64 (h:Nat),.int .i64 wid] 40)).alloc (.cells #[.pointer p,.bool tl,.int .i64 eo] TGr)).alloc (.cells #[.int .i64 (last:Nat)] 3)) 3 #[.int .i64 0]
    have c1:=(b1.alloc (.cells #[.int .i64 (last:Nat)] 3)).alloc (.cells #[.int .i64 0] 3)
    have c2:=b2.alloc (.cells #[.int .i64 0] 3)
    simp only [World.size_alloc] at b3 c1 c2
    exact ⟨((((Fr.refl [] w).alloc _).alloc _).alloc _).alloc _,(((Blk.new w _ _).alloc _).alloc _).alloc _,c1,c2,b3⟩
  have HIN:Hid (TreeAt TN [] w p xs):=ht
  have HN:Hid (n = xs.length ∧ n ≤ 700 ∧ j ≤ n ∧ j = last + 1):=⟨hn,hn7,by omega,hl⟩
  have HH:Hid (h ≤ 1000000 ∧ 1 ≤ h):=⟨hh,h1⟩
  have hl6:(last:Int) ≤ 700:=by omega
  clear ht hn hn7 hh h1 hl hln
  refine callsIn_wide.1 (callsIn_of_wp_marks (n:=3) Tryz.func70 rfl trivial (wpIn_wide.2 ?_))
  simp only [Tryz.ntmps70,List.size_toArray,List.length_cons,List.length_nil,Nat.reduceAdd,Nat.reduceSub,Array.replicate_succ,Array.replicate_zero,List.push_toArray,List.append_toArray,List.nil_append,List.cons_append]
  have HCL:Hid (∀ (W0:World) (GB:Nat),Blk W0 GB TGr #[.pointer p,.bool tl,.int .i64 eo] → W0.cell? ⟨GB,0,none⟩ = some (.pointer p)):=fun W0 GB h => h.cell 0
  have g0:((((w.alloc (.cells #[.int .i64 top,.int .i64 left,.int .i64 (h:Nat),.int .i64 wid] 40)).alloc (.cells #[.pointer p,.bool tl,.int .i64 eo] TGr)).alloc (.cells #[.int .i64 (last:Nat)] 3)).alloc (.cells #[.int .i64 0] 3)).cell? ⟨w.heap.size + 1,0,none⟩ = some (.pointer p):=(HW.out _ rfl).2.2.1.cell 0
  go_wp2_with fail
  obtain ⟨W0,hW0⟩:∃ W0,W0 = (((w.alloc (.cells #[.int .i64 top,.int .i64 left,.int .i64 (h:Nat),.int .i64 wid] 40)).alloc (.cells #[.pointer p,.bool tl,.int .i64 eo] TGr)).alloc (.cells #[.int .i64 (last:Nat)] 3)).alloc (.cells #[.int .i64 0] 3):=⟨_,rfl⟩
  obtain ⟨k1,k2,k3,k4,k5⟩:=HW.out W0 hW0
  rw [← hW0]
  obtain ⟨MB,hMB⟩:∃ MB,MB = w.heap.size + 1 + 1 + 1:=⟨_,rfl⟩
  obtain ⟨TB,hTB⟩:∃ TB,TB = w.heap.size + 1 + 1:=⟨_,rfl⟩
  obtain ⟨GB,hGB⟩:∃ GB,GB = w.heap.size + 1:=⟨_,rfl⟩
  obtain ⟨VB,hVB⟩:∃ VB,VB = w.heap.size:=⟨_,rfl⟩
  rw [← hMB] at k5 ⊢
  rw [← hTB] at k4 ⊢
  rw [← hGB] at k3 ⊢
  rw [← hVB] at k2 ⊢
  have HB0:Hid (Fr [] w W0 ∧ Blk W0 GB TGr #[.pointer p,.bool tl,.int .i64 eo] ∧ Blk W0 VB 40 #[.int .i64 top,.int .i64 left,.int .i64 (h:Nat),.int .i64 wid] ∧ Blk W0 TB 3 #[.int .i64 (last:Nat)] ∧ Blk W0 MB 3 #[.int .i64 0]):=⟨k1,k3,k2,k4,k5⟩
  have HNB:Hid (VB = w.heap.size ∧ GB = w.heap.size + 1 ∧ TB = w.heap.size + 1 + 1 ∧ MB = w.heap.size + 1 + 1 + 1):=⟨hVB,hGB,hTB,hMB⟩
  clear hW0 k1 k2 k3 k4 k5 hVB hGB hTB hMB HW g0 HCL
  refine (HRG.out W0 HB0.out.1).mono ?_
  rintro e w5 ⟨bi,bj,bt,rfl,hbi,hbj,hbt,hf5,hx1,hx2,hx3⟩
  have HF5:=Lib.hid hf5
  have HBB:Hid (w5.cell? ⟨bi,0,none⟩ = some (.int .i64 (0:Nat)) ∧ w5.cell? ⟨bj,0,none⟩ = some (.int .i64 (j:Nat)) ∧ w5.cell? ⟨bt,0,none⟩ = some (.pointer p)):=⟨hbi,hbj,hbt⟩
  have HBX:Hid (W0.heap.size ≤ bi ∧ W0.heap.size ≤ bj ∧ W0.heap.size ≤ bt):=⟨hx1,hx2,hx3⟩
  clear hbi hbj hbt hf5 hx1 hx2 hx3
  go_wp2_with fail
  have HTR:Hid (TreeAt TN [some TB,some MB] w5 p xs):=by
    have:=HIN.out
    refine this.grow (E':=[some TB,some MB]) (HB0.out.1.trans HF5.out) fun k hk => ?_
    have h1:=HNB.out
    rcases List.mem_cons.1 hk with hk | hk
    · injection hk with hk; exact .inr (by omega)
    · rw [List.mem_singleton] at hk; injection hk with hk; exact .inr (by omega)
  have HWT0:Hid (WT w5 w5 TB MB (last:Nat) 0):=by
    have q1:=HB0.out.2.2.2.1.fr HF5.out (by simp)
    have q2:=HB0.out.2.2.2.2.fr HF5.out (by simp)
    exact ⟨q1,q2,Fr.refl _ _,⟨q1.lt,q2.lt⟩,by have:=HNB.out; omega⟩
  have HVB:Hid (Blk w5 VB 40 #[.int .i64 top,.int .i64 left,.int .i64 (h:Nat),.int .i64 wid] ∧ VB ≠ TB ∧ VB ≠ MB):=⟨HB0.out.2.2.1.fr HF5.out (by simp),by have:=HNB.out; omega,by have:=HNB.out; omega⟩
  rw [← wpIn_wide (n:=3)]
  refine range_law (E:=[some TB,some MB]) (F:=Fence.wide) rfl (by omega) (gf:=159) rfl trivial (enters_of Tryz.func159 (by kernel_rfl) rfl)
    (back_stops (3 - 1) bi bj bt 0 j w5 p xs (Nat.zero_le _) (by rw [← HN.out.1]; exact HN.out.2.2.1) (by have:=HN.out; omega) HTR.out HBB.out.1 HBB.out.2.1 HBB.out.2.2 ?hne) (Fr.refl _ _) (fun _ => rfl)
    (fun pre W => (shownR pre).length < h ∧ Hid (WT w5 W TB MB (topOf pre last:Nat) ((shownR pre).length:Nat))) (fun cd _ W => cd = .exit 0 ∧ ∃ m:Int,Hid (WT w5 W TB MB (highP xs j h last:Nat) m)) ?hI ?hIx ?h0
    (fun x a₁ W => ∃ b,a₁ = { tmps:=#[.agg #[.int .i64 top,.int .i64 left,.int .i64 (h:Nat),.int .i64 wid],.agg #[.pointer p,.bool tl,.int .i64 eo],.int .i64 (last:Nat),.pointer (some ⟨VB,0,none⟩),.pointer (some ⟨GB,0,none⟩),undef,.int .i64 0,.pointer (some ⟨TB,0,none⟩),.pointer (some ⟨MB,0,none⟩),.int .i64 (x.1:Nat),.pointer (some ⟨b,0,none⟩),.int .i64 (last:Nat),.pointer (some ⟨GB,0,none⟩),.agg #[.pointer p],.int .i64 (last:Nat),.int .i64 ((last:Nat) + 1:Int),.func (.func 159) #[] #[.pointer (some ⟨bi,0,none⟩),.pointer (some ⟨bj,0,none⟩),.pointer (some ⟨bt,0,none⟩)],.int .i64 (x.1:Nat),x.2.val,undef,undef,undef,undef,undef,undef,undef,undef,undef,undef],defers:=[] } ∧ Blk W b TRow #[.slice x.2.A x.2.n x.2.c,.int .i64 x.2.e,.bool x.2.h]) ?hAx ?assign ?body ?done ?stop
  case hne =>
    have key:∀ (x:Nat),W0.heap.size ≤ x → some x ∉ [some TB,some MB]:=fun x hx e => by
      have h1:=HB0.out.2.2.2.1.lt
      have h2:=HB0.out.2.2.2.2.lt
      rcases List.mem_cons.1 e with e | e
      · injection e with e; omega
      · rw [List.mem_singleton] at e; injection e with e; omega
    exact ⟨key bi HBX.out.1,key bj HBX.out.2.1,key bt HBX.out.2.2⟩
  case hI =>
    rintro pre W W' ⟨h1,h2⟩ hc
    exact ⟨h1,h2.out.ch hc⟩
  case hIx =>
    rintro cd pre W W' ⟨h1,m,h2⟩ hc
    exact ⟨h1,m,h2.out.ch hc⟩
  case h0 => exact ⟨by show 0 < h; have:=HH.out; omega,HWT0.out⟩
  case hAx =>
    rintro x a₁ W l o o' hl ho ⟨b,rfl,hb⟩
    refine ⟨b,rfl,?_⟩
    unfold Blk at hb ⊢
    rw [World.putObj_heap_other]
    · exact hb
    · intro e; subst e; rw [hb] at hl; injection hl with hl; subst hl; cases ho
  case assign =>
    intro l x W K hK
    obtain ⟨xq,⟨rA,rn,rc,re,rh⟩⟩:=x
    simp only [encR,RV.val]
    gi_wp2
    refine hK _ _ ((Fr.refl [] W).alloc _) ⟨W.heap.size,rfl,Blk.new W TRow _⟩
  case body =>
    rintro l pre x a₁ W ⟨hsl,HT⟩ hpx ⟨b,rfl,hb⟩
    obtain ⟨xq,⟨rA,rn,rc,re,rh⟩⟩:=x
    simp only [RV.val] at hb ⊢
    have hvb:=HVB.out.1.fr HT.out.fr (fun e => by
      rcases List.mem_cons.1 e with e | e
      · injection e with e; exact HVB.out.2.1 e
      · rw [List.mem_singleton] at e; injection e with e; exact HVB.out.2.2 e)
    obtain ⟨m,hm⟩:∃ m,m = (shownR pre).length:=⟨_,rfl⟩
    obtain ⟨tv,htv⟩:∃ tv,tv = topOf pre last:=⟨_,rfl⟩
    rw [← hm,← htv] at HT
    have v2:W.cell? ⟨VB,2,none⟩ = some (.int .i64 (h:Nat)):=hvb.cell 2
    have t0:W.cell? ⟨TB,0,none⟩ = some (.int .i64 (tv:Nat)):=HT.out.tb.cell 0
    have m0:W.cell? ⟨MB,0,none⟩ = some (.int .i64 (m:Nat)):=HT.out.mb.cell 0
    have zt:=HT.out.tb.frozen 0
    have zm:=HT.out.mb.frozen 0
    have lt:=HT.out.tb.lt
    have lm:=HT.out.mb.lt
    have b2:W.cell? ⟨b,2,none⟩ = some (.bool rh):=hb.cell 2
    have HTS:=Lib.hid (topOf_snoc pre (xq,⟨rA,rn,rc,re,rh⟩) last)
    have HSN:=Lib.hid (shownR_snoc pre (xq,⟨rA,rn,rc,re,rh⟩))
    have HCU:Hid (rh = false → m + 1 = h → highP xs j h last = xq):=by
      show _ → _ → _
      intro e1 e2
      exact highP_cut xs j h last pre _ hpx e1 (by rw [← hm]; exact e2)
    have HM:Hid (m = (shownR pre).length ∧ tv = topOf pre last ∧ m < h):=⟨hm,htv,by rw [hm]; exact hsl⟩
    have n1:¬ TB = MB:=HT.out.ne
    have n2:¬ MB = TB:=fun e => n1 e.symm
    have n3:¬ VB = TB:=HVB.out.2.1
    have n4:¬ VB = MB:=HVB.out.2.2
    have hm6:(m:Int) ≤ 1000000:=by have:=HM.out; have:=HH.out; omega
    clear hvb hb hpx hm htv hsl
    cases rh with
    | true =>
      gi_wp2
      refine ⟨KeepsI.of_fr (Fr.refl _ _),?_,?_⟩
      · rw [HSN.out]; simp only [if_true,List.append_nil]; have:=HM.out; omega
      · show WT _ _ _ _ _ _
        rw [HTS.out,HSN.out]
        simp only [if_true,List.append_nil]
        rw [← HM.out.1,← HM.out.2.1]
        exact HT.out
    | false =>
      by_cases hcut:m + 1 = h
      · have hc1:(m:Int) + 1 = (h:Int):=by omega
        have hc2:((m:Int) + 1 == (h:Int)) = true:=by simpa using hc1
        have HCU2:=Lib.hid (HCU.out (by first | trivial | rfl) hcut)
        clear hcut
        gi_wp2
        have hp:=HT.out.put (xq:Nat) (h:Nat)
        have hfs:Fr [some TB,some MB] W ((W.setCell ⟨TB,0,none⟩ (.int .i64 (xq:Nat))).setCell ⟨MB,0,none⟩ (.int .i64 (h:Nat))):=((Fr.refl _ _).setB (fun _ => by simp) 0 _).setB (fun _ => by simp) 0 _
        refine ⟨HT.out.keeps hfs rfl (List.mem_cons_self ..) (List.mem_cons_of_mem _ (List.mem_singleton.2 rfl)),rfl,(h:Nat),?_⟩
        show WT _ _ _ _ _ _
        rw [HCU2.out]
        exact hp
      · have hc1:¬ (m:Int) + 1 = (h:Int):=by omega
        have hc2:((m:Int) + 1 == (h:Int)) = false:=by simpa using hc1
        have HLT:Hid (m + 1 < h):=by have:=HM.out; show _ < _; omega
        clear hcut
        gi_wp2
        have hp:=HT.out.put (xq:Nat) ((m:Int) + 1)
        have hfs:Fr [some TB,some MB] W ((W.setCell ⟨TB,0,none⟩ (.int .i64 (xq:Nat))).setCell ⟨MB,0,none⟩ (.int .i64 ((m:Int) + 1))):=((Fr.refl _ _).setB (fun _ => by simp) 0 _).setB (fun _ => by simp) 0 _
        refine ⟨HT.out.keeps hfs rfl (List.mem_cons_self ..) (List.mem_cons_of_mem _ (List.mem_singleton.2 rfl)),?_,?_⟩
        · rw [HSN.out]; simp; have:=HM.out; have:=HLT.out; omega
        · show WT _ _ _ _ _ _
          rw [HTS.out,HSN.out]
          simp only [Bool.false_eq_true,if_false,List.length_append,List.length_singleton]
          rw [← HM.out.1]
          exact hp
  case done =>
    rintro D W hD ⟨hsl,HT⟩ hK
    have HGX:Hid (WT w5 W TB MB (highP xs j h last:Nat) ((shownR (downR xs j 0)).length:Nat)):=by show WT _ _ _ _ _ _; rw [highP_all xs j h last (by omega)]; exact HT.out
    generalize (((shownR (downR xs j 0)).length:Nat):Int) = m at HGX
    clear HT hsl
    have o0:W.cell? ⟨TB,0,none⟩ = some (.int .i64 (highP xs j h last:Nat)):=HGX.out.tb.cell 0
    have HDD:=Lib.hid hD
    have HKD:=Lib.hid hK
    clear hD hK
    go_wp2_with fail
    refine ⟨by simp,.inl ⟨_,_,rfl,run_takeDeferred HKD.out,?_⟩⟩
    have hc:=HGX.out.ch (ChI.put (o':=.deferred none) HKD.out rfl HDD.out)
    refine ⟨.int .i64 (highP xs j h last:Nat),by simp [results,Tryz.results70,go_sem],rfl,(HB0.out.1.trans HF5.out).seq hc.fr fun x hx => ?_⟩
    have h3:=HNB.out
    rcases List.mem_cons.1 hx with e | e
    · exact .inr (.inr ⟨TB,by omega,e⟩)
    · rw [List.mem_singleton] at e; exact .inr (.inr ⟨MB,by omega,e⟩)
  case stop =>
    rintro D cd pre W hD ⟨rfl,m,HGX⟩ hK
    have o0:W.cell? ⟨TB,0,none⟩ = some (.int .i64 (highP xs j h last:Nat)):=HGX.out.tb.cell 0
    have HDD:=Lib.hid hD
    have HKD:=Lib.hid hK
    clear hD hK
    rw [wpIn_wide]
    go_wp2_with fail
    refine ⟨by simp,.inl ⟨_,_,rfl,run_takeDeferred HKD.out,?_⟩⟩
    have hc:=HGX.out.ch (ChI.put (o':=.deferred none) HKD.out rfl HDD.out)
    refine ⟨.int .i64 (highP xs j h last:Nat),by simp [results,Tryz.results70,go_sem],rfl,(HB0.out.1.trans HF5.out).seq hc.fr fun x hx => ?_⟩
    have h3:=HNB.out
    rcases List.mem_cons.1 hx with e | e
    · exact .inr (.inr ⟨TB,by omega,e⟩)
    · rw [List.mem_singleton] at e; exact .inr (.inr ⟨MB,by omega,e⟩)
end Go.Proofs.YtblafakafgediaaGreat
namespace Go.Proofs.YtblafakafgediaaGreat
open Go.RowKit Go.Proofs.Dm

def intsV (l:List Int):List Value:=l.map (Value.int .i64)
theorem numI_ints (l:List (Nat × RV)):numI l = intsV (l.map fun x => (x.1:Int)):=by
  unfold numI intsV
  rw [List.map_map]
  rfl
theorem intsV_at {w:World} {A:Option Addr} {l:List Int} (h:Sl w A (intsV l)) {j:Nat} (hj:j < l.length):∃ ad,A = some ad ∧ w.cell? (ad.add j) = some (.int .i64 l[j]):=by
  have hg:(intsV l)[j]? = some (.int .i64 l[j]):=by
    unfold intsV
    rw [List.getElem?_map,List.getElem?_eq_getElem hj]
    rfl
  obtain ⟨ad,hA,_,hc⟩:=h.at_ hg
  exact ⟨ad,hA,hc⟩
set_option maxRecDepth 100000 in
set_option maxHeartbeats 800000 in
theorem indexI_any (w:World) (A:Option Addr) (n c:Nat) (l:List Int) (v:Int) (hA:Sl w A (intsV l)) (hn:n = l.length) (h6:n ≤ 1000000) :
    Calls Tryz.prog 129 #[.slice A n c,.int .i64 v] w fun e w' => (∃ r:Int,e = .returned (.int .i64 r) ∧ (0 ≤ r ↔ v ∈ l)) ∧ Fr [] w w':=by
  have HA:=Lib.hid hA
  have HN:=Lib.hid hn
  have h61:(n:Int) ≤ 1000000:=by omega
  clear hA hn h6
  go_enter Tryz.func129,Tryz.ntmps129
  go_wp2_with fail
  go_loopw [8] (fun iv wr => ∃ j:Nat,iv = .int .i64 j ∧ j ≤ n ∧ Hid (∀ x ∈ l.take j,x ≠ v) ∧ w = wr) (fun iv _ => n - (intOf iv).toNat)
  case atStart => exact ⟨0,rfl,Nat.zero_le _,fun x hx => by simp at hx,rfl⟩
  case round =>
    obtain ⟨j,rfl,hj,HND,rfl⟩:=hrel
    by_cases hlt:j < n
    · have hjl:j < l.length:=by rw [← HN.out]; exact hlt
      obtain ⟨ad,rfl,hcell⟩:=intsV_at HA.out hjl
      obtain ⟨x,hx⟩:∃ x,x = l[j]:=⟨_,rfl⟩
      rw [← hx] at hcell
      have hj0:(0:Int) ≤ (j:Int):=by omega
      have hj1:(j:Int) < (n:Int):=by omega
      have HS:Hid (l.take (j + 1) = l.take j ++ [x]):=by show _ = _; rw [List.take_succ_eq_append_getElem hjl,← hx]
      have HY:Hid (x ∈ l):=by show _ ∈ _; rw [hx]; exact List.getElem_mem hjl
      clear hx hjl
      by_cases h0:v = x
      · have h2:(v == x) = true:=by simpa using h0
        have HV:Hid (v ∈ l):=by show _ ∈ _; rw [h0]; exact HY.out
        go_wp2_with fail
        go_ret
        exact ⟨⟨_,rfl,⟨fun _ => HV.out,fun _ => by omega⟩⟩,Fr.refl _ _⟩
      · have h2:(v == x) = false:=by simpa using h0
        have HNX:Hid (∀ y ∈ l.take (j + 1),y ≠ v):=by
          show ∀ _,_
          intro y hy
          rw [HS.out] at hy
          rcases List.mem_append.1 hy with h | h
          · exact HND.out y h
          · rw [List.mem_singleton] at h; rw [h]; exact fun e => h0 e.symm
        go_wp2_with fail
        go_roundw
        case rel => exact ⟨j + 1,by go_num,by omega,HNX.out,trivial⟩
        case measure => simp [intOf]; omega
    · obtain rfl:j = n:=by omega
      have HE:Hid (v ∉ l):=by
        intro h
        have h1:=HND.out
        rw [HN.out,List.take_length] at h1
        exact h1 v h rfl
      go_wp2_with fail
      go_ret
      exact ⟨⟨-1,rfl,⟨fun h => absurd h (by omega),fun h => absurd h HE.out⟩⟩,Fr.refl _ _⟩
set_option maxHeartbeats 800000 in
theorem containsI_any (w:World) (A:Option Addr) (n c:Nat) (l:List Int) (v:Int) (hA:Sl w A (intsV l)) (hn:n = l.length) (h6:n ≤ 1000000) :
    Calls Tryz.prog 69 #[.slice A n c,.int .i64 v] w fun e w' => e = .returned (.bool (decide (v ∈ l))) ∧ Fr [] w w':=by
  have HI:=Lib.hid (indexI_any w A n c l v hA hn h6)
  clear hA hn h6
  go_enter Tryz.func69,Tryz.ntmps69
  go_wp2_with fail
  refine HI.out.mono ?_
  rintro en w1 ⟨⟨r,rfl,hr⟩,hf1⟩
  have HF1:=Lib.hid hf1
  by_cases h0:0 ≤ r
  · have HD:Hid (decide (v ∈ l) = true):=decide_eq_true (hr.1 h0)
    clear hf1 hr
    go_wp2_with fail
    go_ret
    exact ⟨by rw [HD.out]; rfl,HF1.out⟩
  · have HD:Hid (decide (v ∈ l) = false):=decide_eq_false fun h => h0 (hr.2 h)
    clear hf1 hr
    go_wp2_with fail
    go_ret
    exact ⟨by rw [HD.out]; show Ending.returned (.bool (decide (0 ≤ r))) = _; rw [decide_eq_false (by omega)],HF1.out⟩
set_option maxRecDepth 100000 in
set_option maxHeartbeats 800000 in
theorem sameI_yes (w:World) (A B:Option Addr) (n c d:Nat) (l:List Int) (hA:Sl w A (intsV l)) (hB:Sl w B (intsV l)) (hn:n = l.length) (h6:n ≤ 1000000) :
    Calls Tryz.prog 21 #[.slice A n c,.slice B n d] w fun e w' => e = .returned (.bool true) ∧ Fr [] w w':=by
  have HA:=Lib.hid hA
  have HB:=Lib.hid hB
  have HN:=Lib.hid hn
  have h61:(n:Int) ≤ 1000000:=by omega
  clear hA hB hn h6
  go_enter Tryz.func21,Tryz.ntmps21
  go_wp2_with fail
  go_loopw [13] (fun iv wr => ∃ j:Nat,iv = .int .i64 j ∧ j ≤ n ∧ Hid (Fr [] w wr)) (fun iv _ => n - (intOf iv).toNat)
  case atStart => exact ⟨0,rfl,Nat.zero_le _,Fr.refl _ _⟩
  case round =>
    obtain ⟨j,rfl,hj,HF⟩:=hrel
    by_cases hlt:j < n
    · have hjl:j < l.length:=by rw [← HN.out]; exact hlt
      obtain ⟨ad,rfl,hcell⟩:=intsV_at (HA.out.fr HF.out (.inr List.not_mem_nil)) hjl
      obtain ⟨bd,rfl,hcell2⟩:=intsV_at (HB.out.fr HF.out (.inr List.not_mem_nil)) hjl
      obtain ⟨x,hx⟩:∃ x,x = l[j]:=⟨_,rfl⟩
      rw [← hx] at hcell hcell2
      have hj0:(0:Int) ≤ (j:Int):=by omega
      have hj1:(j:Int) < (n:Int):=by omega
      have hxx:(x != x) = false:=by simp
      clear hx hjl
      go_wp2_with fail
      go_quiet (fail)
      have HF2:Hid (Fr [] w (wr.drewN nq)):=HF.out.trans ((Fr.refl [] wr).drewN nq)
      go_wp2_with fail
      go_roundw
      case rel => exact ⟨j + 1,by go_num,by omega,HF2.out⟩
      case measure => simp [intOf]; omega
    · obtain rfl:j = n:=by omega
      go_wp2_with fail
      go_ret
      exact ⟨rfl,HF.out⟩
end Go.Proofs.YtblafakafgediaaGreat
namespace Go.Proofs.YtblafakafgediaaGreat
open Go.RowKit Go.Proofs.Dm

set_option maxHeartbeats 800000 in
theorem fits_yes (w:World) (a m k:Nat) (h1:1 ≤ m) (h2:a + m ≤ k) (h3:k ≤ 1000):Calls Tryz.prog 181 #[.int .i64 (a:Nat),.int .i64 (m:Nat),.int .i64 (k:Nat)] w fun e w' => e = .returned (.bool true) ∧ Fr [] w w':=by
  have x0:(0:Int) ≤ (a:Int):=by omega
  have x1:(1:Int) ≤ (m:Int):=by omega
  have x2:(m:Int) ≤ (k:Int):=by omega
  have x3:(a:Int) ≤ (k:Int) - (m:Int):=by omega
  have x4:IntKind.i64.wrap ((k:Int) - (m:Int)) = (k:Int) - (m:Int):=IntWalk.i64_in _ (by omega)
  clear h1 h2 h3
  go_enter Tryz.func181,Tryz.ntmps181
  go_wp2_with fail
  go_ret
  exact ⟨rfl,Fr.refl _ _⟩
set_option maxHeartbeats 800000 in
theorem bright_yes (w:World) (r c h m:Nat) (h1:1 ≤ h) (h2:r + h ≤ 400) (h3:1 ≤ m) (h4:c + m ≤ 40):Calls Tryz.prog 137 #[.agg #[.int .i64 (r:Nat),.int .i64 (c:Nat),.int .i64 (h:Nat),.int .i64 (m:Nat)]] w fun e w' => e = .returned (.bool true) ∧ Fr [] w w':=by
  have HA:Hid (∀ w',Calls Tryz.prog 181 #[.int .i64 (r:Nat),.int .i64 (h:Nat),.int .i64 400] w' fun e w'' => e = .returned (.bool true) ∧ Fr [] w' w''):=fun w' => fits_yes w' r h 400 h1 h2 (by omega)
  have HB:Hid (∀ w',Calls Tryz.prog 181 #[.int .i64 (c:Nat),.int .i64 (m:Nat),.int .i64 40] w' fun e w'' => e = .returned (.bool true) ∧ Fr [] w' w''):=fun w' => fits_yes w' c m 40 h3 h4 (by omega)
  have HW:Hid (∀ W,W = w.alloc (.cells #[.int .i64 (r:Nat),.int .i64 (c:Nat),.int .i64 (h:Nat),.int .i64 (m:Nat)] 137) → Fr [] w W ∧ Blk W w.heap.size 137 #[.int .i64 (r:Nat),.int .i64 (c:Nat),.int .i64 (h:Nat),.int .i64 (m:Nat)]):=by
    show ∀ _,_
    rintro W rfl
    exact ⟨(Fr.refl [] w).alloc _,Blk.new w _ _⟩
  clear h1 h2 h3 h4
  go_enter Tryz.func137,Tryz.ntmps137
  go_wp2_with fail
  obtain ⟨W1,hW1⟩:∃ W1,W1 = w.alloc (.cells #[.int .i64 (r:Nat),.int .i64 (c:Nat),.int .i64 (h:Nat),.int .i64 (m:Nat)] 137):=⟨_,rfl⟩
  obtain ⟨k1,k2⟩:=HW.out W1 hW1
  rw [← hW1]
  refine (HA.out W1).mono ?_
  rintro en w2 ⟨rfl,hf2⟩
  have hb:=k2.fr hf2 (by simp)
  have c1:w2.cell? ⟨w.heap.size,1,none⟩ = some (.int .i64 (c:Nat)):=hb.cell 1
  have c3:w2.cell? ⟨w.heap.size,3,none⟩ = some (.int .i64 (m:Nat)):=hb.cell 3
  have HF2:=Lib.hid (k1.trans hf2)
  clear hW1 k1 k2 hb hf2
  go_wp2_with fail
  refine (HB.out w2).mono ?_
  rintro en w3 ⟨rfl,hf3⟩
  have HF3:=Lib.hid (HF2.out.trans hf3)
  clear hf3
  go_wp2_with fail
  go_ret
  exact ⟨rfl,HF3.out⟩
def strV (l:List (List UInt8)):List Value:=l.map fun b => .string ⟨b.toArray⟩
theorem strV_len (l:List (List UInt8)):(strV l).length = l.length:=by simp [strV]
def textsP (s:List UInt8) (cs:List CV) (c m:Nat):List (List UInt8):=(List.range m).map fun k => ((cs[c + k]?).map fun x => atP s (plc x.sp)).getD []
theorem textsP_len (s:List UInt8) (cs:List CV) (c m:Nat):(textsP s cs c m).length = m:=by simp [textsP]
theorem textsP_at (s:List UInt8) (cs:List CV) (c m j:Nat) (h:j < m):(textsP s cs c m).take (j + 1) = (textsP s cs c m).take j ++ [((cs[c + j]?).map fun x => atP s (plc x.sp)).getD []]:=by
  rw [List.take_succ_eq_append_getElem (by rw [textsP_len]; exact h)]
  congr 2
  simp [textsP]
theorem infoStr:(Tryz.prog.info? 9).map (fun i => (i.zero,i.size,i.bytes)) = some (some (Value.string ⟨#[]⟩),1,16):=by kernel_rfl
theorem run_makeStr (n:Nat) (hn:n ≤ 1000000) (W:World):(Instr.makeSlice 128 (.int .i64 (n:Int)) (.int .i64 (n:Int))).run Tryz.prog W = .ok (.slice (some ⟨W.heap.size,0,none⟩) n n) (W.alloc (.cells (List.replicate n (Value.string ⟨#[]⟩)).toArray 9)):=by
  obtain ⟨i0,hi,hz0,hz1,hz2⟩:=info_parts infoStr
  have h:=run_make (P:=Tryz.prog) W 128 9 i0 _ Tryz.underlying128 hi hz0 .i64 .i64 n n (by omega) (Int.le_refl _) (by rw [hz2]; omega) (by omega)
  simp only [Int.toNat_natCast] at h
  rw [h,hz1]
  have:=made_rep (fun v:Value => [v]) (Value.string ⟨#[]⟩) (Value.string ⟨#[]⟩).cells rfl (by decide) n
  rw [show (Value.string ⟨#[]⟩).cells.size = 1 from rfl] at this
  rw [this,show (List.replicate n (Value.string ⟨#[]⟩)).flatMap (fun v => [v]) = List.replicate n (Value.string ⟨#[]⟩) from by
    have:∀ l:List Value,l.flatMap (fun v => [v]) = l:=fun l => by induction l with
      | nil => rfl
      | cons a l ih => rw [List.flatMap_cons,ih]; rfl
    exact this _]
theorem storeV {v:World} {R i:Nat} {t:TypeId} {cs:List Value} {ad:Addr} (had:ad = ⟨R,0,none⟩) (hb:Blk v R t cs.toArray) (hi:i < cs.length) (u:Value) :
    (∃ o,v.cell? (ad.add i) = some o) ∧ v.frozen? (ad.add i) = false ∧ (ad.add i).block < v.heap.size ∧ Blk (v.setCell (ad.add i) u) R t (cs.set i u).toArray ∧ Fr [some R] v (v.setCell (ad.add i) u):=by
  subst had
  rw [add_lit]
  refine ⟨⟨cs[i],?_⟩,hb.frozen _,hb.lt,?_,(Fr.refl [some R] v).setB (by simp) _ _⟩
  · rw [hb.cell]; simp [hi]
  · have:=hb.set_ i u
    simpa using this
theorem str_next (l:List (List UInt8)) (j m:Nat) (b:List UInt8) (hl:l.length = j) (hj:j < m):(strV l ++ List.replicate (m - j) (Value.string ⟨#[]⟩)).set j (.string ⟨b.toArray⟩) = strV (l ++ [b]) ++ List.replicate (m - (j + 1)) (Value.string ⟨#[]⟩):=by
  rw [List.set_append_right _ _ (by rw [strV_len]; omega),strV_len,hl,Nat.sub_self,show m - j = (m - (j + 1)) + 1 by omega,List.replicate_succ]
  unfold strV
  rw [List.map_append,List.append_assoc]
  rfl
theorem str_skip (l:List (List UInt8)) (j m:Nat) (hj:j < m):strV l ++ List.replicate (m - j) (Value.string ⟨#[]⟩) = strV (l ++ [[]]) ++ List.replicate (m - (j + 1)) (Value.string ⟨#[]⟩):=by
  rw [show m - j = (m - (j + 1)) + 1 by omega,List.replicate_succ]
  unfold strV
  rw [List.map_append,List.append_assoc]
  rfl
def TextsAns (w:World) (l:List (List UInt8)) (m:Nat) (en:Ending) (w':World):Prop :=
  ∃ R:Nat,en = .returned (.slice (some ⟨R,0,none⟩) m m) ∧ Blk w' R 9 (strV l).toArray ∧ Fr [] w w' ∧ w.heap.size ≤ R
set_option maxRecDepth 100000 in
set_option maxHeartbeats 1600000 in
theorem texts_any (w:World) (g n d c m:Nat) (e:Int) (h:Bool) (A:Option Addr) (cs:List CV) (s:List UInt8) (ha:ArAt g s w) (hr:RowAt s.length A cs w) (hn:n = cs.length) (h6:n ≤ 1000000) (hc:c ≤ 1000) (hm:m ≤ 1000) (hp:∀ x ∈ cs,(plc x.sp).length ≤ 1000000) (hl:s.length ≤ 1000000) :
    Calls Tryz.prog 138 #[.agg #[.slice A n d,.int .i64 e,.bool h],.pointer (some ⟨g,0,none⟩),.int .i64 (c:Nat),.int .i64 (m:Nat)] w (TextsAns w (textsP s cs c m) m):=by
  have HA:=Lib.hid ha
  have HR:=Lib.hid hr
  have HN:Hid (n = cs.length ∧ n ≤ 1000000):=⟨hn,h6⟩
  have HP:=Lib.hid hp
  have HL:=Lib.hid hl
  have hc6:(c:Int) ≤ 1000:=by omega
  have hm6:(m:Int) ≤ 1000:=by omega
  obtain ⟨ts,hts⟩:∃ ts,ts = textsP s cs c m:=⟨_,rfl⟩
  have HTS:Hid (ts.length = m ∧ ∀ j,j < m → ts.take (j + 1) = ts.take j ++ [((cs[c + j]?).map fun x => atP s (plc x.sp)).getD []]):=⟨by rw [hts]; exact textsP_len _ _ _ _,fun j hj => by rw [hts]; exact textsP_at s cs c m j hj⟩
  rw [← hts]
  have HMK0:=run_makeStr m (by omega)
  obtain ⟨Z,hZ⟩:∃ Z,Z = (List.replicate m (Value.string ⟨#[]⟩)).toArray:=⟨_,rfl⟩
  rw [← hZ] at HMK0
  have HMK:=Lib.hid HMK0
  have HZ:=Lib.hid hZ
  clear HMK0 hZ
  have HW:Hid (∀ W,W = w.alloc (.cells #[.slice A n d,.int .i64 e,.bool h] TRow) → Fr [] w W ∧ Blk W w.heap.size TRow #[.slice A n d,.int .i64 e,.bool h]):=by
    show ∀ _,_
    rintro W rfl
    exact ⟨(Fr.refl [] w).alloc _,Blk.new w _ _⟩
  clear ha hr hn h6 hp hl hc hm hts
  have hmk:=HMK.out (w.alloc (.cells #[.slice A n d,.int .i64 e,.bool h] TRow))
  go_enter Tryz.func138,Tryz.ntmps138
  go_wp2_with fail
  obtain ⟨W1,hW1⟩:∃ W1,W1 = w.alloc (.cells #[.slice A n d,.int .i64 e,.bool h] TRow):=⟨_,rfl⟩
  obtain ⟨k1,k2⟩:=HW.out W1 hW1
  have hsz:W1.heap.size = w.heap.size + 1:=by rw [hW1]; simp
  rw [← hW1]
  rw [← hsz]
  obtain ⟨RB,hRB⟩:∃ RB,RB = w.heap.size:=⟨_,rfl⟩
  rw [← hRB] at k2 ⊢
  obtain ⟨W2,hW2⟩:∃ W2,W2 = W1.alloc (.cells Z 9):=⟨_,rfl⟩
  obtain ⟨R,hR⟩:∃ R,R = W1.heap.size:=⟨_,rfl⟩
  have HST:Hid (Fr [] w W2 ∧ Blk W2 RB TRow #[.slice A n d,.int .i64 e,.bool h] ∧ Blk W2 R 9 (strV (ts.take 0) ++ List.replicate (m - 0) (Value.string ⟨#[]⟩)).toArray ∧ w.heap.size < R ∧ RB = w.heap.size):=by
    rw [hW2,hR]
    refine ⟨k1.alloc _,k2.alloc _,?_,by omega,hRB⟩
    have:=Blk.new W1 9 Z
    rw [HZ.out] at this ⊢
    simpa [strV] using this
  rw [← hW2,← hR]
  obtain ⟨ad,had⟩:∃ ad:Addr,ad = ⟨R,0,none⟩:=⟨_,rfl⟩
  rw [← had]
  have HAD:=Lib.hid had
  clear hW1 k1 k2 hsz hRB hW2 hR had hmk HMK HW
  go_loopw [17] (fun iv wr => ∃ j:Nat,iv = .int .i64 j ∧ j ≤ m ∧ Hid (Fr [] w wr ∧ Blk wr RB TRow #[.slice A n d,.int .i64 e,.bool h] ∧ Blk wr R 9 (strV (ts.take j) ++ List.replicate (m - j) (Value.string ⟨#[]⟩)).toArray)) (fun iv _ => m - (intOf iv).toNat)
  case atStart => exact ⟨0,rfl,Nat.zero_le _,HST.out.1,HST.out.2.1,HST.out.2.2.1⟩
  case round =>
    obtain ⟨j,rfl,hj,HX⟩:=hrel
    by_cases hlt:j < m
    · have hj0:(0:Int) ≤ (j:Int):=by omega
      have hj1:(j:Int) < (m:Int):=by omega
      have b0:wr.cell? ⟨RB,0,none⟩ = some (.slice A n d):=HX.out.2.1.cell 0
      have b1:wr.cell? ⟨RB,1,none⟩ = some (.int .i64 e):=HX.out.2.1.cell 1
      have b2:wr.cell? ⟨RB,2,none⟩ = some (.bool h):=HX.out.2.1.cell 2
      have HTK:=Lib.hid (HTS.out.2 j hlt)
      have HTL:Hid ((ts.take j).length = j):=by show _ = _; rw [List.length_take]; have:=HTS.out.1; omega
      have hw:IntKind.i64.wrap ((c:Int) + (j:Int)) = (c:Int) + (j:Int):=IntWalk.i64_in _ (by omega)
      have HAT:=Lib.hid (rowat_any wr A n d e ((c:Int) + (j:Int)) h cs ((HR.out.1).fr HX.out.1 (.inr List.not_mem_nil)) HN.out.1 HN.out.2)
      have HAC:Hid (atC cs ((c:Int) + (j:Int)) = cs[c + j]?):=by
        show _ = _
        unfold atC
        rw [if_pos (by omega)]
        congr 1
      go_wp2_with fail
      refine HAT.out.mono ?_
      rintro en w3 ⟨xB,xm,xd,xq,xa,xk,xkp,sp,rfl,hget,hf3⟩
      rw [HAC.out] at hget ⊢
      have HF3:Hid (Fr [] w w3):=HX.out.1.trans hf3
      have HRS3:=Lib.hid (HX.out.2.2.fr hf3 (by simp))
      have HRB3:=Lib.hid (HX.out.2.1.fr hf3 (by simp))
      cases hg:cs[c + j]? with
      | none =>
        rw [hg] at HTK
        have HNX:Hid (∀ o,Fr [] w (w3.alloc o) ∧ Blk (w3.alloc o) RB TRow #[.slice A n d,.int .i64 e,.bool h] ∧ Blk (w3.alloc o) R 9 (strV (ts.take (j + 1)) ++ List.replicate (m - (j + 1)) (Value.string ⟨#[]⟩)).toArray):=by
          show ∀ _,_
          intro o
          refine ⟨HF3.out.alloc _,HRB3.out.alloc _,?_⟩
          rw [HTK.out]
          show Blk _ _ _ (strV (ts.take j ++ [[]]) ++ _).toArray
          rw [← str_skip _ j m hlt]
          exact HRS3.out.alloc _
        clear hf3 hget hg HAT b0 b1 b2
        go_wp2_with fail
        go_roundw
        case rel => exact ⟨j + 1,by go_num,by omega,HNX.out _⟩
        case measure => simp [intOf]; omega
      | some x =>
        rw [hg] at HTK hget
        have hxe:x = ⟨xB,xm,xd,sp,xq,xa,xk,xkp⟩:=hget
        have hxm:x ∈ cs:=List.mem_of_getElem? hg
        have HBY:Hid (∀ w',Fr [] w3 w' → Calls Tryz.prog 120 #[.agg #[.slice xB xm xd,.int .i64 (xq:Nat),.int .i64 (xa:Nat),.int .i64 (xk:Nat),.bool xkp],.pointer (some ⟨g,0,none⟩)] w' (BytesAns w' (atP s (plc sp)))):=by
          show ∀ _,_
          intro w' hf
          have h1:=HR.out.2 x hxm
          have h2:=HP.out x hxm
          rw [hxe] at h1 h2
          exact cellbytes_any w' g xm xd xq xa xk xkp xB sp s (HA.out.fr0 (HF3.out.trans hf)) (h1.fr0 (HF3.out.trans hf)) h2 HL.out
        have HTK2:Hid (ts.take (j + 1) = ts.take j ++ [atP s (plc sp)]):=by show _ = _; rw [HTK.out,hxe]; rfl
        have HFA:Hid (Fr [] w3 (w3.alloc (.cells #[.slice xB xm xd,.int .i64 (xq:Nat),.int .i64 (xa:Nat),.int .i64 (xk:Nat),.bool xkp] TCl))):=(Fr.refl [] w3).alloc _
        clear hf3 hget hg HAT b0 b1 b2 hxe hxm HTK
        go_wp2_with fail
        refine (HBY.out _ HFA.out).mono ?_
        rintro en w5 ⟨B5,k5,d5,rfl,hk5,ho5,hf5,hn5⟩
        have hcv:=run_str (P:=Tryz.prog) w5 _ TU8 _ Tryz.underlying66 Tryz.underlying5 Tryz.underlying9 B5 k5 d5 _ hk5 (ORow.sl ho5)
        have HF5:Hid (Fr [] w3 w5):=HFA.out.trans hf5
        obtain ⟨⟨o0,s0⟩,z0,zl,hbk,hfr⟩:=storeV (i:=j) HAD.out (HRS3.out.fr HF5.out (by simp)) (by rw [List.length_append,strV_len,HTL.out,List.length_replicate]; omega) (.string ⟨(atP s (plc sp)).toArray⟩)
        rw [str_next _ j m _ HTL.out hlt,← HTK2.out] at hbk
        have HNX:Hid (Fr [] w (w5.setCell (ad.add j) (.string ⟨(atP s (plc sp)).toArray⟩)) ∧ Blk (w5.setCell (ad.add j) (.string ⟨(atP s (plc sp)).toArray⟩)) RB TRow #[.slice A n d,.int .i64 e,.bool h] ∧ Blk (w5.setCell (ad.add j) (.string ⟨(atP s (plc sp)).toArray⟩)) R 9 (strV (ts.take (j + 1)) ++ List.replicate (m - (j + 1)) (Value.string ⟨#[]⟩)).toArray):=by
          have h3:=HST.out.2.2.2
          refine ⟨(HF3.out.trans HF5.out).seq hfr fun y hy => ?_,(HRB3.out.fr HF5.out (by simp)).fr hfr fun hy => ?_,hbk⟩
          · rw [List.mem_singleton] at hy; exact .inr (.inr ⟨R,by omega,hy⟩)
          · rw [List.mem_singleton] at hy; injection hy with hy; omega
        clear hk5 ho5 hf5 hn5 hbk hfr
        go_wp2_with fail
        go_roundw
        case rel => exact ⟨j + 1,by go_num,by omega,HNX.out⟩
        case measure => simp [intOf]; omega
    · obtain rfl:j = m:=by omega
      have HEND:Hid (Blk wr R 9 (strV ts).toArray):=by
        have h1:=HX.out.2.2
        rw [Nat.sub_self,List.replicate_zero,List.append_nil,List.take_of_length_le (by have:=HTS.out.1; omega)] at h1
        exact h1
      go_wp2_with fail
      go_ret
      exact ⟨R,by rw [HAD.out]; rfl,HEND.out,HX.out.1,by have:=HST.out.2.2.2; omega⟩
end Go.Proofs.YtblafakafgediaaGreat
