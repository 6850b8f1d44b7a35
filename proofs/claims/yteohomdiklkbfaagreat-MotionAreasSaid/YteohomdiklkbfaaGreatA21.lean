import Derived.Test.YteohomdiklkbfaaGreatA20
import Derived.Deep.LoopGhost
import Derived.Deep.RegionWith
import Derived.Deep.RegionHeld3
import Derived.Stop.RegionWithIn
namespace Go.Proofs.YteohomdiklkbfaaGreat
open Go.RowKit Go.Shelf Go.Proofs.Dm
variable {E:List (Option Nat)}
attribute [local go_sem] Oper.semAt_some

def RangeAns {α:Type} (J Jx:List α → World → Prop) (all:List α) (e:Ending) (W':World):Prop:=(∃ v,e = .returned v) ∧ (J all W' ∨ ∃ pre,Jx pre W')
set_option maxRecDepth 100000 in
set_option maxHeartbeats 3200000 in
theorem range_stops (n bi bj bt i j:Nat) (w0:World) (p:Option Addr) (xs:List RV) (hij:i ≤ j) (hj:j ≤ xs.length) (hxs:xs.length ≤ 700) (ht:TreeAt TN E w0 p xs)
    (ci:w0.cell? ⟨bi,0,none⟩ = some (.int .i64 (i:Nat))) (cj:w0.cell? ⟨bj,0,none⟩ = some (.int .i64 (j:Nat))) (ct:w0.cell? ⟨bt,0,none⟩ = some (.pointer p)) (hnE:some bi ∉ E ∧ some bj ∉ E ∧ some bt ∉ E) :
    SeqX E Fence.wide n Tryz.prog 77 #[.pointer (some ⟨bi,0,none⟩),.pointer (some ⟨bj,0,none⟩),.pointer (some ⟨bt,0,none⟩)] encR w0 (allR xs i j):=by
  intro l J Jx W hW hJ hJx hY h0
  have hbi:=World.block_lt_of_cell? w0 _ ci
  have hbj:=World.block_lt_of_cell? w0 _ cj
  have hbt:=World.block_lt_of_cell? w0 _ ct
  have HCI:Hid (∀ w',Fr E w0 w' → w'.cell? ⟨bi,0,none⟩ = some (.int .i64 (i:Nat)) ∧ w'.cell? ⟨bj,0,none⟩ = some (.int .i64 (j:Nat)) ∧ w'.cell? ⟨bt,0,none⟩ = some (.pointer p)):=fun w' hf =>
    ⟨(hf.cell (p:=⟨bi,0,none⟩) hbi hnE.1).trans ci,(hf.cell (p:=⟨bj,0,none⟩) hbj hnE.2.1).trans cj,(hf.cell (p:=⟨bt,0,none⟩) hbt hnE.2.2).trans ct⟩
  obtain ⟨c1,c2,c3⟩:=HCI.out W hW.of_nil
  have HW:=Lib.hid hW
  have HY:=Lib.hid hY
  have HJ:=Lib.hid hJ
  have HJX:=Lib.hid hJx
  have HJ0:=Lib.hid h0
  have HT:=Lib.hid ht
  clear ci cj ct hbi hbj hbt hW hY hJ hJx h0 ht
  refine callsIn_wide.2 ?_
  change Calls Tryz.prog 77 _ W (RangeAns J Jx (allR xs i j))
  by_cases he:i = j
  · subst he
    have hall:allR xs i i = []:=by simp [allR]
    rw [hall]
    go_enter Tryz.func77,Tryz.ntmps77
    go_wp2
    refine bodyPost_ret (results_none rfl _ _ _) rfl ?_
    exact ⟨⟨_,rfl⟩,.inl HJ0.out⟩
  · have hlt:i < j:=by omega
    have hne:((i:Int) == (j:Int)) = false:=by simpa using (show (i:Int) ≠ (j:Int) by omega)
    obtain ⟨g,h,hp,hn⟩:∃ g h,p = some ⟨g,0,none⟩ ∧ NodeAt TN E w0 h (rootLo h) g xs:=by
      rcases HT.out with ⟨_,h⟩ | ⟨g,h,h1,h2⟩
      · subst h; simp at hj; omega
      · exact ⟨g,h,h1,h2⟩
    subst hp
    have hlow:=low hn (by cases h <;> simp [rootLo]) (fun hh => by cases h with | zero => omega | succ h => exact Nat.le_refl 2)
    obtain ⟨W1,hW1⟩:∃ W1,W1 = W.alloc (.cells #[.slice none 0 0] TS):=⟨_,rfl⟩
    have hf1:Fr [] W W1:=by rw [hW1]; exact (Fr.refl [] W).alloc _
    have hs1:StkOf E w0 W1 W.heap.size none 0 []:=⟨⟨by rw [hW1]; exact Blk.new W TS _,ORow.nil_ _ _ _,by simp [bk]⟩,(HW.out.trans hf1).of_nil,HW.out.size,fun j hj => by cases hj⟩
    obtain ⟨d1,d2,d3⟩:=HCI.out W1 (HW.out.trans hf1).of_nil
    have HDOWN:Hid (∀ w',Fr [] W1 w' → Calls Tryz.prog 78 #[.pointer (some ⟨W.heap.size,0,none⟩),.pointer (some ⟨g,0,none⟩),.int .i64 0,.int .i64 (i:Nat)] w' (DownAns E w0 w' W.heap.size xs.length none (h + 1) (xs.drop i))):=by
      show ∀ _,_
      intro w' hf
      have:=down_any w0 w' W.heap.size g h (rootLo h) 0 i i 0 xs.length none [] xs [] (hs1.grow hf) hn ⟨rfl,rfl,rfl⟩ (by omega) (by omega) (by omega) (by simp; omega)
      simpa using this
    have HS1:=Lib.hid hs1
    have HF1:=Lib.hid hf1
    have hJ1:J [] W1:=HJ.out _ _ _ HJ0.out (ChI.of_fr hf1)
    have HJ1:=Lib.hid hJ1
    clear hs1 hf1 hJ1 HJ0
    go_enter Tryz.func77,Tryz.ntmps77
    go_wp2_with fail
    rw [← hW1]
    clear hW1
    go_region_held3 (fun w' => w'.cell? ⟨bi,0,none⟩ = some (.int .i64 (i:Nat)) ∧ w'.cell? ⟨bt,0,none⟩ = some (.pointer (some ⟨g,0,none⟩))) (go_keep)
      (first
      | (go_at_call 79; go_must (refine (root_any _ _).mono ?_; rintro e w2 ⟨rfl,hf2⟩; obtain ⟨d4,d5,d6⟩:=HCI.out w2 ((HW.out.trans HF1.out).drew.trans hf2).of_nil; have HF2:=Lib.hid ((Fr.refl [] W1).drew.trans hf2); clear hf2))
      | (go_at_call 78; go_must (refine (HDOWN.out _ HF2.out).mono ?_; rintro e w3 ⟨A3,cc3,fs3,rfl,q1,q2,q3,q4⟩; have HQ:Hid (StkOf E w0 w3 W.heap.size A3 cc3 fs3 ∧ TopAt E w0 xs.length fs3 (xs.drop i) ∧ StkCh W.heap.size W1 w3 none A3 ∧ fs3.length ≤ h + 1):=⟨q1,q2,(StkCh.fr0 (A:=none) (A':=none) HF2.out rfl).trans q3,q4⟩; obtain ⟨d7,d8,d9⟩:=HCI.out w3 q1.2.1; clear q1 q2 q3 q4)))
    go_simp
    clear d1 d2 d3 d4 d5 d6 c1 c2 c3
    have HJ3:Hid (J (allR xs i i) w3):=by
      have:allR xs i i = []:=by simp [allR]
      rw [this]
      exact HJ.out _ _ _ HJ1.out (chI_of_stk HS1.out (Nat.le_refl _) (fun j hj => by cases hj) HQ.out.2.2.1)
    have HA3:Hid (∀ k,bk A3 = some k → W.heap.size ≤ k):=newA_ch (fun j hj => by cases hj) HF1.out.size HQ.out.2.2.1
    have HZ3:Hid (W.heap.size ≤ w3.heap.size ∧ fs3.length ≤ 700):=⟨by obtain ⟨S,hS,_⟩:=HQ.out.2.2.1; have:=hS.size; have:=HF1.out.size; omega,by have:=HQ.out.2.2.2; omega⟩
    clear HDOWN HF1 HJ1 HF2 HS1
    go_wp2_with fail
    go_loopw [6] (fun av wr => ∃ (q:Nat) (A:Option Addr) (c:Nat) (fs:List (Nat × Nat × Nat)),av = .int .i64 q ∧ i ≤ q ∧ q ≤ j ∧ Hid (StkOf E w0 wr W.heap.size A c fs ∧ TopLe E w0 xs.length fs (xs.drop q) ∧ (∀ k,bk A = some k → W.heap.size ≤ k) ∧ W.heap.size ≤ wr.heap.size ∧ fs.length ≤ 700) ∧ Hid (J (allR xs i q) wr)) (fun av _ => j - (intOf av).toNat)
    case atStart => exact ⟨i,A3,cc3,fs3,rfl,Nat.le_refl _,hij,⟨HQ.out.1,HQ.out.2.1.le,HA3.out,HZ3.out⟩,HJ3.out⟩
    case round =>
      clear HJ3 HA3 HZ3 HQ d7 d8 d9
      obtain ⟨q,A,c,fs,rfl,hiq,hqj,HS,HJQ⟩:=hrel
      obtain ⟨d1,d2,d3⟩:=HCI.out wr HS.out.1.2.1
      by_cases hlt2:q < j
      · obtain ⟨g1,a1,nx,fs2,lo1,xs1,rest,rfl,hn1,hnx,hanc,hL⟩:=HS.out.2.1
        obtain ⟨b,rfl⟩:=ORow.some_ HS.out.1.1.2.1 (by simp)
        obtain ⟨nn,hnn⟩:∃ nn,nn = fs2.length:=⟨_,rfl⟩
        have hnn7:nn ≤ 699:=by have:=HS.out.2.2.2.2; simp at this; omega
        have HTOP:=Lib.hid (top_any W.heap.size b c nn wr (by rw [hnn]; exact HS.out.1.1.1) (by omega))
        have HNN:=Lib.hid hnn
        have HN1:=Lib.hid hn1
        have HANC:=Lib.hid hanc
        have HLQ:=Lib.hid hL
        have hx6:xs1.length ≤ 6:=hn1.2.1
        clear hnn hn1 hanc hL
        go_wp2_with fail
        refine HTOP.out.mono ?_
        rintro e w1 ⟨rfl,hf1⟩
        have hst1:=HS.out.1.grow hf1
        obtain ⟨t0,t1,t2⟩:=hst1.1.top
        rw [← HNN.out] at t0 t1 t2
        simp only at t0 t1 t2
        obtain ⟨_,_,Ai,ci',hci,hk1⟩:=HN1.out.fr hst1.2.1
        have m0:w1.cell? ⟨g1,1,none⟩ = some (.slice Ai xs1.length ci'):=hk1.now.1.cell 1
        have HJ1:Hid (J (allR xs i q) w1):=HJ.out _ _ _ HJQ.out (ChI.of_fr hf1)
        have HS1:Hid (StkOf E w0 w1 W.heap.size (some ⟨b,0,none⟩) c ((g1,a1,nx) :: fs2) ∧ W.heap.size ≤ w1.heap.size):=⟨hst1,Nat.le_trans HS.out.2.2.2.1 hf1.size⟩
        have HAB:Hid (∀ k,bk (some (⟨b,0,none⟩:Addr)) = some k → W.heap.size ≤ k):=HS.out.2.2.1
        clear hst1 hk1 hf1 HTOP HS HJQ d1 d2 d3
        by_cases hend:nx = xs1.length
        · subst hend
          have heq:((xs1.length:Int) == (xs1.length:Int)) = true:=by simp
          have hrest:rest = xs.drop q:=by rw [HLQ.out,List.drop_length,List.nil_append]
          have HFO:Hid (∀ w',Fr [] w1 w' → Calls Tryz.prog 81 #[.pointer (some ⟨W.heap.size,0,none⟩)] w' (ForthAns E w0 w' W.heap.size xs.length (some ⟨b,0,none⟩) (nn + 1) (xs.drop q))):=by
            show ∀ _,_
            intro w' hf
            have:=forth_any w0 w' W.heap.size a1 xs1.length g1 c xs1.length xs.length (some ⟨b,0,none⟩) fs2 (xs.drop q) (HS1.out.1.grow hf) (by rw [← hrest]; exact HANC.out) (by intro h; have:=congrArg List.length h; simp at this; omega) (by omega) (by rw [← HNN.out]; omega)
            rw [← HNN.out] at this
            exact this
          have HD1:Hid (∀ m,Fr [] w1 (w1.drewN m)):=fun m => (Fr.refl [] w1).drewN m
          clear hrest
          go_wp2_with fail
          go_quiet (fail)
          go_wp2_with fail
          refine (HFO.out _ (HD1.out _)).mono ?_
          rintro e w2 ⟨A2,cc2,fs',rfl,q1,q2,q3,q4⟩
          have HST2:Hid (StkOf E w0 w2 W.heap.size A2 cc2 fs' ∧ (∀ k,bk A2 = some k → W.heap.size ≤ k) ∧ W.heap.size ≤ w2.heap.size ∧ fs'.length ≤ 700):=⟨q1,newA_ch HAB.out (by have:=HS1.out.2; have:=(HD1.out nq).size; omega) q3,by obtain ⟨S,hS,_⟩:=q3; have:=hS.size; have:=HS1.out.2; have:=(HD1.out nq).size; omega,by omega⟩
          have HTP:=Lib.hid q2
          have HJ2:Hid (J (allR xs i q) w2):=HJ.out _ _ _ (HJ.out _ _ _ HJ1.out (ChI.of_fr (HD1.out nq))) (chI_of_stk (HS1.out.1.grow (HD1.out nq)) (Nat.le_refl _) HAB.out q3)
          clear q1 q2 q3 q4 t0 t1 t2 m0 HFO
          go_wp2_with fail
          obtain ⟨g2,a2,ny,fs4,lo2,xs2,rest2,rfl,hn2,hny,hanc2,hL2⟩:=HTP.out
          obtain ⟨b2,rfl⟩:=ORow.some_ HST2.out.1.1.2.1 (by simp)
          obtain ⟨nm,hnm⟩:∃ nm,nm = fs4.length:=⟨_,rfl⟩
          have hnm7:nm ≤ 699:=by have:=HST2.out.2.2.2; simp at this; omega
          have HTOP2:=Lib.hid (top_any W.heap.size b2 cc2 nm w2 (by rw [hnm]; exact HST2.out.1.1.1) (by omega))
          have HNM:=Lib.hid hnm
          have HN2:=Lib.hid hn2
          have HANC2:=Lib.hid hanc2
          have HLQ2:=Lib.hid hL2
          have hx62:xs2.length ≤ 6:=hn2.2.1
          clear hnm hn2 hanc2 hL2 HTP
          refine HTOP2.out.mono ?_
          rintro e w3 ⟨rfl,hf3⟩
          have hst3:=HST2.out.1.grow hf3
          obtain ⟨s0,s1,s2⟩:=hst3.1.top
          rw [← HNM.out] at s0 s1 s2
          simp only at s0 s1 s2
          obtain ⟨_,_,Aj,cj',hcj,hk3⟩:=HN2.out.fr hst3.2.1
          have n1:w3.cell? ⟨g2,1,none⟩ = some (.slice Aj xs2.length cj'):=hk3.now.1.cell 1
          obtain ⟨ad,rfl,v0,v1,v2⟩:=sl_rows hk3.now.2 hny
          have hxq:xs.getD q RV.none = xs2[ny]:=by
            have h1:=HLQ2.out
            have h2:(xs.drop q)[0]? = some xs2[ny]:=by
              rw [h1,List.getElem?_append_left (by rw [List.length_drop]; omega),List.getElem?_drop,Nat.add_zero,List.getElem?_eq_getElem hny]
            rw [List.getElem?_drop,Nat.add_zero] at h2
            rw [List.getD_eq_getElem?_getD,h2]; rfl
          have HJ3:Hid (J (allR xs i q) w3.drew):=HJ.out _ _ _ HJ2.out (ChI.of_fr hf3.drew)
          have HY3:=HY.out (allR xs i q) (q,xs.getD q RV.none) w3.drew HJ3.out (allR_snoc xs i q j hiq hlt2).2
          rw [← (allR_snoc xs i q j hiq hlt2).1,hxq] at HY3
          obtain ⟨fn,tmps,assign,body,hy,hR⟩:=HY3
          obtain ⟨⟨rA,rn,rc,re,rh⟩,hr⟩:∃ r,r = xs2[ny]:=⟨_,rfl⟩
          rw [← hr] at v0 v1 v2 hy
          simp only at v0 v1 v2
          simp only [encR,RV.val] at hy
          have hny':(ny:Int) < (xs2.length:Int):=by omega
          have hny0:(0:Int) ≤ (ny:Int):=by omega
          have HS3:=Lib.hid hst3
          have HF3:=Lib.hid hf3
          have HR:Hid (RoundIn Fence.wide (n - 1) Tryz.prog l fn tmps assign body w3.drew fun e W' => ∃ yb:Bool,e = .returned (.bool yb) ∧ Hid ((yb = true → J (allR xs i (q + 1)) W' ∧ KeepsC E w0.heap.size w3.drew W') ∧ (yb = false → Jx (allR xs i (q + 1)) W'))):=by
            refine hR.mono ?_
            rintro e W' (⟨h1,h2,h3⟩ | ⟨h1,h2⟩)
            · exact ⟨true,h1,fun _ => ⟨h2,h3⟩,fun h => by cases h⟩
            · exact ⟨false,h1,fun h => (by cases h),fun _ => h2⟩
          clear hst3 hk3 hxq hr HTOP2 hf3 hR
          go_wp2_with fail
          rw [← wpIn_wide (n:=n)]
          gi_region_with (refine ⟨(by intro h; simp [Fence.wide] at h),HR.out.mono ?_⟩; rintro e W3 ⟨yb,rfl,HYB⟩)
          all_goals go_simp
          all_goals (cases yb with
            | false =>
              go_wp2_with fail
              refine bodyPost_ret (results_none rfl _ _ _) rfl ?_
              exact ⟨⟨_,rfl⟩,.inr ⟨_,by first | exact HYB.out.2 rfl | exact HYB.out.2 trivial⟩⟩
            | true =>
              obtain ⟨hj5,hk5⟩:=HYB.out.1 rfl
              have hst5:=(HS3.out.grow (Fr.drew (Fr.refl [] w3))).keeps hk5
              obtain ⟨z0,z1,z2⟩:=hst5.1.top
              rw [← HNM.out] at z0 z1 z2
              simp only at z0 z1 z2
              have y2:W3.frozen? ⟨b2,nm * 3 + 2,none⟩ = false:=orow_frozen hst5.1.2.1 _
              have yl:b2 < W3.heap.size:=World.block_lt_of_cell? W3 _ z0
              have hset:=stk_setk hst5 2 (by omega) (.int .i64 ((ny:Int) + 1)) (g2,a2,ny + 1) (by rfl)
              rw [← HNM.out] at hset
              have HSET:=Lib.hid hset
              have HJ5:Hid (J (allR xs i (q + 1)) (W3.setCell ⟨b2,nm * 3 + 2,none⟩ (.int .i64 ((ny:Int) + 1)))):=HJ.out _ _ _ hj5 (chI_of_stk hst5 (Nat.le_refl _) HST2.out.2.1 hset.2)
              have HZ5:Hid (W.heap.size ≤ W3.heap.size):=by show _ ≤ _; have:=hk5.2.2.2.1; have:w3.drew.heap.size = w3.heap.size:=rfl; have:=HST2.out.2.2.1; have:=HF3.out.size; omega
              clear hj5 hk5 hst5 hset s0 s1 s2 n1 v0 v1 v2 hy
              go_wp2_with fail
              go_roundw
              case rel =>
                refine ⟨q + 1,some ⟨b2,0,none⟩,cc2,(g2,a2,ny + 1) :: fs4,by go_num,by omega,by omega,⟨HSET.out.1,⟨g2,a2,ny + 1,fs4,lo2,xs2,rest2,rfl,HN2.out,hny,HANC2.out,?_⟩,HST2.out.2.1,?_,by have:=HST2.out.2.2.2; simpa using this⟩,HJ5.out⟩
                · have h1:=HLQ2.out
                  have h2:xs.drop (q + 1) = (xs.drop q).drop 1:=by rw [List.drop_drop]
                  rw [h2,h1,List.drop_append,List.drop_drop,show 1 - (xs2.drop ny).length = 0 by rw [List.length_drop]; omega]
                  rfl
                · have:=HZ5.out
                  simpa [World.setCell] using this
              case measure => simp [intOf]; omega)
        · have heq:((nx:Int) == (xs1.length:Int)) = false:=by simpa using (show (nx:Int) ≠ (xs1.length:Int) by omega)
          go_wp2_with fail
          go_quiet (fail)
          obtain ⟨w2,hw2⟩:∃ w2,w2 = w1.drewN nq:=⟨_,rfl⟩
          rw [← hw2]
          have hf2:Fr [] w1 w2:=by rw [hw2]; exact (Fr.refl [] w1).drewN nq
          have hst2:=HS1.out.1.grow hf2
          have HST2:Hid (StkOf E w0 w2 W.heap.size (some ⟨b,0,none⟩) c ((g1,a1,nx) :: fs2) ∧ (∀ k,bk (some (⟨b,0,none⟩:Addr)) = some k → W.heap.size ≤ k) ∧ W.heap.size ≤ w2.heap.size ∧ ((g1,a1,nx) :: fs2).length ≤ 700):=⟨hst2,HAB.out,Nat.le_trans HS1.out.2 hf2.size,by simp; have:=HNN.out; omega⟩
          have HTP:Hid (TopAt E w0 xs.length ((g1,a1,nx) :: fs2) (xs.drop q)):=⟨g1,a1,nx,fs2,lo1,xs1,rest,rfl,HN1.out,by omega,HANC.out,HLQ.out⟩
          have HJ2:Hid (J (allR xs i q) w2):=HJ.out _ _ _ HJ1.out (ChI.of_fr hf2)
          clear hw2 hf2 hst2 t0 t1 t2 m0
          generalize ((g1,a1,nx) :: fs2) = fs' at HST2 HTP
          generalize (some (⟨b,0,none⟩:Addr)) = A2 at HST2
          obtain ⟨cc2,hcc2⟩:∃ cc2,cc2 = c:=⟨_,rfl⟩
          rw [← hcc2] at HST2
          clear hcc2
          go_wp2_with fail
          obtain ⟨g2,a2,ny,fs4,lo2,xs2,rest2,rfl,hn2,hny,hanc2,hL2⟩:=HTP.out
          obtain ⟨b2,rfl⟩:=ORow.some_ HST2.out.1.1.2.1 (by simp)
          obtain ⟨nm,hnm⟩:∃ nm,nm = fs4.length:=⟨_,rfl⟩
          have hnm7:nm ≤ 699:=by have:=HST2.out.2.2.2; simp at this; omega
          have HTOP2:=Lib.hid (top_any W.heap.size b2 cc2 nm w2 (by rw [hnm]; exact HST2.out.1.1.1) (by omega))
          have HNM:=Lib.hid hnm
          have HN2:=Lib.hid hn2
          have HANC2:=Lib.hid hanc2
          have HLQ2:=Lib.hid hL2
          have hx62:xs2.length ≤ 6:=hn2.2.1
          clear hnm hn2 hanc2 hL2 HTP
          refine HTOP2.out.mono ?_
          rintro e w3 ⟨rfl,hf3⟩
          have hst3:=HST2.out.1.grow hf3
          obtain ⟨s0,s1,s2⟩:=hst3.1.top
          rw [← HNM.out] at s0 s1 s2
          simp only at s0 s1 s2
          obtain ⟨_,_,Aj,cj',hcj,hk3⟩:=HN2.out.fr hst3.2.1
          have n1:w3.cell? ⟨g2,1,none⟩ = some (.slice Aj xs2.length cj'):=hk3.now.1.cell 1
          obtain ⟨ad,rfl,v0,v1,v2⟩:=sl_rows hk3.now.2 hny
          have hxq:xs.getD q RV.none = xs2[ny]:=by
            have h1:=HLQ2.out
            have h2:(xs.drop q)[0]? = some xs2[ny]:=by
              rw [h1,List.getElem?_append_left (by rw [List.length_drop]; omega),List.getElem?_drop,Nat.add_zero,List.getElem?_eq_getElem hny]
            rw [List.getElem?_drop,Nat.add_zero] at h2
            rw [List.getD_eq_getElem?_getD,h2]; rfl
          have HJ3:Hid (J (allR xs i q) w3.drew):=HJ.out _ _ _ HJ2.out (ChI.of_fr hf3.drew)
          have HY3:=HY.out (allR xs i q) (q,xs.getD q RV.none) w3.drew HJ3.out (allR_snoc xs i q j hiq hlt2).2
          rw [← (allR_snoc xs i q j hiq hlt2).1,hxq] at HY3
          obtain ⟨fn,tmps,assign,body,hy,hR⟩:=HY3
          obtain ⟨⟨rA,rn,rc,re,rh⟩,hr⟩:∃ r,r = xs2[ny]:=⟨_,rfl⟩
          rw [← hr] at v0 v1 v2 hy
          simp only at v0 v1 v2
          simp only [encR,RV.val] at hy
          have hny':(ny:Int) < (xs2.length:Int):=by omega
          have hny0:(0:Int) ≤ (ny:Int):=by omega
          have HS3:=Lib.hid hst3
          have HF3:=Lib.hid hf3
          have HR:Hid (RoundIn Fence.wide (n - 1) Tryz.prog l fn tmps assign body w3.drew fun e W' => ∃ yb:Bool,e = .returned (.bool yb) ∧ Hid ((yb = true → J (allR xs i (q + 1)) W' ∧ KeepsC E w0.heap.size w3.drew W') ∧ (yb = false → Jx (allR xs i (q + 1)) W'))):=by
            refine hR.mono ?_
            rintro e W' (⟨h1,h2,h3⟩ | ⟨h1,h2⟩)
            · exact ⟨true,h1,fun _ => ⟨h2,h3⟩,fun h => by cases h⟩
            · exact ⟨false,h1,fun h => (by cases h),fun _ => h2⟩
          clear hst3 hk3 hxq hr HTOP2 hf3 hR
          go_wp2_with fail
          rw [← wpIn_wide (n:=n)]
          gi_region_with (refine ⟨(by intro h; simp [Fence.wide] at h),HR.out.mono ?_⟩; rintro e W3 ⟨yb,rfl,HYB⟩)
          all_goals go_simp
          all_goals (cases yb with
            | false =>
              go_wp2_with fail
              refine bodyPost_ret (results_none rfl _ _ _) rfl ?_
              exact ⟨⟨_,rfl⟩,.inr ⟨_,by first | exact HYB.out.2 rfl | exact HYB.out.2 trivial⟩⟩
            | true =>
              obtain ⟨hj5,hk5⟩:=HYB.out.1 rfl
              have hst5:=(HS3.out.grow (Fr.drew (Fr.refl [] w3))).keeps hk5
              obtain ⟨z0,z1,z2⟩:=hst5.1.top
              rw [← HNM.out] at z0 z1 z2
              simp only at z0 z1 z2
              have y2:W3.frozen? ⟨b2,nm * 3 + 2,none⟩ = false:=orow_frozen hst5.1.2.1 _
              have yl:b2 < W3.heap.size:=World.block_lt_of_cell? W3 _ z0
              have hset:=stk_setk hst5 2 (by omega) (.int .i64 ((ny:Int) + 1)) (g2,a2,ny + 1) (by rfl)
              rw [← HNM.out] at hset
              have HSET:=Lib.hid hset
              have HJ5:Hid (J (allR xs i (q + 1)) (W3.setCell ⟨b2,nm * 3 + 2,none⟩ (.int .i64 ((ny:Int) + 1)))):=HJ.out _ _ _ hj5 (chI_of_stk hst5 (Nat.le_refl _) HST2.out.2.1 hset.2)
              have HZ5:Hid (W.heap.size ≤ W3.heap.size):=by show _ ≤ _; have:=hk5.2.2.2.1; have:w3.drew.heap.size = w3.heap.size:=rfl; have:=HST2.out.2.2.1; have:=HF3.out.size; omega
              clear hj5 hk5 hst5 hset s0 s1 s2 n1 v0 v1 v2 hy
              go_wp2_with fail
              go_roundw
              case rel =>
                refine ⟨q + 1,some ⟨b2,0,none⟩,cc2,(g2,a2,ny + 1) :: fs4,by go_num,by omega,by omega,⟨HSET.out.1,⟨g2,a2,ny + 1,fs4,lo2,xs2,rest2,rfl,HN2.out,hny,HANC2.out,?_⟩,HST2.out.2.1,?_,by have:=HST2.out.2.2.2; simpa using this⟩,HJ5.out⟩
                · have h1:=HLQ2.out
                  have h2:xs.drop (q + 1) = (xs.drop q).drop 1:=by rw [List.drop_drop]
                  rw [h2,h1,List.drop_append,List.drop_drop,show 1 - (xs2.drop ny).length = 0 by rw [List.length_drop]; omega]
                  rfl
                · have:=HZ5.out
                  simpa [World.setCell] using this
              case measure => simp [intOf]; omega)
      · obtain rfl:q = j:=by omega
        go_wp2_with fail
        go_end0
        exact ⟨⟨_,rfl⟩,.inl HJQ.out⟩
end Go.Proofs.YteohomdiklkbfaaGreat
