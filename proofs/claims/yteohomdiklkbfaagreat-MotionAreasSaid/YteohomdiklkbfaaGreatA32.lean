import Derived.Test.YteohomdiklkbfaaGreatA31
import Derived.Test.YteohomdiklkbfaaGreatA21
namespace Go.Proofs.YteohomdiklkbfaaGreat
open Go.RowKit Go.Shelf Go.Proofs.Dm
variable {E:List (Option Nat)}
attribute [local go_sem] Oper.semAt_some

def downR (xs:List RV) (j q:Nat):List (Nat × RV):=(allR xs q j).reverse
theorem allR_cons (xs:List RV) (r j:Nat) (h:r < j):allR xs r j = (r,xs.getD r RV.none) :: allR xs (r + 1) j:=by
  unfold allR
  rw [show j - r = (j - (r + 1)) + 1 by omega,List.range'_succ]
  rfl
theorem allR_app (xs:List RV) (i r j:Nat) (h1:i ≤ r) (h2:r ≤ j):allR xs i r ++ allR xs r j = allR xs i j:=by
  unfold allR
  rw [← List.map_append]
  congr 1
  have:=List.range'_append (s:=i) (m:=r - i) (n:=j - r) (step:=1)
  rw [show i + 1 * (r - i) = r by omega,show r - i + (j - r) = j - i by omega] at this
  exact this
theorem downR_snoc (xs:List RV) (i r j:Nat) (h1:i ≤ r) (h2:r < j):downR xs j r = downR xs j (r + 1) ++ [(r,xs.getD r RV.none)] ∧ downR xs j (r + 1) ++ [(r,xs.getD r RV.none)] <+: downR xs j i:=by
  have key:downR xs j r = downR xs j (r + 1) ++ [(r,xs.getD r RV.none)]:=by
    unfold downR
    rw [allR_cons xs r j h2,List.reverse_cons]
  refine ⟨key,?_⟩
  rw [← key]
  refine ⟨(allR xs i r).reverse,?_⟩
  unfold downR
  rw [← List.reverse_append,allR_app xs i r j h1 (by omega)]
set_option maxRecDepth 100000 in
set_option maxHeartbeats 3200000 in
theorem back_stops (n bi bj bt i j:Nat) (w0:World) (p:Option Addr) (xs:List RV) (hij:i ≤ j) (hj:j ≤ xs.length) (hxs:xs.length ≤ 700) (ht:TreeAt TN E w0 p xs)
    (ci:w0.cell? ⟨bi,0,none⟩ = some (.int .i64 (i:Nat))) (cj:w0.cell? ⟨bj,0,none⟩ = some (.int .i64 (j:Nat))) (ct:w0.cell? ⟨bt,0,none⟩ = some (.pointer p)) (hnE:some bi ∉ E ∧ some bj ∉ E ∧ some bt ∉ E) :
    SeqX E Fence.wide n Tryz.prog 103 #[.pointer (some ⟨bi,0,none⟩),.pointer (some ⟨bj,0,none⟩),.pointer (some ⟨bt,0,none⟩)] encR w0 (downR xs j i):=by
  intro l J Jx W hW hJ hJx hY h0
  have hbi:=World.block_lt_of_cell? w0 _ ci
  have hbj:=World.block_lt_of_cell? w0 _ cj
  have hbt:=World.block_lt_of_cell? w0 _ ct
  have HCI:Hid (∀ w',Fr E w0 w' → w'.cell? ⟨bi,0,none⟩ = some (.int .i64 (i:Nat)) ∧ w'.cell? ⟨bj,0,none⟩ = some (.int .i64 (j:Nat)) ∧ w'.cell? ⟨bt,0,none⟩ = some (.pointer p)):=fun w' hf =>
    ⟨(hf.cell (p:=⟨bi,0,none⟩) hbi hnE.1).trans ci,(hf.cell (p:=⟨bj,0,none⟩) hbj hnE.2.1).trans cj,(hf.cell (p:=⟨bt,0,none⟩) hbt hnE.2.2).trans ct⟩
  obtain ⟨c1,c2,c3⟩:=HCI.out W hW.of_nil
  have HW:=Lib.hid hW
  have HY:=Lib.hid hY
  have HJ:=Lib.hid hJ
  have HJX:=Lib.hid hJx
  have HJ0:=Lib.hid h0
  have HT:=Lib.hid ht
  clear ci cj ct hbi hbj hbt hW hY hJ hJx h0 ht
  refine callsIn_wide.2 ?_
  change Calls Tryz.prog 103 _ W (RangeAns J Jx (downR xs j i))
  by_cases he:i = j
  · subst he
    have hall:downR xs i i = []:=by simp [downR,allR]
    rw [hall]
    go_enter Tryz.func103,Tryz.ntmps103
    go_wp2
    refine bodyPost_ret (results_none rfl _ _ _) rfl ?_
    exact ⟨⟨_,rfl⟩,.inl HJ0.out⟩
  · have hlt:i < j:=by omega
    have hne:((i:Int) == (j:Int)) = false:=by simpa using (show (i:Int) ≠ (j:Int) by omega)
    obtain ⟨g,h,hp,hn⟩:∃ g h,p = some ⟨g,0,none⟩ ∧ NodeAt TN E w0 h (rootLo h) g xs:=by
      rcases HT.out with ⟨_,h⟩ | ⟨g,h,h1,h2⟩
      · subst h; simp at hj; omega
      · exact ⟨g,h,h1,h2⟩
    subst hp
    have hlow:=low hn (by cases h <;> simp [rootLo]) (fun hh => by cases h with | zero => omega | succ h => exact Nat.le_refl 2)
    obtain ⟨W1,hW1⟩:∃ W1,W1 = W.alloc (.cells #[.slice none 0 0] TS):=⟨_,rfl⟩
    have hf1:Fr [] W W1:=by rw [hW1]; exact (Fr.refl [] W).alloc _
    have hs1:StkOf E w0 W1 W.heap.size none 0 []:=⟨⟨by rw [hW1]; exact Blk.new W TS _,ORow.nil_ _ _ _,by simp [bk]⟩,(HW.out.trans hf1).of_nil,HW.out.size,fun j hj => by cases hj⟩
    obtain ⟨d1,d2,d3⟩:=HCI.out W1 (HW.out.trans hf1).of_nil
    obtain ⟨j1,hj1⟩:∃ j1,j1 = j - 1:=⟨_,rfl⟩
    have hwj:IntKind.i64.wrap ((j:Int) - 1) = (j1:Int):=by rw [show (j:Int) - 1 = (j1:Int) by omega]; exact IntWalk.i64_in _ (by omega)
    have HDOWN:Hid (∀ w',Fr [] W1 w' → Calls Tryz.prog 78 #[.pointer (some ⟨W.heap.size,0,none⟩),.pointer (some ⟨g,0,none⟩),.int .i64 0,.int .i64 (j1:Nat)] w' (DownB E w0 w' W.heap.size xs.length none (h + 1) (xs.take j))):=by
      show ∀ _,_
      intro w' hf
      have:=downB_any w0 w' W.heap.size g h (rootLo h) 0 j1 j1 0 xs.length none [] xs [] (hs1.grow hf) hn ⟨rfl,rfl,rfl⟩ (by omega) (by omega) (by omega) (by simp; omega)
      rw [show j1 + 1 = j by omega] at this
      simpa using this
    have HJ1N:Hid (j1 + 1 = j):=by show _ = _; omega
    have HS1:=Lib.hid hs1
    have HF1:=Lib.hid hf1
    have hJ1:J [] W1:=HJ.out _ _ _ HJ0.out (ChI.of_fr hf1)
    have HJ1:=Lib.hid hJ1
    clear hs1 hf1 hJ1 HJ0 hj1
    go_enter Tryz.func103,Tryz.ntmps103
    go_wp2_with fail
    rw [← hW1]
    clear hW1
    go_region_held3 (fun w' => w'.cell? ⟨bj,0,none⟩ = some (.int .i64 (j:Nat)) ∧ w'.cell? ⟨bt,0,none⟩ = some (.pointer (some ⟨g,0,none⟩))) (go_keep)
      (first
      | (go_at_call 79; go_must (refine (root_any _ _).mono ?_; rintro e w2 ⟨rfl,hf2⟩; obtain ⟨d4,d5,d6⟩:=HCI.out w2 ((HW.out.trans HF1.out).drew.trans hf2).of_nil; have HF2:=Lib.hid ((Fr.refl [] W1).drew.trans hf2); clear hf2))
      | (go_at_call 78; go_must (refine (HDOWN.out _ HF2.out).mono ?_; rintro e w3 ⟨A3,cc3,fs3,rfl,q1,q2,q3,q4⟩; have HQ:Hid (StkOf E w0 w3 W.heap.size A3 cc3 fs3 ∧ TopB E w0 xs.length fs3 (xs.take j) ∧ StkCh W.heap.size W1 w3 none A3 ∧ fs3.length ≤ h + 1):=⟨q1,q2,(StkCh.fr0 (A:=none) (A':=none) HF2.out rfl).trans q3,q4⟩; obtain ⟨d7,d8,d9⟩:=HCI.out w3 q1.2.1; clear q1 q2 q3 q4)))
    go_simp
    clear d1 d2 d3 d4 d5 d6 c1 c2 c3
    have HJ3:Hid (J (downR xs j j) w3):=by
      have:downR xs j j = []:=by simp [downR,allR]
      rw [this]
      exact HJ.out _ _ _ HJ1.out (chI_of_stk HS1.out (Nat.le_refl _) (fun j hj => by cases hj) HQ.out.2.2.1)
    have HA3:Hid (∀ k,bk A3 = some k → W.heap.size ≤ k):=newA_ch (fun j hj => by cases hj) HF1.out.size HQ.out.2.2.1
    have HZ3:Hid (W.heap.size ≤ w3.heap.size ∧ fs3.length ≤ 700):=⟨by obtain ⟨S,hS,_⟩:=HQ.out.2.2.1; have:=hS.size; have:=HF1.out.size; omega,by have:=HQ.out.2.2.2; omega⟩
    clear HDOWN HF1 HJ1 HF2 HS1
    go_wp2_with fail
    go_loopw [6] (fun av wr => ∃ (q:Nat) (A:Option Addr) (c g a:Nat) (nx:Int) (fs:List (Nat × Nat × Nat)),av = .int .i64 ((q:Int) - 1) ∧ i ≤ q ∧ q ≤ j ∧ Hid (StkV E w0 wr W.heap.size A c g a nx fs ∧ TopLb E w0 xs.length g a nx fs (xs.take q) ∧ (∀ k,bk A = some k → W.heap.size ≤ k) ∧ W.heap.size ≤ wr.heap.size ∧ fs.length + 1 ≤ 700) ∧ Hid (J (downR xs j q) wr)) (fun av _ => (intOf av + 1).toNat)
    case atStart =>
      obtain ⟨g3,a3,nx3,fs2,hfs,htl⟩:=HQ.out.2.1.le
      have h1:=HQ.out.1
      have h2:=HZ3.out
      rw [hfs] at h1 h2
      exact ⟨j,A3,cc3,g3,a3,(nx3:Nat),fs2,by have:=HJ1N.out; congr 1; omega,by omega,Nat.le_refl _,⟨StkV.of h1,htl,HA3.out,h2.1,by simpa using h2.2⟩,HJ3.out⟩
    case round =>
      clear HJ3 HA3 HZ3 HQ d7 d8 d9
      obtain ⟨q,A,c,g1,a1,nx,fs2,rfl,hiq0,hqj,HS,HJQ⟩:=hrel
      obtain ⟨d1,d2,d3⟩:=HCI.out wr HS.out.1.2.1
      by_cases hlt2:i < q
      · obtain ⟨r,hrq⟩:∃ r,q = r + 1:=⟨q - 1,by omega⟩
        subst hrq
        have hiq:i ≤ r:=by omega
        have hrj:r < j:=by omega
        have hzr:((r + 1:Nat):Int) - 1 = (r:Int):=by omega
        rw [hzr]
        have hge:(i:Int) ≤ (r:Int):=by omega
        obtain ⟨lo1,xs1,ah,hn1,hnx0,hnx,hanc,hL⟩:=HS.out.2.1
        obtain ⟨b,rfl⟩:=ORow.some_ HS.out.1.1.2.1 (by omega)
        obtain ⟨nn,hnn⟩:∃ nn,nn = fs2.length:=⟨_,rfl⟩
        have hnn7:nn ≤ 699:=by have:=HS.out.2.2.2.2; omega
        have HTOP:=Lib.hid (top_any W.heap.size b c nn wr (by rw [hnn]; exact HS.out.1.1.1) (by omega))
        have HNN:=Lib.hid hnn
        have HN1:=Lib.hid hn1
        have HANC:=Lib.hid hanc
        have HLQ:=Lib.hid hL
        clear hnn hn1 hanc hL hzr hlt2 hiq0 hqj
        go_wp2_with fail
        refine HTOP.out.mono ?_
        rintro e w1 ⟨rfl,hf1⟩
        have hst1:=HS.out.1.grow hf1
        obtain ⟨t0,t1,t2⟩:=hst1.top
        rw [← HNN.out] at t0 t1 t2
        have HJ1:Hid (J (downR xs j (r + 1)) w1):=HJ.out _ _ _ HJQ.out (ChI.of_fr hf1)
        have HS1:Hid (StkV E w0 w1 W.heap.size (some ⟨b,0,none⟩) c g1 a1 nx fs2 ∧ W.heap.size ≤ w1.heap.size):=⟨hst1,Nat.le_trans HS.out.2.2.2.1 hf1.size⟩
        have HAB:Hid (∀ k,bk (some (⟨b,0,none⟩:Addr)) = some k → W.heap.size ≤ k):=HS.out.2.2.1
        clear hst1 hf1 HTOP HS HJQ d1 d2 d3
        by_cases hend:nx < 0
        · obtain rfl:nx = -1:=by omega
          have hah:ah = xs.take (r + 1):=by rw [HLQ.out]; simp
          have HBK:Hid (Calls Tryz.prog 104 #[.pointer (some ⟨W.heap.size,0,none⟩)] w1 (BackAns E w0 w1 W.heap.size xs.length (some ⟨b,0,none⟩) (nn + 1) (xs.take (r + 1)))):=by
            have:=back_any w0 w1 W.heap.size a1 g1 c xs1.length xs.length (-1) (some ⟨b,0,none⟩) fs2 (xs.take (r + 1)) HS1.out.1 (by rw [← hah]; exact HANC.out) (by intro h; have:=congrArg List.length h; rw [List.length_take,List.length_nil] at this; omega) (by omega) (by rw [← HNN.out]; omega)
            rw [← HNN.out] at this
            exact this
          clear hah hnx0 hnx hend
          go_wp2_with fail
          refine HBK.out.mono ?_
          rintro e w2 ⟨A2,cc2,fs',rfl,q1,q2,q3,q4⟩
          obtain ⟨g2,a2,ny,fs4,lo2,xs2,ah2,rfl,hn2,hny,hanc2,hL2⟩:=q2
          obtain ⟨b2,rfl⟩:=ORow.some_ q1.1.2.1 (by simp)
          have HST2:Hid (StkV E w0 w2 W.heap.size (some ⟨b2,0,none⟩) cc2 g2 a2 (ny:Nat) fs4 ∧ (∀ k,bk (some (⟨b2,0,none⟩:Addr)) = some k → W.heap.size ≤ k) ∧ W.heap.size ≤ w2.heap.size ∧ fs4.length + 1 ≤ 700):=⟨StkV.of q1,newA_ch HAB.out HS1.out.2 q3,by obtain ⟨S,hS,_⟩:=q3; have:=hS.size; have:=HS1.out.2; omega,by simp at q4; omega⟩
          have HJ2:Hid (J (downR xs j (r + 1)) w2):=HJ.out _ _ _ HJ1.out (chI_of_stkv HS1.out.1 (Nat.le_refl _) HAB.out q3)
          obtain ⟨nm,hnm⟩:∃ nm,nm = fs4.length:=⟨_,rfl⟩
          have HNM:=Lib.hid hnm
          have HN2:=Lib.hid hn2
          have HANC2:=Lib.hid hanc2
          have HLQ2:=Lib.hid hL2
          clear q1 q3 q4 t0 t1 t2 HBK hnm hn2 hanc2 hL2
          go_wp2_with fail
          have hnm7:nm ≤ 699:=by have:=HST2.out.2.2.2; have:=HNM.out; omega
          have HTOP2:=Lib.hid (top_any W.heap.size b2 cc2 nm w2 (by rw [HNM.out]; exact HST2.out.1.1.1) (by omega))
          have hx62:xs2.length ≤ 6:=HN2.out.2.1
          refine HTOP2.out.mono ?_
          rintro e w3 ⟨rfl,hf3⟩
          have hst3:=HST2.out.1.grow hf3
          obtain ⟨s0,s1,s2⟩:=hst3.top
          rw [← HNM.out] at s0 s1 s2
          obtain ⟨_,_,Aj,cj',hcj,hk3⟩:=HN2.out.fr hst3.2.1
          have n1:w3.cell? ⟨g2,1,none⟩ = some (.slice Aj xs2.length cj'):=hk3.now.1.cell 1
          obtain ⟨ad,rfl,v0,v1,v2⟩:=sl_rows hk3.now.2 hny
          have hxq:xs.getD r RV.none = xs2[ny]:=by
            have h1:=HLQ2.out
            have hl:=congrArg List.length h1
            rw [List.length_take,List.length_append,List.length_take] at hl
            have h2:(xs.take (r + 1))[r]? = some xs2[ny]:=by
              rw [h1,List.getElem?_append_right (by omega),List.getElem?_take,if_pos (by omega),show r - ah2.length = ny by omega,List.getElem?_eq_getElem hny]
            rw [List.getElem?_take,if_pos (by omega)] at h2
            rw [List.getD_eq_getElem?_getD,h2]; rfl
          have HJ3:Hid (J (downR xs j (r + 1)) w3.drew):=HJ.out _ _ _ HJ2.out (ChI.of_fr hf3.drew)
          have HY3:=HY.out (downR xs j (r + 1)) (r,xs.getD r RV.none) w3.drew HJ3.out (downR_snoc xs i r j hiq hrj).2
          rw [← (downR_snoc xs i r j hiq hrj).1,hxq] at HY3
          obtain ⟨fn,tmps,assign,body,hy,hR⟩:=HY3
          obtain ⟨⟨rA,rn,rc,re,rh⟩,hr⟩:∃ r,r = xs2[ny]:=⟨_,rfl⟩
          rw [← hr] at v0 v1 v2 hy
          simp only at v0 v1 v2
          simp only [encR,RV.val] at hy
          have hny':(ny:Int) < (xs2.length:Int):=by omega
          have hny0:(0:Int) ≤ (ny:Int):=by omega
          have HS3:=Lib.hid hst3
          have HF3:=Lib.hid hf3
          have HR:Hid (RoundIn Fence.wide (n - 1) Tryz.prog l fn tmps assign body w3.drew fun e W' => ∃ yb:Bool,e = .returned (.bool yb) ∧ Hid ((yb = true → J (downR xs j r) W' ∧ KeepsC E w0.heap.size w3.drew W') ∧ (yb = false → Jx (downR xs j r) W'))):=by
            refine hR.mono ?_
            rintro e W' (⟨h1,h2,h3⟩ | ⟨h1,h2⟩)
            · exact ⟨true,h1,fun _ => ⟨h2,h3⟩,fun h => by cases h⟩
            · exact ⟨false,h1,fun h => (by cases h),fun _ => h2⟩
          have hwn:IntKind.i64.wrap ((ny:Int) - 1) = (ny:Int) - 1:=IntWalk.i64_in _ (by omega)
          have hwr:IntKind.i64.wrap ((r:Int) - 1) = (r:Int) - 1:=IntWalk.i64_in _ (by omega)
          clear hst3 hk3 hxq hr HTOP2 hf3 hR
          go_wp2_with fail
          rw [← wpIn_wide (n:=n)]
          gi_region_with (refine ⟨(by intro h; simp [Fence.wide] at h),HR.out.mono ?_⟩; rintro e W3 ⟨yb,rfl,HYB⟩)
          all_goals go_simp
          all_goals (cases yb with
            | false =>
              go_wp2_with fail
              refine bodyPost_ret (results_none rfl _ _ _) rfl ?_
              exact ⟨⟨_,rfl⟩,.inr ⟨_,by first | exact HYB.out.2 rfl | exact HYB.out.2 trivial⟩⟩
            | true =>
              obtain ⟨hj5,hk5⟩:=HYB.out.1 rfl
              have hst5:=(HS3.out.grow (Fr.drew (Fr.refl [] w3))).keeps hk5
              obtain ⟨z0,z1,z2⟩:=hst5.top
              rw [← HNM.out] at z0 z1 z2
              have y2:W3.frozen? ⟨b2,nm * 3 + 2,none⟩ = false:=orow_frozen hst5.1.2.1 _
              have yl:b2 < W3.heap.size:=World.block_lt_of_cell? W3 _ z0
              have hset:=hst5.set ((ny:Int) - 1)
              rw [← HNM.out] at hset
              have HSET:=Lib.hid hset
              have HJ5:Hid (J (downR xs j r) (W3.setCell ⟨b2,nm * 3 + 2,none⟩ (.int .i64 ((ny:Int) - 1)))):=HJ.out _ _ _ hj5 (chI_of_stkv hst5 (Nat.le_refl _) HST2.out.2.1 hset.2)
              have HZ5:Hid (W.heap.size ≤ W3.heap.size):=by show _ ≤ _; have:=hk5.2.2.2.1; have:w3.drew.heap.size = w3.heap.size:=rfl; have:=HST2.out.2.2.1; have:=HF3.out.size; omega
              clear hj5 hk5 hst5 hset s0 s1 s2 n1 v0 v1 v2 hy
              go_wp2_with fail
              go_roundw
              case rel =>
                refine ⟨r,some ⟨b2,0,none⟩,cc2,g2,a2,(ny:Int) - 1,fs4,rfl,hiq,by omega,⟨HSET.out.1,⟨lo2,xs2,ah2,HN2.out,by omega,by omega,HANC2.out,?_⟩,HST2.out.2.1,?_,by have:=HST2.out.2.2.2; simpa using this⟩,HJ5.out⟩
                · have h1:=HLQ2.out
                  have hl:=congrArg List.length h1
                  rw [List.length_take,List.length_append,List.length_take] at hl
                  have h2:xs.take r = (xs.take (r + 1)).take r:=by rw [List.take_take,Nat.min_eq_left (by omega)]
                  rw [h2,h1,List.take_append,List.take_of_length_le (by omega),List.take_take]
                  congr 2
                  omega
                · have:=HZ5.out
                  simpa [World.setCell] using this
              case measure => simp [intOf])
        · obtain ⟨ny,rfl⟩:∃ ny:Nat,nx = (ny:Int):=⟨nx.toNat,by omega⟩
          have HST2:Hid (StkV E w0 w1 W.heap.size (some ⟨b,0,none⟩) c g1 a1 (ny:Nat) fs2 ∧ (∀ k,bk (some (⟨b,0,none⟩:Addr)) = some k → W.heap.size ≤ k) ∧ W.heap.size ≤ w1.heap.size ∧ fs2.length + 1 ≤ 700):=⟨HS1.out.1,HAB.out,HS1.out.2,by have:=HNN.out; omega⟩
          have hny:ny < xs1.length:=by omega
          have HLQ2:Hid (xs.take (r + 1) = ah ++ xs1.take (ny + 1)):=HLQ.out
          clear hnx0 hnx HLQ HS1
          go_wp2_with fail
          clear t0 t1 t2
          obtain ⟨w2,rfl⟩:∃ x:World,x = w1:=⟨_,rfl⟩
          obtain ⟨g2,rfl⟩:∃ x:Nat,x = g1:=⟨_,rfl⟩
          obtain ⟨a2,rfl⟩:∃ x:Nat,x = a1:=⟨_,rfl⟩
          obtain ⟨fs4,rfl⟩:∃ x:List (Nat × Nat × Nat),x = fs2:=⟨_,rfl⟩
          obtain ⟨lo2,rfl⟩:∃ x:Nat,x = lo1:=⟨_,rfl⟩
          obtain ⟨xs2,rfl⟩:∃ x:List RV,x = xs1:=⟨_,rfl⟩
          obtain ⟨ah2,rfl⟩:∃ x:List RV,x = ah:=⟨_,rfl⟩
          obtain ⟨b2,rfl⟩:∃ x:Nat,x = b:=⟨_,rfl⟩
          obtain ⟨cc2,rfl⟩:∃ x:Nat,x = c:=⟨_,rfl⟩
          obtain ⟨nm,rfl⟩:∃ x:Nat,x = nn:=⟨_,rfl⟩
          have HNM:=HNN
          have HN2:=HN1
          have HANC2:=HANC
          have HJ2:=HJ1
          clear HNN HN1 HANC HJ1
          have hnm7:nm ≤ 699:=by have:=HST2.out.2.2.2; have:=HNM.out; omega
          have HTOP2:=Lib.hid (top_any W.heap.size b2 cc2 nm w2 (by rw [HNM.out]; exact HST2.out.1.1.1) (by omega))
          have hx62:xs2.length ≤ 6:=HN2.out.2.1
          refine HTOP2.out.mono ?_
          rintro e w3 ⟨rfl,hf3⟩
          have hst3:=HST2.out.1.grow hf3
          obtain ⟨s0,s1,s2⟩:=hst3.top
          rw [← HNM.out] at s0 s1 s2
          obtain ⟨_,_,Aj,cj',hcj,hk3⟩:=HN2.out.fr hst3.2.1
          have n1:w3.cell? ⟨g2,1,none⟩ = some (.slice Aj xs2.length cj'):=hk3.now.1.cell 1
          obtain ⟨ad,rfl,v0,v1,v2⟩:=sl_rows hk3.now.2 hny
          have hxq:xs.getD r RV.none = xs2[ny]:=by
            have h1:=HLQ2.out
            have hl:=congrArg List.length h1
            rw [List.length_take,List.length_append,List.length_take] at hl
            have h2:(xs.take (r + 1))[r]? = some xs2[ny]:=by
              rw [h1,List.getElem?_append_right (by omega),List.getElem?_take,if_pos (by omega),show r - ah2.length = ny by omega,List.getElem?_eq_getElem hny]
            rw [List.getElem?_take,if_pos (by omega)] at h2
            rw [List.getD_eq_getElem?_getD,h2]; rfl
          have HJ3:Hid (J (downR xs j (r + 1)) w3.drew):=HJ.out _ _ _ HJ2.out (ChI.of_fr hf3.drew)
          have HY3:=HY.out (downR xs j (r + 1)) (r,xs.getD r RV.none) w3.drew HJ3.out (downR_snoc xs i r j hiq hrj).2
          rw [← (downR_snoc xs i r j hiq hrj).1,hxq] at HY3
          obtain ⟨fn,tmps,assign,body,hy,hR⟩:=HY3
          obtain ⟨⟨rA,rn,rc,re,rh⟩,hr⟩:∃ r,r = xs2[ny]:=⟨_,rfl⟩
          rw [← hr] at v0 v1 v2 hy
          simp only at v0 v1 v2
          simp only [encR,RV.val] at hy
          have hny':(ny:Int) < (xs2.length:Int):=by omega
          have hny0:(0:Int) ≤ (ny:Int):=by omega
          have HS3:=Lib.hid hst3
          have HF3:=Lib.hid hf3
          have HR:Hid (RoundIn Fence.wide (n - 1) Tryz.prog l fn tmps assign body w3.drew fun e W' => ∃ yb:Bool,e = .returned (.bool yb) ∧ Hid ((yb = true → J (downR xs j r) W' ∧ KeepsC E w0.heap.size w3.drew W') ∧ (yb = false → Jx (downR xs j r) W'))):=by
            refine hR.mono ?_
            rintro e W' (⟨h1,h2,h3⟩ | ⟨h1,h2⟩)
            · exact ⟨true,h1,fun _ => ⟨h2,h3⟩,fun h => by cases h⟩
            · exact ⟨false,h1,fun h => (by cases h),fun _ => h2⟩
          have hwn:IntKind.i64.wrap ((ny:Int) - 1) = (ny:Int) - 1:=IntWalk.i64_in _ (by omega)
          have hwr:IntKind.i64.wrap ((r:Int) - 1) = (r:Int) - 1:=IntWalk.i64_in _ (by omega)
          clear hst3 hk3 hxq hr HTOP2 hf3 hR
          go_wp2_with fail
          rw [← wpIn_wide (n:=n)]
          gi_region_with (refine ⟨(by intro h; simp [Fence.wide] at h),HR.out.mono ?_⟩; rintro e W3 ⟨yb,rfl,HYB⟩)
          all_goals go_simp
          all_goals (cases yb with
            | false =>
              go_wp2_with fail
              refine bodyPost_ret (results_none rfl _ _ _) rfl ?_
              exact ⟨⟨_,rfl⟩,.inr ⟨_,by first | exact HYB.out.2 rfl | exact HYB.out.2 trivial⟩⟩
            | true =>
              obtain ⟨hj5,hk5⟩:=HYB.out.1 rfl
              have hst5:=(HS3.out.grow (Fr.drew (Fr.refl [] w3))).keeps hk5
              obtain ⟨z0,z1,z2⟩:=hst5.top
              rw [← HNM.out] at z0 z1 z2
              have y2:W3.frozen? ⟨b2,nm * 3 + 2,none⟩ = false:=orow_frozen hst5.1.2.1 _
              have yl:b2 < W3.heap.size:=World.block_lt_of_cell? W3 _ z0
              have hset:=hst5.set ((ny:Int) - 1)
              rw [← HNM.out] at hset
              have HSET:=Lib.hid hset
              have HJ5:Hid (J (downR xs j r) (W3.setCell ⟨b2,nm * 3 + 2,none⟩ (.int .i64 ((ny:Int) - 1)))):=HJ.out _ _ _ hj5 (chI_of_stkv hst5 (Nat.le_refl _) HST2.out.2.1 hset.2)
              have HZ5:Hid (W.heap.size ≤ W3.heap.size):=by show _ ≤ _; have:=hk5.2.2.2.1; have:w3.drew.heap.size = w3.heap.size:=rfl; have:=HST2.out.2.2.1; have:=HF3.out.size; omega
              clear hj5 hk5 hst5 hset s0 s1 s2 n1 v0 v1 v2 hy
              go_wp2_with fail
              go_roundw
              case rel =>
                refine ⟨r,some ⟨b2,0,none⟩,cc2,g2,a2,(ny:Int) - 1,fs4,rfl,hiq,by omega,⟨HSET.out.1,⟨lo2,xs2,ah2,HN2.out,by omega,by omega,HANC2.out,?_⟩,HST2.out.2.1,?_,by have:=HST2.out.2.2.2; simpa using this⟩,HJ5.out⟩
                · have h1:=HLQ2.out
                  have hl:=congrArg List.length h1
                  rw [List.length_take,List.length_append,List.length_take] at hl
                  have h2:xs.take r = (xs.take (r + 1)).take r:=by rw [List.take_take,Nat.min_eq_left (by omega)]
                  rw [h2,h1,List.take_append,List.take_of_length_le (by omega),List.take_take]
                  congr 2
                  omega
                · have:=HZ5.out
                  simpa [World.setCell] using this
              case measure => simp [intOf])
      · obtain rfl:q = i:=by omega
        have hge:¬ (q:Int) ≤ (q:Int) - 1:=by omega
        go_wp2_with fail
        go_end0
        exact ⟨⟨_,rfl⟩,.inl HJQ.out⟩
end Go.Proofs.YteohomdiklkbfaaGreat
