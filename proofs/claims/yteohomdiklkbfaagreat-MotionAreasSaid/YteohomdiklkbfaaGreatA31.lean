import Derived.Test.YteohomdiklkbfaaGreatA30
import Derived.Test.YteohomdiklkbfaaGreatA20
namespace Go.Proofs.YteohomdiklkbfaaGreat
open Go.RowKit Go.Proofs.Dm
variable {E:List (Option Nat)}

def frv (g a:Nat) (nx:Int):List Value:=[.pointer (some ⟨g,0,none⟩),.int .i64 (a:Nat),.int .i64 nx]
def StkV (E:List (Option Nat)) (w0 w:World) (gs:Nat) (A:Option Addr) (c g a:Nat) (nx:Int) (fs:List (Nat × Nat × Nat)):Prop :=
  (Blk w gs TS #[.slice A (fs.length + 1) c] ∧ ORow w TF 3 A c (fs.length + 1) (frs fs ++ frv g a nx) ∧ bk A ≠ some gs) ∧ Fr E w0 w ∧ w0.heap.size ≤ gs ∧ ∀ j,bk A = some j → w0.heap.size ≤ j
section
variable {w0 w w':World} {gs c g a:Nat} {nx:Int} {A:Option Addr} {fs:List (Nat × Nat × Nat)}
theorem StkV.of {k:Nat} (h:StkOf E w0 w gs A c ((g,a,k) :: fs)):StkV E w0 w gs A c g a (k:Nat) fs:=by
  obtain ⟨⟨h1,h2,h3⟩,h4⟩:=h
  rw [frs_cons] at h2
  exact ⟨⟨h1,h2,h3⟩,h4⟩
theorem StkV.grow (h:StkV E w0 w gs A c g a nx fs) (hf:Fr [] w w'):StkV E w0 w' gs A c g a nx fs :=
  ⟨⟨h.1.1.fr hf (by simp),ORow.fr h.1.2.1 hf (.inr List.not_mem_nil),h.1.2.2⟩,h.2.1.trans hf.of_nil,h.2.2⟩
theorem StkV.keeps (h:StkV E w0 w gs A c g a nx fs) (hk:KeepsC E w0.heap.size w w'):StkV E w0 w' gs A c g a nx fs:=by
  obtain ⟨⟨h1,h2,h3⟩,h4,h5,h6⟩:=h
  refine ⟨⟨hk.2.2.2.2 _ _ h1 (.inr ⟨by simp [itT],rfl⟩),⟨h2.1,?_⟩,h3⟩,⟨hk.1.trans h4.os,hk.2.1.trans h4.tape,hk.2.2.1.trans h4.output,Nat.le_trans h4.size hk.2.2.2.1,fun k hlt hn => ?_⟩,h5,h6⟩
  · rcases h2.2 with h0 | ⟨g,cap,cur,he,hb,hg,rest⟩
    · exact .inl h0
    · exact .inr ⟨g,cap,cur,he,hb,hk.2.2.2.2 _ _ hg (.inr ⟨by simp [itT],rfl⟩),rest⟩
  · have hold:=h4.block k hlt hn
    have hget:w0.heap[k]? = some w0.heap[k]:=Array.getElem?_eq_getElem hlt
    rw [hget] at hold ⊢
    exact hk.2.2.2.2 k _ hold (.inl ⟨hlt,hn⟩)
theorem StkV.top {b:Nat} (h:StkV E w0 w gs (some ⟨b,0,none⟩) c g a nx fs) :
    w.cell? ⟨b,fs.length * 3,none⟩ = some (.pointer (some ⟨g,0,none⟩)) ∧ w.cell? ⟨b,fs.length * 3 + 1,none⟩ = some (.int .i64 (a:Nat)) ∧ w.cell? ⟨b,fs.length * 3 + 2,none⟩ = some (.int .i64 nx):=by
  rcases h.1.2.1.sl with h0 | ⟨ad,he,hc⟩
  · have:=congrArg List.length h0; rw [List.length_append,frs_len] at this; simp [frv] at this
  · injection he with he
    subst he
    have hadd:∀ j,(⟨b,0,none⟩:Addr).add j = ⟨b,j,none⟩:=fun j => by unfold Addr.add; split <;> simp_all
    have key:∀ k u,(frv g a nx)[k]? = some u → w.cell? ⟨b,fs.length * 3 + k,none⟩ = some u:=fun k u hk => by
      rw [← hadd]
      refine hc _ u ?_
      rw [List.getElem?_append_right (by rw [frs_len]; omega),frs_len,Nat.add_sub_cancel_left]
      exact hk
    exact ⟨key 0 _ rfl,key 1 _ rfl,key 2 _ rfl⟩
theorem stkv_ch {b j:Nat} {u:Value}:StkCh gs w (w.setCell ⟨b,j,none⟩ u) (some ⟨b,0,none⟩) (some ⟨b,0,none⟩) :=
  ⟨[some b],(Fr.refl _ w).setB (by simp) j u,fun k hk => by rw [List.mem_singleton] at hk; exact .inr (.inl hk.symm),.inl rfl⟩
theorem StkV.set {b:Nat} (h:StkV E w0 w gs (some ⟨b,0,none⟩) c g a nx fs) (ny:Int):StkV E w0 (w.setCell ⟨b,fs.length * 3 + 2,none⟩ (.int .i64 ny)) gs (some ⟨b,0,none⟩) c g a ny fs ∧ StkCh gs w (w.setCell ⟨b,fs.length * 3 + 2,none⟩ (.int .i64 ny)) (some ⟨b,0,none⟩) (some ⟨b,0,none⟩):=by
  refine ⟨?_,stkv_ch⟩
  obtain ⟨⟨h1,h2,h3⟩,h4,h5,h6⟩:=h
  have hbs:=h6 b rfl
  have hne:b ≠ gs:=fun e => h3 (by rw [e]; rfl)
  refine ⟨⟨h1.far (fun e => hne e.symm) _,?_,h3⟩,h4.setB (by omega) _ _,h5,h6⟩
  have:=orow_set h2 (j:=fs.length * 3 + 2) (by omega) (.int .i64 ny)
  rw [List.set_append_right _ _ (by rw [frs_len]; omega),frs_len,Nat.add_sub_cancel_left] at this
  exact this
theorem StkV.pop {b:Nat} (h:StkV E w0 w gs (some ⟨b,0,none⟩) c g a nx fs):StkOf E w0 (w.setCell ⟨gs,0,none⟩ (.slice (some ⟨b,0,none⟩) fs.length c)) gs (some ⟨b,0,none⟩) c fs ∧ StkCh gs w (w.setCell ⟨gs,0,none⟩ (.slice (some ⟨b,0,none⟩) fs.length c)) (some ⟨b,0,none⟩) (some ⟨b,0,none⟩):=by
  obtain ⟨⟨h1,h2,h3⟩,h4,h5,h6⟩:=h
  have hset:Fr [some gs] w (w.setCell ⟨gs,0,none⟩ (.slice (some ⟨b,0,none⟩) fs.length c)):=(Fr.refl _ w).setB (by simp) 0 _
  refine ⟨⟨⟨h1.set_ 0 _,?_,h3⟩,h4.setB (by omega) _ _,h5,h6⟩,[some gs],hset,fun k hk => by rw [List.mem_singleton] at hk; injection hk with hk; exact .inl hk,.inl rfl⟩
  have:=ORow.trunc h2 (m:=fs.length) (by simp) (by simp)
  rw [List.take_append_of_le_length (by rw [frs_len]; omega),List.take_of_length_le (by rw [frs_len]; omega)] at this
  exact ORow.fr this hset (.inr (by rw [List.mem_singleton]; exact h3))
end
theorem chI_of_stkv {w0 w w':World} {B gs c g a:Nat} {nx:Int} {A A':Option Addr} {fs:List (Nat × Nat × Nat)} (h:StkV E w0 w gs A c g a nx fs) (hg:B ≤ gs) (hA:∀ j,bk A = some j → B ≤ j) (hc:StkCh gs w w' A A'):ChI B w w':=by
  obtain ⟨S,h1,h2,h3⟩:=hc
  refine ⟨h1.os,h1.tape,h1.output,h1.size,fun k o hk ho => ?_⟩
  refine (h1.block k (lt_of_obj hk) fun hm => ?_).trans hk
  rcases h2 k hm with e | e | e
  · subst e
    have hb:=h.1.1
    unfold Blk at hb
    rw [hb] at hk
    injection hk with hk
    subst hk
    rcases ho with ho | ho
    · omega
    · simp [itT] at ho
  · have hbk:=hA k e
    rcases h.1.2.1.2 with ⟨he,_⟩ | ⟨g,cap,cur,he,_,hgg,_⟩
    · injection he with he; rw [he] at e; cases e
    · injection he with he
      rw [he] at e
      injection e with e
      subst e
      rw [hgg] at hk
      injection hk with hk
      subst hk
      rcases ho with ho | ho
      · omega
      · simp [itT] at ho
  · have:=lt_of_obj hk; omega
def TopLb (E:List (Option Nat)) (w:World) (N:Nat) (g a:Nat) (nx:Int) (fs:List (Nat × Nat × Nat)) (L:List RV):Prop :=
  ∃ (lo:Nat) (xs ah:List RV),NodeAt TN E w 0 lo g xs ∧ -1 ≤ nx ∧ nx < (xs.length:Int) ∧ AncB E w N 0 fs a xs.length ah ∧ L = ah ++ xs.take (nx + 1).toNat
theorem TopB.le {w:World} {N:Nat} {fs:List (Nat × Nat × Nat)} {L:List RV} (h:TopB E w N fs L):∃ g a nx fs2,fs = (g,a,nx) :: fs2 ∧ TopLb E w N g a (nx:Nat) fs2 L:=by
  obtain ⟨g,a,nx,fs2,lo,xs,ah,h1,h2,h3,h4,h5⟩:=h
  exact ⟨g,a,nx,fs2,h1,lo,xs,ah,h2,by omega,by omega,h4,by rw [h5]; rfl⟩
end Go.Proofs.YteohomdiklkbfaaGreat
namespace Go.Proofs.YteohomdiklkbfaaGreat
open Go.RowKit Go.Proofs.Dm
variable {E:List (Option Nat)}

def BackAns (E:List (Option Nat)) (w0 w:World) (gs N:Nat) (A:Option Addr) (n:Nat) (L:List RV) (en:Ending) (w':World):Prop :=
  ∃ (A':Option Addr) (c':Nat) (fs':List (Nat × Nat × Nat)),en = .returned (.bool true) ∧ StkOf E w0 w' gs A' c' fs' ∧ TopB E w0 N fs' L ∧ StkCh gs w w' A A' ∧ fs'.length ≤ n
set_option maxRecDepth 100000 in
set_option maxHeartbeats 1600000 in
theorem back_any (w0 w:World) (gs a0 g0 c xl N:Nat) (nx:Int) (A:Option Addr) (fs:List (Nat × Nat × Nat)) (L:List RV) (hst:StkV E w0 w gs A c g0 a0 nx fs) (ha:AncB E w0 N 0 fs a0 xl L) (hL:L ≠ []) (hN:N ≤ 100000) (hl:fs.length ≤ 800) :
    Calls Tryz.prog 104 #[.pointer (some ⟨gs,0,none⟩)] w (BackAns E w0 w gs N A (fs.length + 1) L):=by
  obtain ⟨b,rfl⟩:=ORow.some_ hst.1.2.1 (by omega)
  obtain ⟨n,hn⟩:∃ n,n = fs.length:=⟨_,rfl⟩
  rw [← hn] at hl ⊢
  have e0:w.cell? ⟨gs,0,none⟩ = some (.slice (some ⟨b,0,none⟩) (n + 1) c):=by rw [hn]; exact hst.1.1.cell 0
  have f0:=hst.1.1.frozen 0
  have l0:=hst.1.1.lt
  have hcn:n + 1 ≤ c:=by rw [hn]; exact ORow.cap hst.1.2.1
  have HPOP:Hid (StkOf E w0 (w.setCell ⟨gs,0,none⟩ (.slice (some ⟨b,0,none⟩) n c)).drew gs (some ⟨b,0,none⟩) c fs ∧ StkCh gs w (w.setCell ⟨gs,0,none⟩ (.slice (some ⟨b,0,none⟩) n c)).drew (some ⟨b,0,none⟩) (some ⟨b,0,none⟩)):=by
    rw [hn]
    exact ⟨hst.pop.1.grow (Fr.drew (Fr.refl [] _)),hst.pop.2.trans (StkCh.fr0 (Fr.drew (Fr.refl [] _)) rfl)⟩
  have r1:=run_upto (P:=Tryz.prog) 149 (some ⟨b,0,none⟩) (n + 1) c n (by kernel_rfl) 3 (by kernel_rfl) (by omega)
  have hw1:IntKind.i64.wrap ((n:Int) + 1 - 1) = (n:Int):=by rw [Int.add_sub_cancel]; exact IntWalk.i64_in _ (by omega)
  have hw2:IntKind.i64.wrap (n:Int) = (n:Int):=IntWalk.i64_in _ (by omega)
  have b1:(0:Int) ≤ (n:Int):=by omega
  have b2:(n:Int) ≤ (c:Int):=by omega
  have HA0:=Lib.hid ha
  have HNL:Hid (fs.length = n):=hn.symm
  have HLL:=Lib.hid hL
  clear hst ha hn hL
  go_enter Tryz.func104,Tryz.ntmps104
  go_wp2_with fail
  go_still_tail 14,(by kernel_rfl)
  go_wp2_with fail
  go_loopg [3] n (fun gk fv wr => ∃ (h a cc:Nat) (fs:List (Nat × Nat × Nat)),gk = fs.length ∧ Hid (StkOf E w0 wr gs (some ⟨b,0,none⟩) c fs) ∧ Hid (AncB E w0 N h fs a cc L) ∧ Hid (StkCh gs w wr (some ⟨b,0,none⟩) (some ⟨b,0,none⟩)) ∧ fs.length + h = n)
  case atStart => exact ⟨0,a0,xl,fs,HNL.out.symm,HPOP.out.1,HA0.out,HPOP.out.2,by have:=HNL.out; omega⟩
  case round =>
    clear HPOP HA0 HNL e0 f0 l0 r1 hw1 hw2 b1 b2 hcn
    obtain ⟨h,a,cc,fs,rfl,HST,HA,HCH,hnh⟩:=hrel
    cases fs with
    | nil => exact absurd HA.out.2.2 HLL.out
    | cons f fs =>
      obtain ⟨g,fa,k⟩:=f
      have hlen:=HA.out.len.1
      obtain ⟨ks,A2,cp,ah',hK,h6,hks,⟨hk,hcc⟩,hfa,hsa,hL,hA'⟩:=HA.out
      simp only at hK hk hcc hfa hsa hL hA'
      have hlen2:=hA'.len.1
      subst hfa
      obtain ⟨nn,hnn⟩:∃ nn,nn = fs.length:=⟨_,rfl⟩
      have hnh:nn + 1 + h = n:=by rw [hnn]; simpa using hnh
      have HTOP:=Lib.hid (top_any gs b c nn wr (by rw [hnn]; exact HST.out.1.1) (by omega))
      have e0:wr.cell? ⟨gs,0,none⟩ = some (.slice (some ⟨b,0,none⟩) (nn + 1) c):=by rw [hnn]; exact HST.out.1.1.cell 0
      have hnn1:(0:Int) < (nn:Int) + 1:=by omega
      have HNN:=Lib.hid hnn
      have HK:=Lib.hid hK
      have HKS:=Lib.hid hks
      have HA':=Lib.hid hA'
      have HL:=Lib.hid hL
      have HSA:=Lib.hid hsa
      clear hK hks hA' hL hnn
      go_wp2_with fail
      refine HTOP.out.mono ?_
      rintro e w1 ⟨rfl,hf1⟩
      have hst1:=HST.out.grow hf1
      obtain ⟨t0,t1,t2⟩:=hst1.1.top
      rw [← HNN.out] at t0 t1 t2
      simp only at t0 t1 t2
      have l1:b < w1.heap.size:=World.block_lt_of_cell? w1 _ t0
      have HS1:=Lib.hid hst1
      have HC1:=Lib.hid (HCH.out.trans (StkCh.fr0 hf1 rfl))
      rcases Nat.eq_zero_or_pos k with hk0 | hk0
      · subst hk0
        have hL2:L = ah':=by rw [HL.out]; simp [allOf]
        have HA2:Hid (AncB E w0 N (h + 1) fs fa (sumOf ks) L):=by
          have:=HA'.out
          rw [← hL2] at this
          have h0:sumOf (ks.take 0) = 0:=by simp [sumOf]
          rw [h0,Nat.sub_zero] at this
          exact this
        have e1:w1.cell? ⟨gs,0,none⟩ = some (.slice (some ⟨b,0,none⟩) (nn + 1) c):=by rw [HNN.out]; exact hst1.1.1.cell 0
        have f4:=hst1.1.1.frozen 0
        have l4:=hst1.1.1.lt
        have hcn:nn + 1 ≤ c:=by rw [HNN.out]; exact ORow.cap hst1.1.2.1
        have r1:=run_upto (P:=Tryz.prog) 149 (some ⟨b,0,none⟩) (nn + 1) c nn (by kernel_rfl) 3 (by kernel_rfl) (by omega)
        have hw1:IntKind.i64.wrap ((nn:Int) + 1 - 1) = (nn:Int):=by rw [Int.add_sub_cancel]; exact IntWalk.i64_in _ (by omega)
        have hw2:IntKind.i64.wrap (nn:Int) = (nn:Int):=IntWalk.i64_in _ (by omega)
        have b1:(0:Int) ≤ (nn:Int):=by omega
        have b2:(nn:Int) ≤ (c:Int):=by omega
        clear hst1 hf1 HTOP HST e0 HK HKS HA' HL hL2 hcc hsa HSA
        go_wp2_with fail
        go_still_tail 14,(by kernel_rfl)
        go_wp2_with fail
        go_roundg nn
        case rel =>
          have hpop:=stk_pop HS1.out
          rw [← HNN.out] at hpop
          have hfd:Fr [] (w1.setCell ⟨gs,0,none⟩ (.slice (some ⟨b,0,none⟩) nn c)) (w1.setCell ⟨gs,0,none⟩ (.slice (some ⟨b,0,none⟩) nn c)).drew:=Fr.drew (Fr.refl [] _)
          exact ⟨h + 1,fa,sumOf ks,fs,HNN.out,hpop.1.grow hfd,HA2.out,(HC1.out.trans hpop.2).trans (StkCh.fr0 (A:=some ⟨b,0,none⟩) (A':=some ⟨b,0,none⟩) hfd rfl),by rw [← HNN.out]; omega⟩
        case measure => rw [List.length_cons,← HNN.out]; omega
      · obtain ⟨q,hq⟩:∃ q,k = q + 1:=⟨k - 1,by omega⟩
        have hql:q < ks.length:=by omega
        have HSN:=Lib.hid (sumOf_snoc ks q hql)
        have hkr:=HK.out.fr hst1.2.1
        obtain ⟨ad,rfl,m1⟩:=sl_ptrs hkr.now.2 (j:=q) (by rw [List.length_map]; exact hql)
        rw [List.getElem_map] at m1
        obtain ⟨kg,hkg⟩:∃ kg,kg = ks[q].1:=⟨_,rfl⟩
        obtain ⟨km,hkm⟩:∃ km,km = ks[q].2.length:=⟨_,rfl⟩
        have hkp:1 ≤ km:=by rw [hkm]; exact (HKS.out ks[q] (List.getElem_mem hql)).pos (by omega)
        obtain ⟨fq,hfq⟩:∃ fq,fq = fa - km:=⟨_,rfl⟩
        have hkf:km ≤ fa:=by have h1:=HSN.out; have h2:=HSA.out; rw [hq,h1] at h2; omega
        have HQ:Hid (fq + km = fa):=by show _ = _; omega
        have hk1:(0:Int) < (k:Int):=by omega
        have hw1:IntKind.i64.wrap ((k:Int) - 1) = (q:Int):=by rw [show (k:Int) - 1 = (q:Int) by omega]; exact IntWalk.i64_in _ (by omega)
        have f2:w1.frozen? ⟨b,nn * 3 + 2,none⟩ = false:=orow_frozen hst1.1.2.1 _
        have q1:=stk_setk hst1 2 (by omega) (.int .i64 (q:Nat)) (g,fa,q) (by rfl)
        rw [← HNN.out] at q1
        have HQ1:=Lib.hid q1
        obtain ⟨i,hi⟩:∃ i,i + 1 = fq + km:=⟨fq + km - 1,by omega⟩
        have HI:=Lib.hid hi
        have z1:IntKind.i64.wrap ((fa:Int) - (km:Int)) = (fq:Int):=by rw [show (fa:Int) - (km:Int) = (fq:Int) by omega]; exact IntWalk.i64_in _ (by omega)
        have z2:IntKind.i64.wrap ((fq:Int) + (km:Int)) = (fq:Int) + (km:Int):=IntWalk.i64_in _ (by omega)
        have z3:IntKind.i64.wrap ((fq:Int) + (km:Int) - 1) = (i:Int):=by rw [show (fq:Int) + (km:Int) - 1 = (i:Int) by omega]; exact IntWalk.i64_in _ (by omega)
        have HM:Hid (∀ w4,Fr E w0 w4 → w4.cell? ⟨g,0,none⟩ = some (.slice (some ad) ks.length cp) ∧ w4.cell? (ad.add q) = some (.pointer (some ⟨kg,0,none⟩)) ∧ w4.cell? ⟨kg,2,none⟩ = some (.int .i64 (km:Nat))):=by
          show ∀ _,_
          intro w4 hf
          have hk4:=HK.out.fr hf
          obtain ⟨ad',he,m3⟩:=sl_ptrs hk4.now.2 (j:=q) (by rw [List.length_map]; exact hql)
          injection he with he
          subst he
          rw [List.getElem_map,← hkg] at m3
          have m4:=kids_at (NodesAt.frE HKS.out hf) hql
          rw [← hkg,← hkm] at m4
          exact ⟨hk4.now.1.cell 0,m3,m4⟩
        have HDN:Hid (∀ W,StkOf E w0 W gs (some ⟨b,0,none⟩) c ((g,fq,q) :: fs) → Calls Tryz.prog 78 #[.pointer (some ⟨gs,0,none⟩),.pointer (some ⟨kg,0,none⟩),.int .i64 (fq:Nat),.int .i64 (i:Nat)] W (DownB E w0 W gs N (some ⟨b,0,none⟩) (n + 1) L)):=by
          show ∀ _,_
          intro W hs
          have h1:=HSN.out
          have h2:=HSA.out
          rw [hq,h1] at h2
          have:=downB_any w0 W gs kg h 3 fq (km - 1) i c N (some ⟨b,0,none⟩) ((g,fq,q) :: fs) ks[q].2 (ah' ++ allOf (ks.take q)) hs (by rw [hkg]; exact HKS.out _ (List.getElem_mem hql)) ⟨ks,some ad,cp,ah',HK.out,h6,HKS.out,⟨hql,rfl⟩,rfl,by show sumOf (ks.take q) ≤ fq; omega,rfl,by
            show AncB E w0 N (h + 1) fs (fq - sumOf (ks.take q)) (sumOf ks) ah'
            rw [show fq - sumOf (ks.take q) = fa - sumOf (ks.take k) by rw [hq,h1]; omega]
            exact HA'.out⟩ (by rw [← hkm]; omega) (by omega) hN (by have:=HNN.out; simp; omega)
          rw [show (ah' ++ allOf (ks.take q)) ++ ks[q].2.take (km - 1 + 1) = L by
            rw [show km - 1 + 1 = ks[q].2.length by rw [← hkm]; omega,List.take_length,HL.out,hq,List.take_succ_eq_append_getElem hql,List.append_assoc]
            congr 1
            simp only [allOf,List.map_append,List.flatten_append,List.map_cons,List.map_nil,List.flatten_cons,List.flatten_nil,List.append_nil],show ((g,fq,q) :: fs).length + h + 1 = n + 1 by have:=HNN.out; simp; omega] at this
          exact this
        have hqk:(q:Int) < (ks.length:Int):=by omega
        have hq0:(0:Int) ≤ (q:Int):=by omega
        obtain ⟨kk,hkk⟩:∃ kk,kk = ks.length:=⟨_,rfl⟩
        rw [← hkk] at HM hqk
        clear hst1 hf1 HTOP HST e0 HK HKS HA' HL hcc hsa HSA hkr m1 hkg hkm hfq hkf hq hi HSN q1 hkp hk0 hkk hql hk h6 hlen hlen2
        go_wp2_with fail
        obtain ⟨w3,hw3⟩:∃ w3,w3 = w1.setCell ⟨b,nn * 3 + 2,none⟩ (.int .i64 (q:Nat)):=⟨_,rfl⟩
        rw [← hw3] at HQ1 ⊢
        obtain ⟨s0,s1,s2⟩:=HQ1.out.1.1.top
        rw [← HNN.out] at s0 s1 s2
        simp only at s0 s1 s2
        obtain ⟨n0,n1,n2⟩:=HM.out w3 HQ1.out.1.2.1
        clear t0 t1 t2 f2 l1 hw3
        go_quiet (fail)
        clear s0 s1 s2 n0 n1 n2
        obtain ⟨w4,hw4⟩:∃ w4,w4 = w3.drewN nq:=⟨_,rfl⟩
        rw [← hw4]
        have hf4:Fr [] w3 w4:=by rw [hw4]; exact (Fr.refl [] w3).drewN nq
        have hst4:=HQ1.out.1.grow hf4
        obtain ⟨s0,s1,s2⟩:=hst4.1.top
        rw [← HNN.out] at s0 s1 s2
        simp only at s0 s1 s2
        obtain ⟨n0,n1,n2⟩:=HM.out w4 hst4.2.1
        have f1:w4.frozen? ⟨b,nn * 3 + 1,none⟩ = false:=orow_frozen hst4.1.2.1 _
        have l1:b < w4.heap.size:=World.block_lt_of_cell? w4 _ s0
        have q2:=stk_setk hst4 1 (by omega) (.int .i64 (fq:Nat)) (g,fq,q) (by rfl)
        rw [← HNN.out] at q2
        obtain ⟨w5,hw5⟩:∃ w5,w5 = (w4.setCell ⟨b,nn * 3 + 1,none⟩ (.int .i64 (fq:Nat))).drew:=⟨_,rfl⟩
        have hst5:StkOf E w0 w5 gs (some ⟨b,0,none⟩) c ((g,fq,q) :: fs):=by rw [hw5]; exact q2.1.grow (Fr.drew (Fr.refl [] _))
        have HC5:Hid (StkCh gs w w5 (some ⟨b,0,none⟩) (some ⟨b,0,none⟩)):=by
          show StkCh _ _ _ _ _
          rw [hw5]
          exact (((HC1.out.trans HQ1.out.2).trans (StkCh.fr0 (A:=some ⟨b,0,none⟩) (A':=some ⟨b,0,none⟩) hf4 rfl)).trans q2.2).trans (StkCh.fr0 (A:=some ⟨b,0,none⟩) (A':=some ⟨b,0,none⟩) (Fr.drew (Fr.refl [] _)) rfl)
        have HS5:=Lib.hid hst5
        clear hst4 hf4 hw4 q2 hst5
        go_wp2_with fail
        go_still_tail 11,(by kernel_rfl)
        go_wp2_with fail
        rw [← hw5]
        obtain ⟨u0,u1,u2⟩:=HS5.out.1.top
        rw [← HNN.out] at u0 u1 u2
        simp only at u0 u1 u2
        obtain ⟨v0,v1,v2⟩:=HM.out w5 HS5.out.2.1
        clear s0 s1 s2 n0 n1 n2 f1 l1 hw5
        go_still_tail 16,(by kernel_rfl)
        go_wp2_with fail
        refine (HDN.out _ (HS5.out.grow (Fr.refl [] w5).drew)).mono ?_
        rintro e w6 ⟨A5,c5,fs5,rfl,p1,p2,p3,p4⟩
        have HEND:Hid (BackAns E w0 w gs N (some ⟨b,0,none⟩) (n + 1) L (.returned (.bool true)) w6):=⟨A5,c5,fs5,rfl,p1,p2,(HC5.out.trans (StkCh.fr0 (A:=some ⟨b,0,none⟩) (A':=some ⟨b,0,none⟩) ((Fr.refl [] w5).drew) rfl)).trans p3,p4⟩
        clear p1 p2 p3 p4
        go_wp2_with fail
        go_ret
        exact HEND.out
end Go.Proofs.YteohomdiklkbfaaGreat
