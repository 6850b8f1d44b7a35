import Derived.Test.YtblafakafgediaaGreatF47
import Derived.Test.YtblafakafgediaaGreatF48
import Derived.Test.YtblafakafgediaaGreatF46
import Derived.Test.YtblafakafgediaaGreatF45
namespace Go.Proofs.YtblafakafgediaaGreat
open Go.RowKit Go.Proofs.Dm

set_option maxRecDepth 100000 in
set_option maxHeartbeats 1600000 in
theorem HG.moved {s:List UInt8} {g:Nat} {p:Option Addr} {tl:Bool} {eo:Int} {rs:List RW} {x:GD} {w:World} (h:HG [] s g p tl eo rs x w) {pr pc:Int} {R C:Nat} (hs:Sett (rs.map Prod.fst) pr pc R C) (n:Int) (h1:-400 ≤ n) (h4:n ≤ 400) :
    Calls Tryz.prog 103 #[.agg #[.pointer p,.bool tl,.int .i64 eo],.agg #[.int .i64 pr,.int .i64 pc],.int .i64 n] w fun en w' => en = .returned (.agg #[.int .i64 (movedP (rs.map Prod.fst) R n:Nat),.int .i64 (C:Nat)]) ∧ Fr [] w w':=by
  obtain ⟨W1,hW1⟩:∃ W1,W1 = ((w.alloc (.cells #[.pointer p,.bool tl,.int .i64 eo] TGr)).alloc (.cells #[.int .i64 pr,.int .i64 pc] 45)).alloc (.cells #[.int .i64 0,.int .i64 0] 45):=⟨_,rfl⟩
  obtain ⟨GB,hGB⟩:∃ GB,GB = w.heap.size:=⟨_,rfl⟩
  obtain ⟨PB,hPB⟩:∃ PB,PB = w.heap.size + 1:=⟨_,rfl⟩
  obtain ⟨RB,hRB⟩:∃ RB,RB = w.heap.size + 1 + 1:=⟨_,rfl⟩
  have HF:Hid (Fr [] w W1 ∧ Blk W1 GB TGr #[.pointer p,.bool tl,.int .i64 eo] ∧ Blk W1 PB 45 #[.int .i64 pr,.int .i64 pc] ∧ Blk W1 RB 45 #[.int .i64 0,.int .i64 0]):=by
    have b2:=Blk.new (w.alloc (.cells #[.pointer p,.bool tl,.int .i64 eo] TGr)) 45 #[.int .i64 pr,.int .i64 pc]
    have b3:=Blk.new ((w.alloc (.cells #[.pointer p,.bool tl,.int .i64 eo] TGr)).alloc (.cells #[.int .i64 pr,.int .i64 pc] 45)) 45 #[.int .i64 0,.int .i64 0]
    simp only [World.size_alloc] at b2 b3
    rw [hW1,hGB,hPB,hRB]
    exact ⟨(((Fr.refl [] w).alloc _).alloc _).alloc _,((Blk.new w _ _).alloc _).alloc _,b2.alloc _,b3⟩
  have HNB:Hid (GB = w.heap.size ∧ PB = w.heap.size + 1 ∧ RB = w.heap.size + 1 + 1):=⟨hGB,hPB,hRB⟩
  have HFW:Hid (∀ w',Fr [some PB] W1 w' → Fr [] w w'):=by
    show ∀ _,_
    intro w' hf
    exact HF.out.1.seq hf fun z hz => by rw [List.mem_singleton] at hz; exact .inr (.inr ⟨PB,by have:=HNB.out; omega,hz⟩)
  have HC:Hid (∀ w',Fr [some PB] W1 w' → w'.cell? ⟨GB,0,none⟩ = some (.pointer p) ∧ w'.cell? ⟨GB,1,none⟩ = some (.bool tl) ∧ w'.cell? ⟨GB,2,none⟩ = some (.int .i64 eo) ∧ w'.cell? ⟨RB,0,none⟩ = some (.int .i64 0) ∧ w'.cell? ⟨RB,1,none⟩ = some (.int .i64 0) ∧ w'.frozen? ⟨RB,0,none⟩ = false ∧ w'.frozen? ⟨RB,1,none⟩ = false ∧ RB < w'.heap.size):=by
    show ∀ _,_
    intro w' hf
    have e1:=HF.out.2.1.fr hf (by have:=HNB.out; simp; omega)
    have e2:=HF.out.2.2.2.fr hf (by have:=HNB.out; simp; omega)
    exact ⟨e1.cell 0,e1.cell 1,e1.cell 2,e2.cell 0,e2.cell 1,e2.frozen 0,e2.frozen 1,e2.lt⟩
  have HFE:Hid (∀ w' v0 v1,Fr [some PB] W1 w' → Fr [] w ((w'.setCell ⟨RB,0,none⟩ v0).setCell ⟨RB,1,none⟩ v1)):=by
    show ∀ _,_
    intro w' v0 v1 hf
    exact ((HFW.out w' hf).setB (fun h => absurd h (by have:=HNB.out; omega)) _ _).setB (fun h => absurd h (by have:=HNB.out; omega)) _ _
  have HST:=Lib.hid ((h.fr0 HF.out.1).settle hs)
  have HH:=Lib.hid h
  have HSS:=Lib.hid hs.again
  have n1:¬ GB = PB:=by omega
  have n3:¬ PB = RB:=by omega
  have n4:¬ RB = PB:=by omega
  have HW1:=Lib.hid hW1
  clear h hs hW1
  go_enter Tryz.func103,Tryz.ntmps103
  go_wp2_with fail
  rw [← HW1.out,← hRB,← hPB,← hGB]
  clear hRB hPB hGB
  obtain ⟨g0,g1,g2,_,_,_,_,_⟩:=HC.out W1 (Fr.refl _ _)
  have p0:W1.cell? ⟨PB,0,none⟩ = some (.int .i64 pr):=HF.out.2.2.1.cell 0
  have p1:W1.cell? ⟨PB,1,none⟩ = some (.int .i64 pc):=HF.out.2.2.1.cell 1
  go_wp2_with fail
  refine HST.out.mono ?_
  rintro en w2 ⟨rfl,hf2⟩
  have hb2:=HF.out.2.2.1.fr hf2 (by simp)
  have p0:w2.cell? ⟨PB,0,none⟩ = some (.int .i64 pr):=hb2.cell 0
  have p1:w2.cell? ⟨PB,1,none⟩ = some (.int .i64 pc):=hb2.cell 1
  have y0:=hb2.frozen 0
  have y1:=hb2.frozen 1
  have lp:=hb2.lt
  obtain ⟨W3,hW3⟩:∃ W3,W3 = (w2.setCell ⟨PB,0,none⟩ (.int .i64 (R:Nat))).setCell ⟨PB,1,none⟩ (.int .i64 (C:Nat)):=⟨_,rfl⟩
  have HE3:Hid (Blk W3 PB 45 #[.int .i64 (R:Nat),.int .i64 (C:Nat)] ∧ Fr [some PB] W1 W3):=by
    rw [hW3]
    exact ⟨by simpa using (hb2.set_ 0 (.int .i64 (R:Nat))).set_ 1 (.int .i64 (C:Nat)),(hf2.of_nil.setB (fun _ => by simp) _ _).setB (fun _ => by simp) _ _⟩
  have HW3:=Lib.hid hW3
  obtain ⟨g0,g1,g2,r0,r1,z0,z1,lr⟩:=HC.out w2 hf2.of_nil
  clear hf2 hb2 hW3
  rcases Int.lt_trichotomy n 0 with hn | rfl | hn
  · obtain ⟨k,hk⟩:∃ k:Nat,(k:Int) = -n:=⟨(-n).toNat,by omega⟩
    have HMV:=Lib.hid ((HH.out.fr0 (HFW.out W3 HE3.out.2)).move107 HSS.out k (by omega) (by omega))
    obtain ⟨S,hS⟩:∃ S,S = itF (bwd (rs.map Prod.fst)) k R:=⟨_,rfl⟩
    rw [← hS] at HMV
    have HSM:Hid (movedP (rs.map Prod.fst) R n = S):=by
      show _ = _
      unfold movedP
      rw [if_neg (by omega),if_pos hn,hS,← hk,Int.toNat_natCast]
    have hn1:¬ 0 < n:=by omega
    have hnw:IntKind.i64.wrap (-n) = (k:Int):=by rw [IntWalk.i64_in _ (by omega)]; omega
    clear hS hk
    clear r0 r1 z0 z1 lr
    go_wp2_with fail
    rw [← HW3.out]
    clear p0 p1 y0 y1 lp g0 g1 g2
    refine HMV.out.mono ?_
    rintro en w4 ⟨⟨b,rfl⟩,hf4⟩
    have hb4:=HE3.out.1.fr hf4 (by simp)
    have p0:w4.cell? ⟨PB,0,none⟩ = some (.int .i64 (R:Nat)):=hb4.cell 0
    have p1:w4.cell? ⟨PB,1,none⟩ = some (.int .i64 (C:Nat)):=hb4.cell 1
    have y0:=hb4.frozen 0
    have y1:=hb4.frozen 1
    have lp:=hb4.lt
    have HF5:Hid (Fr [some PB] W1 ((w4.setCell ⟨PB,0,none⟩ (.int .i64 (S:Nat))).setCell ⟨PB,1,none⟩ (.int .i64 (C:Nat)))):=((HE3.out.2.trans hf4.of_nil).setB (fun _ => by simp) _ _).setB (fun _ => by simp) _ _
    have HFN:=Lib.hid (fun v0 v1 => HFE.out _ v0 v1 HF5.out)
    obtain ⟨_,_,_,r0,r1,z0,z1,lr⟩:=HC.out w4 (HE3.out.2.trans hf4.of_nil)
    clear hb4 hf4
    go_wp2_with fail
    refine bodyPost_ret (v:=.agg #[.int .i64 (S:Nat),.int .i64 (C:Nat)]) (by simp [results,Tryz.results103,go_sem, *]) rfl ?_
    exact ⟨by rw [HSM.out],HFN.out _ _⟩
  · have HSM:Hid (movedP (rs.map Prod.fst) R 0 = R):=by
      show _ = _
      unfold movedP
      rw [if_neg (by omega),if_neg (by omega)]
    have HFN:=Lib.hid (fun v0 v1 => HFE.out W3 v0 v1 HE3.out.2)
    rw [HW3.out] at HFN
    go_wp2_with fail
    refine bodyPost_ret (v:=.agg #[.int .i64 (R:Nat),.int .i64 (C:Nat)]) (by simp [results,Tryz.results103,go_sem, *]) rfl ?_
    exact ⟨by rw [HSM.out],HFN.out _ _⟩
  · obtain ⟨k,hk⟩:∃ k:Nat,n = (k:Int):=Int.eq_ofNat_of_zero_le (by omega)
    subst hk
    have HMV:=Lib.hid ((HH.out.fr0 (HFW.out W3 HE3.out.2)).move106 HSS.out k (by omega) (by omega))
    obtain ⟨S,hS⟩:∃ S,S = itF (fwd (rs.map Prod.fst)) k R:=⟨_,rfl⟩
    rw [← hS] at HMV
    have HSM:Hid (movedP (rs.map Prod.fst) R (k:Int) = S):=by
      show _ = _
      unfold movedP
      rw [if_pos hn,hS,Int.toNat_natCast]
    clear hS
    clear r0 r1 z0 z1 lr
    go_wp2_with fail
    rw [← HW3.out]
    clear p0 p1 y0 y1 lp g0 g1 g2
    refine HMV.out.mono ?_
    rintro en w4 ⟨⟨b,rfl⟩,hf4⟩
    have hb4:=HE3.out.1.fr hf4 (by simp)
    have p0:w4.cell? ⟨PB,0,none⟩ = some (.int .i64 (R:Nat)):=hb4.cell 0
    have p1:w4.cell? ⟨PB,1,none⟩ = some (.int .i64 (C:Nat)):=hb4.cell 1
    have y0:=hb4.frozen 0
    have y1:=hb4.frozen 1
    have lp:=hb4.lt
    have HF5:Hid (Fr [some PB] W1 ((w4.setCell ⟨PB,0,none⟩ (.int .i64 (S:Nat))).setCell ⟨PB,1,none⟩ (.int .i64 (C:Nat)))):=((HE3.out.2.trans hf4.of_nil).setB (fun _ => by simp) _ _).setB (fun _ => by simp) _ _
    have HFN:=Lib.hid (fun v0 v1 => HFE.out _ v0 v1 HF5.out)
    obtain ⟨_,_,_,r0,r1,z0,z1,lr⟩:=HC.out w4 (HE3.out.2.trans hf4.of_nil)
    clear hb4 hf4
    go_wp2_with fail
    refine bodyPost_ret (v:=.agg #[.int .i64 (S:Nat),.int .i64 (C:Nat)]) (by simp [results,Tryz.results103,go_sem, *]) rfl ?_
    exact ⟨by rw [HSM.out],HFN.out _ _⟩
set_option maxRecDepth 100000 in
set_option maxHeartbeats 1600000 in
theorem dmoved_any (w:World) (x:GD) (xs:List RV) {pr pc:Int} {R C:Nat} (n:Int) (h:DGr x xs w) (hs:Sett xs pr pc R C) (hw40:widthP xs ≤ 40) (h1:-400 ≤ n) (h4:n ≤ 400) :
    Calls Tryz.prog 104 #[.agg #[.slice x.B x.m x.d,.bool x.t,.int .i64 x.e],.agg #[.int .i64 pr,.int .i64 pc],.int .i64 n] w fun en w' => en = .returned (.agg #[.int .i64 (movedP xs R n:Nat),.int .i64 (C:Nat)]) ∧ Fr [] w w':=by
  obtain ⟨W1,hW1⟩:∃ W1,W1 = ((w.alloc (.cells #[.slice x.B x.m x.d,.bool x.t,.int .i64 x.e] TD11)).alloc (.cells #[.int .i64 pr,.int .i64 pc] 26)).alloc (.cells #[.int .i64 0,.int .i64 0] 26):=⟨_,rfl⟩
  obtain ⟨GB,hGB⟩:∃ GB,GB = w.heap.size:=⟨_,rfl⟩
  obtain ⟨PB,hPB⟩:∃ PB,PB = w.heap.size + 1:=⟨_,rfl⟩
  obtain ⟨RB,hRB⟩:∃ RB,RB = w.heap.size + 1 + 1:=⟨_,rfl⟩
  have HF:Hid (Fr [] w W1 ∧ Blk W1 GB TD11 #[.slice x.B x.m x.d,.bool x.t,.int .i64 x.e] ∧ Blk W1 PB 26 #[.int .i64 pr,.int .i64 pc] ∧ Blk W1 RB 26 #[.int .i64 0,.int .i64 0]):=by
    have b2:=Blk.new (w.alloc (.cells #[.slice x.B x.m x.d,.bool x.t,.int .i64 x.e] TD11)) 26 #[.int .i64 pr,.int .i64 pc]
    have b3:=Blk.new ((w.alloc (.cells #[.slice x.B x.m x.d,.bool x.t,.int .i64 x.e] TD11)).alloc (.cells #[.int .i64 pr,.int .i64 pc] 26)) 26 #[.int .i64 0,.int .i64 0]
    simp only [World.size_alloc] at b2 b3
    rw [hW1,hGB,hPB,hRB]
    exact ⟨(((Fr.refl [] w).alloc _).alloc _).alloc _,((Blk.new w _ _).alloc _).alloc _,b2.alloc _,b3⟩
  have HNB:Hid (RB = w.heap.size + 1 + 1):=hRB
  obtain ⟨S,hS⟩:∃ S,S = movedP xs R n:=⟨_,rfl⟩
  have HD:=Lib.hid (h.fr0 HF.out.1)
  have HSS:=Lib.hid hs
  have HS:=Lib.hid hS
  rw [← hS]
  have g0:W1.cell? ⟨GB,0,none⟩ = some (.slice x.B x.m x.d):=HF.out.2.1.cell 0
  have g1:W1.cell? ⟨GB,1,none⟩ = some (.bool x.t):=HF.out.2.1.cell 1
  have g2:W1.cell? ⟨GB,2,none⟩ = some (.int .i64 x.e):=HF.out.2.1.cell 2
  have p0:W1.cell? ⟨PB,0,none⟩ = some (.int .i64 pr):=HF.out.2.2.1.cell 0
  have p1:W1.cell? ⟨PB,1,none⟩ = some (.int .i64 pc):=HF.out.2.2.1.cell 1
  rw [hW1] at g0 g1 g2 p0 p1
  rw [hGB] at g0 g1 g2
  rw [hPB] at p0 p1
  have HW1:=Lib.hid hW1
  clear h hs hS hW1
  rcases Int.lt_trichotomy n 0 with hn | rfl | hn
  · obtain ⟨k,hk⟩:∃ k:Nat,(k:Int) = 0 - n:=⟨(0 - n).toNat,by omega⟩
    have HMV:=Lib.hid (dmove107 W1 x xs k HD.out HSS.out hw40 (by omega) (by omega))
    rw [show itF (bwd xs) k R = S by rw [HS.out]; unfold movedP; rw [if_neg (by omega),if_pos hn,show -n = (k:Int) by omega,Int.toNat_natCast]] at HMV
    have hn1:¬ 0 < n:=by omega
    have hnw:IntKind.i64.wrap (0 - n) = (k:Int):=by rw [IntWalk.i64_in _ (by omega)]; omega
    have hnw2:IntKind.i64.wrap (-n) = (k:Int):=by rw [IntWalk.i64_in _ (by omega)]; omega
    clear hk h1 h4
    go_enter Tryz.func104,Tryz.ntmps104
    go_wp2_with fail
    rw [← HW1.out,← hRB]
    clear hRB g0 g1 g2 p0 p1
    refine HMV.out.mono ?_
    rintro en w2 ⟨rfl,hf2⟩
    have hr2:=HF.out.2.2.2.fr hf2 (by simp)
    have r0:w2.cell? ⟨RB,0,none⟩ = some (.int .i64 0):=hr2.cell 0
    have r1:w2.cell? ⟨RB,1,none⟩ = some (.int .i64 0):=hr2.cell 1
    have z0:=hr2.frozen 0
    have z1:=hr2.frozen 1
    have lr:=hr2.lt
    have HFE:Hid (∀ v0 v1,Fr [] w ((w2.setCell ⟨RB,0,none⟩ v0).setCell ⟨RB,1,none⟩ v1)):=by
      show ∀ _,_
      intro v0 v1
      exact ((HF.out.1.trans hf2).setB (fun h => absurd h (by have:=HNB.out; omega)) _ _).setB (fun h => absurd h (by have:=HNB.out; omega)) _ _
    clear hr2 hf2
    go_wp2_with fail
    refine bodyPost_ret (v:=.agg #[.int .i64 (S:Nat),.int .i64 (C:Nat)]) (by simp [results,Tryz.results104,go_sem, *]) rfl ?_
    exact ⟨rfl,HFE.out _ _⟩
  · have HMV:=Lib.hid (dsettle_any W1 x xs pr pc R C HD.out HSS.out hw40)
    rw [show R = S by rw [HS.out]; unfold movedP; rw [if_neg (by omega),if_neg (by omega)]] at HMV
    clear h1 h4
    go_enter Tryz.func104,Tryz.ntmps104
    go_wp2_with fail
    rw [← HW1.out,← hRB]
    clear hRB g0 g1 g2 p0 p1
    refine HMV.out.mono ?_
    rintro en w2 ⟨rfl,hf2⟩
    have hr2:=HF.out.2.2.2.fr hf2 (by simp)
    have r0:w2.cell? ⟨RB,0,none⟩ = some (.int .i64 0):=hr2.cell 0
    have r1:w2.cell? ⟨RB,1,none⟩ = some (.int .i64 0):=hr2.cell 1
    have z0:=hr2.frozen 0
    have z1:=hr2.frozen 1
    have lr:=hr2.lt
    have HFE:Hid (∀ v0 v1,Fr [] w ((w2.setCell ⟨RB,0,none⟩ v0).setCell ⟨RB,1,none⟩ v1)):=by
      show ∀ _,_
      intro v0 v1
      exact ((HF.out.1.trans hf2).setB (fun h => absurd h (by have:=HNB.out; omega)) _ _).setB (fun h => absurd h (by have:=HNB.out; omega)) _ _
    clear hr2 hf2
    go_wp2_with fail
    refine bodyPost_ret (v:=.agg #[.int .i64 (S:Nat),.int .i64 (C:Nat)]) (by simp [results,Tryz.results104,go_sem, *]) rfl ?_
    exact ⟨rfl,HFE.out _ _⟩
  · obtain ⟨k,hk⟩:∃ k:Nat,n = (k:Int):=Int.eq_ofNat_of_zero_le (by omega)
    subst hk
    have HMV:=Lib.hid (dmove106 W1 x xs k HD.out HSS.out hw40 (by omega) (by omega))
    rw [show itF (fwd xs) k R = S by rw [HS.out]; unfold movedP; rw [if_pos hn,Int.toNat_natCast]] at HMV
    clear h1 h4
    go_enter Tryz.func104,Tryz.ntmps104
    go_wp2_with fail
    rw [← HW1.out,← hRB]
    clear hRB g0 g1 g2 p0 p1
    refine HMV.out.mono ?_
    rintro en w2 ⟨rfl,hf2⟩
    have hr2:=HF.out.2.2.2.fr hf2 (by simp)
    have r0:w2.cell? ⟨RB,0,none⟩ = some (.int .i64 0):=hr2.cell 0
    have r1:w2.cell? ⟨RB,1,none⟩ = some (.int .i64 0):=hr2.cell 1
    have z0:=hr2.frozen 0
    have z1:=hr2.frozen 1
    have lr:=hr2.lt
    have HFE:Hid (∀ v0 v1,Fr [] w ((w2.setCell ⟨RB,0,none⟩ v0).setCell ⟨RB,1,none⟩ v1)):=by
      show ∀ _,_
      intro v0 v1
      exact ((HF.out.1.trans hf2).setB (fun h => absurd h (by have:=HNB.out; omega)) _ _).setB (fun h => absurd h (by have:=HNB.out; omega)) _ _
    clear hr2 hf2
    go_wp2_with fail
    refine bodyPost_ret (v:=.agg #[.int .i64 (S:Nat),.int .i64 (C:Nat)]) (by simp [results,Tryz.results104,go_sem, *]) rfl ?_
    exact ⟨rfl,HFE.out _ _⟩
end Go.Proofs.YtblafakafgediaaGreat
namespace Go.Proofs.YtblafakafgediaaGreat
open Go.RowKit Go.Proofs.Dm

def ClampN (n nc:Int):Prop:=(n < -400 ∧ nc = -400) ∨ (¬ n < -400 ∧ 400 < n ∧ nc = 400) ∨ (¬ n < -400 ∧ ¬ 400 < n ∧ nc = n)
theorem clampN_ex (n:Int):∃ nc,ClampN n nc ∧ -400 ≤ nc ∧ nc ≤ 400:=by
  by_cases h1:n < -400
  · exact ⟨-400,.inl ⟨h1,rfl⟩,by omega,by omega⟩
  · by_cases h2:400 < n
    · exact ⟨400,.inr (.inl ⟨h1,h2,rfl⟩),by omega,by omega⟩
    · exact ⟨n,.inr (.inr ⟨h1,h2,rfl⟩),by omega,by omega⟩
set_option maxRecDepth 100000 in
set_option maxHeartbeats 6400000 in
theorem HG.scroll {s:List UInt8} {g:Nat} {p:Option Addr} {tl:Bool} {eo:Int} {rs:List RW} {x:GD} {w:World} (h:HG [] s g p tl eo rs x w) {pr pc n nc:Int} {R C RT CT top left hh wid T lf:Nat} (hs:Sett (rs.map Prod.fst) pr pc R C) (hst:Sett (rs.map Prod.fst) (top:Nat) 0 RT CT) (hcl:ClampN n nc)
    (h1:1 ≤ hh) (h4:hh ≤ 400) (w4:wid ≤ 40) (ht:top ≤ 2 ^ 40) (hl:left ≤ 2 ^ 50)
    (hT:T = follT (rs.map Prod.fst) (movedP (rs.map Prod.fst) R nc) (movedP (rs.map Prod.fst) RT nc) hh (hidAt (rs.map Prod.fst) (movedP (rs.map Prod.fst) R nc))) (hlf:(lf:Int) = max (min (left:Int) C) ((C:Int) - wid + 1)) :
    Calls Tryz.prog 45 #[.agg #[.int .i64 (top:Nat),.int .i64 (left:Nat),.int .i64 (hh:Nat),.int .i64 (wid:Nat)],.agg #[.pointer p,.bool tl,.int .i64 eo],.agg #[.int .i64 pr,.int .i64 pc],.int .i64 n] w fun en w' => en = .returned (.tuple #[.agg #[.int .i64 (T:Nat),.int .i64 (lf:Nat),.int .i64 (hh:Nat),.int .i64 (wid:Nat)],.agg #[.int .i64 (movedP (rs.map Prod.fst) R nc:Nat),.int .i64 (C:Nat)]]) ∧ Fr [] w w':=by
  have hb:-400 ≤ nc ∧ nc ≤ 400:=by unfold ClampN at hcl; omega
  obtain ⟨S,hS⟩:∃ S,S = movedP (rs.map Prod.fst) R nc:=⟨_,rfl⟩
  obtain ⟨T2,hT2⟩:∃ T2,T2 = movedP (rs.map Prod.fst) RT nc:=⟨_,rfl⟩
  have hset:Sett (rs.map Prod.fst) (S:Nat) (C:Nat) S C:=hs.at_ (by rw [hS]; exact moved_set nc hs.set_)
  have hT2b:T2 ≤ 400:=by
    have h5:=moved_set nc hst.set_
    rw [← hT2] at h5
    have h6:=h5.le
    have h7:=h.xn
    omega
  obtain ⟨W1,hW1⟩:∃ W1,W1 = ((((w.alloc (.cells #[.int .i64 (top:Nat),.int .i64 (left:Nat),.int .i64 (hh:Nat),.int .i64 (wid:Nat)] 40)).alloc (.cells #[.pointer p,.bool tl,.int .i64 eo] TGr)).alloc (.cells #[.int .i64 pr,.int .i64 pc] 45)).alloc (.cells #[.int .i64 0,.int .i64 0,.int .i64 0,.int .i64 0] 40)).alloc (.cells #[.int .i64 0,.int .i64 0] 45):=⟨_,rfl⟩
  have HM1:Hid (∀ w',Fr [] w w' → Calls Tryz.prog 103 #[.agg #[.pointer p,.bool tl,.int .i64 eo],.agg #[.int .i64 pr,.int .i64 pc],.int .i64 nc] w' fun en w'' => en = .returned (.agg #[.int .i64 (S:Nat),.int .i64 (C:Nat)]) ∧ Fr [] w' w''):=by
    show ∀ _,_
    intro w' hf
    rw [hS]
    exact (h.fr0 hf).moved hs nc hb.1 hb.2
  have HM2:Hid (∀ w',Fr [] w w' → Calls Tryz.prog 103 #[.agg #[.pointer p,.bool tl,.int .i64 eo],.agg #[.int .i64 (top:Nat),.int .i64 0],.int .i64 nc] w' fun en w'' => en = .returned (.agg #[.int .i64 (T2:Nat),.int .i64 (CT:Nat)]) ∧ Fr [] w' w''):=by
    show ∀ _,_
    intro w' hf
    rw [hT2]
    exact (h.fr0 hf).moved hst nc hb.1 hb.2
  have HFO:Hid (∀ w',Fr [] w w' → Calls Tryz.prog 16 #[.agg #[.int .i64 (T2:Nat),.int .i64 (left:Nat),.int .i64 (hh:Nat),.int .i64 (wid:Nat)],.agg #[.pointer p,.bool tl,.int .i64 eo],.agg #[.int .i64 (S:Nat),.int .i64 (C:Nat)]] w' fun en w'' => en = .returned (.agg #[.int .i64 (T:Nat),.int .i64 (lf:Nat),.int .i64 (hh:Nat),.int .i64 (wid:Nat)]) ∧ Fr [] w' w''):=by
    show ∀ _,_
    intro w' hf
    exact (h.fr0 hf).follow hset h1 h4 w4 (by omega) hl (by rw [hT,hS,hT2]) hlf
  rw [← hS]
  obtain ⟨VB,hVB⟩:∃ VB,VB = w.heap.size:=⟨_,rfl⟩
  obtain ⟨GB,hGB⟩:∃ GB,GB = w.heap.size + 1:=⟨_,rfl⟩
  obtain ⟨PB,hPB⟩:∃ PB,PB = w.heap.size + 1 + 1:=⟨_,rfl⟩
  obtain ⟨Q1,hQ1⟩:∃ Q1,Q1 = w.heap.size + 1 + 1 + 1:=⟨_,rfl⟩
  obtain ⟨Q2,hQ2⟩:∃ Q2,Q2 = w.heap.size + 1 + 1 + 1 + 1:=⟨_,rfl⟩
  have HF:Hid (Fr [] w W1 ∧ Blk W1 VB 40 #[.int .i64 (top:Nat),.int .i64 (left:Nat),.int .i64 (hh:Nat),.int .i64 (wid:Nat)] ∧ Blk W1 GB TGr #[.pointer p,.bool tl,.int .i64 eo] ∧ Blk W1 PB 45 #[.int .i64 pr,.int .i64 pc] ∧ Blk W1 Q1 40 #[.int .i64 0,.int .i64 0,.int .i64 0,.int .i64 0] ∧ Blk W1 Q2 45 #[.int .i64 0,.int .i64 0]):=by
    have b1:=Blk.new (w.alloc (.cells #[.int .i64 (top:Nat),.int .i64 (left:Nat),.int .i64 (hh:Nat),.int .i64 (wid:Nat)] 40)) TGr #[.pointer p,.bool tl,.int .i64 eo]
    have b2:=Blk.new ((w.alloc (.cells #[.int .i64 (top:Nat),.int .i64 (left:Nat),.int .i64 (hh:Nat),.int .i64 (wid:Nat)] 40)).alloc (.cells #[.pointer p,.bool tl,.int .i64 eo] TGr)) 45 #[.int .i64 pr,.int .i64 pc]
    have b3:=Blk.new (((w.alloc (.cells #[.int .i64 (top:Nat),.int .i64 (left:Nat),.int .i64 (hh:Nat),.int .i64 (wid:Nat)] 40)).alloc (.cells #[.pointer p,.bool tl,.int .i64 eo] TGr)).alloc (.cells #[.int .i64 pr,.int .i64 pc] 45)) 40 #[.int .i64 0,.int .i64 0,.int .i64 0,.int .i64 0]
    have b4:=Blk.new ((((w.alloc (.cells #[.int .i64 (top:Nat),.int .i64 (left:Nat),.int .i64 (hh:Nat),.int .i64 (wid:Nat)] 40)).alloc (.cells #[.pointer p,.bool tl,.int .i64 eo] TGr)).alloc (.cells #[.int .i64 pr,.int .i64 pc] 45)).alloc (.cells #[.int .i64 0,.int .i64 0,.int .i64 0,.int .i64 0] 40)) 45 #[.int .i64 0,.int .i64 0]
    simp only [World.size_alloc] at b1 b2 b3 b4
    rw [hW1,hVB,hGB,hPB,hQ1,hQ2]
    exact ⟨(((((Fr.refl [] w).alloc _).alloc _).alloc _).alloc _).alloc _,((((Blk.new w _ _).alloc _).alloc _).alloc _).alloc _,((b1.alloc _).alloc _).alloc _,(b2.alloc _).alloc _,b3.alloc _,b4⟩
  have HNB:Hid (VB = w.heap.size ∧ GB = w.heap.size + 1 ∧ PB = w.heap.size + 1 + 1 ∧ Q1 = w.heap.size + 1 + 1 + 1 ∧ Q2 = w.heap.size + 1 + 1 + 1 + 1):=⟨hVB,hGB,hPB,hQ1,hQ2⟩
  -- only the view and the place are turned
  have HFW:Hid (∀ w',Fr [some VB,some PB] W1 w' → Fr [] w w'):=by
    show ∀ _,_
    intro w' hf
    refine HF.out.1.seq hf fun z hz => ?_
    have hn:=HNB.out
    rcases List.mem_cons.1 hz with e | e
    · exact .inr (.inr ⟨VB,by omega,e⟩)
    · rw [List.mem_singleton] at e; exact .inr (.inr ⟨PB,by omega,e⟩)
  have HCG:Hid (∀ w',Fr [some VB,some PB] W1 w' → w'.cell? ⟨GB,0,none⟩ = some (.pointer p) ∧ w'.cell? ⟨GB,1,none⟩ = some (.bool tl) ∧ w'.cell? ⟨GB,2,none⟩ = some (.int .i64 eo)):=by
    show ∀ _,_
    intro w' hf
    have e1:=HF.out.2.2.1.fr hf (by have:=HNB.out; simp; omega)
    exact ⟨e1.cell 0,e1.cell 1,e1.cell 2⟩
  have n1:¬ GB = PB:=by omega
  have n2:¬ VB = PB:=by omega
  have n3:¬ PB = VB:=by omega
  have n4:¬ GB = VB:=by omega
  have HTL:=Lib.hid (And.intro ht hl)
  have hfd:∀ w:World,(Instr.field 45 (.agg #[.int .i64 (T2:Nat),.int .i64 (CT:Nat)]) 0).run Tryz.prog w = .ok (.int .i64 (T2:Nat)) w:=fun _ => by kernel_rfl
  have HW1:=Lib.hid hW1
  clear h hs hst h1 h4 w4 ht hl hT hlf hb hS hT2 hset hT2b hW1
  rcases hcl with ⟨c1,rfl⟩ | ⟨c1,c2,rfl⟩ | ⟨c1,c2,rfl⟩
  all_goals go_enter Tryz.func45,Tryz.ntmps45
  all_goals go_wp2_with fail
  all_goals rw [← HW1.out,← hQ2,← hQ1,← hPB,← hGB,← hVB]
  all_goals clear hQ2 hQ1 hPB hGB hVB
  all_goals
    refine (HM1.out W1 HF.out.1).mono ?_
    rintro en w2 ⟨rfl,hf2⟩
    have hb2:=HF.out.2.2.2.1.fr hf2 (by simp)
    have hv2:=HF.out.2.1.fr hf2 (by simp)
    have p0:w2.cell? ⟨PB,0,none⟩ = some (.int .i64 pr):=hb2.cell 0
    have p1:w2.cell? ⟨PB,1,none⟩ = some (.int .i64 pc):=hb2.cell 1
    have y0:=hb2.frozen 0
    have y1:=hb2.frozen 1
    have lp:=hb2.lt
    have v0:w2.cell? ⟨VB,0,none⟩ = some (.int .i64 (top:Nat)):=hv2.cell 0
    obtain ⟨g0,g1,g2⟩:=HCG.out w2 hf2.of_nil
    obtain ⟨W3,hW3⟩:∃ W3,W3 = (w2.setCell ⟨PB,0,none⟩ (.int .i64 (S:Nat))).setCell ⟨PB,1,none⟩ (.int .i64 (C:Nat)):=⟨_,rfl⟩
    have HE3:Hid (Blk W3 PB 45 #[.int .i64 (S:Nat),.int .i64 (C:Nat)] ∧ Blk W3 VB 40 #[.int .i64 (top:Nat),.int .i64 (left:Nat),.int .i64 (hh:Nat),.int .i64 (wid:Nat)] ∧ Fr [some VB,some PB] W1 W3):=by
      rw [hW3]
      exact ⟨by simpa using (hb2.set_ 0 (.int .i64 (S:Nat))).set_ 1 (.int .i64 (C:Nat)),(hv2.far (fun e => by have e:VB = PB:=e; omega) _).far (fun e => by have e:VB = PB:=e; omega) _,(hf2.of_nil.setB (fun _ => by simp) _ _).setB (fun _ => by simp) _ _⟩
    have HW3:=Lib.hid hW3
    clear hb2 hv2 hf2 hW3
    go_wp2_with fail
    rw [← HW3.out]
    clear p0 p1 y0 y1 lp v0 g0 g1 g2
    refine (HM2.out W3 (HFW.out W3 HE3.out.2.2)).mono ?_
    rintro en w4 ⟨rfl,hf4⟩
    have hb4:=HE3.out.1.fr hf4 (by simp)
    have hv4:=HE3.out.2.1.fr hf4 (by simp)
    have v0:w4.cell? ⟨VB,0,none⟩ = some (.int .i64 (top:Nat)):=hv4.cell 0
    have y0:=hv4.frozen 0
    have lv:=hv4.lt
    obtain ⟨W5,hW5⟩:∃ W5,W5 = w4.setCell ⟨VB,0,none⟩ (.int .i64 (T2:Nat)):=⟨_,rfl⟩
    have HE5:Hid (Blk W5 PB 45 #[.int .i64 (S:Nat),.int .i64 (C:Nat)] ∧ Blk W5 VB 40 #[.int .i64 (T2:Nat),.int .i64 (left:Nat),.int .i64 (hh:Nat),.int .i64 (wid:Nat)] ∧ Fr [some VB,some PB] W1 W5):=by
      rw [hW5]
      exact ⟨hb4.far (fun e => by have e:PB = VB:=e; omega) _,by simpa using hv4.set_ 0 (.int .i64 (T2:Nat)),(HE3.out.2.2.trans hf4.of_nil).setB (fun _ => by simp) _ _⟩
    clear hb4 hv4 hf4
    go_wp2_with fail
    rw [← hW5]
    clear hW5 v0 y0 lv
    obtain ⟨g0,g1,g2⟩:=HCG.out W5 HE5.out.2.2
    have p0:W5.cell? ⟨PB,0,none⟩ = some (.int .i64 (S:Nat)):=HE5.out.1.cell 0
    have p1:W5.cell? ⟨PB,1,none⟩ = some (.int .i64 (C:Nat)):=HE5.out.1.cell 1
    have v0:W5.cell? ⟨VB,0,none⟩ = some (.int .i64 (T2:Nat)):=HE5.out.2.1.cell 0
    have v1:W5.cell? ⟨VB,1,none⟩ = some (.int .i64 (left:Nat)):=HE5.out.2.1.cell 1
    have v2:W5.cell? ⟨VB,2,none⟩ = some (.int .i64 (hh:Nat)):=HE5.out.2.1.cell 2
    have v3:W5.cell? ⟨VB,3,none⟩ = some (.int .i64 (wid:Nat)):=HE5.out.2.1.cell 3
    have m1:¬ VB = Q1:=by have:=HNB.out; omega
    have m2:¬ VB = Q2:=by have:=HNB.out; omega
    have m3:¬ PB = Q1:=by have:=HNB.out; omega
    have m4:¬ PB = Q2:=by have:=HNB.out; omega
    have m5:¬ GB = Q1:=by have:=HNB.out; omega
    have m6:¬ GB = Q2:=by have:=HNB.out; omega
    have m7:¬ Q1 = Q2:=by have:=HNB.out; omega
    have m8:¬ Q2 = Q1:=by have:=HNB.out; omega
    have m9:¬ Q1 = VB:=fun e => m1 e.symm
    have m10:¬ Q2 = VB:=fun e => m2 e.symm
    have m11:¬ Q1 = PB:=fun e => m3 e.symm
    have m12:¬ Q2 = PB:=fun e => m4 e.symm
    have m13:¬ Q1 = GB:=fun e => m5 e.symm
    have m14:¬ Q2 = GB:=fun e => m6 e.symm
    have hq:Hid (∀ w',Fr [] W5 w' → (w'.cell? ⟨Q1,0,none⟩ = some (.int .i64 0) ∧ w'.cell? ⟨Q1,1,none⟩ = some (.int .i64 0) ∧ w'.cell? ⟨Q1,2,none⟩ = some (.int .i64 0) ∧ w'.cell? ⟨Q1,3,none⟩ = some (.int .i64 0)) ∧ (w'.frozen? ⟨Q1,0,none⟩ = false ∧ w'.frozen? ⟨Q1,1,none⟩ = false ∧ w'.frozen? ⟨Q1,2,none⟩ = false ∧ w'.frozen? ⟨Q1,3,none⟩ = false ∧ Q1 < w'.heap.size) ∧ (w'.cell? ⟨Q2,0,none⟩ = some (.int .i64 0) ∧ w'.cell? ⟨Q2,1,none⟩ = some (.int .i64 0) ∧ w'.frozen? ⟨Q2,0,none⟩ = false ∧ w'.frozen? ⟨Q2,1,none⟩ = false ∧ Q2 < w'.heap.size)):=by
      show ∀ _,_
      intro w' hf
      have e1:=HF.out.2.2.2.2.1.fr (HE5.out.2.2.trans hf.of_nil) (by have:=HNB.out; simp; omega)
      have e2:=HF.out.2.2.2.2.2.fr (HE5.out.2.2.trans hf.of_nil) (by have:=HNB.out; simp; omega)
      exact ⟨⟨e1.cell 0,e1.cell 1,e1.cell 2,e1.cell 3⟩,⟨e1.frozen 0,e1.frozen 1,e1.frozen 2,e1.frozen 3,e1.lt⟩,e2.cell 0,e2.cell 1,e2.frozen 0,e2.frozen 1,e2.lt⟩
    have HFR5:Hid (Fr [] w W5):=HFW.out W5 HE5.out.2.2
    go_region_held3 (fun w' => w'.cell? ⟨GB,0,none⟩ = some (.pointer p) ∧ w'.cell? ⟨GB,1,none⟩ = some (.bool tl) ∧ w'.cell? ⟨GB,2,none⟩ = some (.int .i64 eo) ∧ w'.cell? ⟨PB,0,none⟩ = some (.int .i64 (S:Nat)) ∧ w'.cell? ⟨PB,1,none⟩ = some (.int .i64 (C:Nat)) ∧ w'.cell? ⟨VB,0,none⟩ = some (.int .i64 (T2:Nat)) ∧ w'.cell? ⟨VB,1,none⟩ = some (.int .i64 (left:Nat)) ∧ w'.cell? ⟨VB,2,none⟩ = some (.int .i64 (hh:Nat)) ∧ w'.cell? ⟨VB,3,none⟩ = some (.int .i64 (wid:Nat))) (go_keep) ((first
      | (go_at_call 16; go_must (
           refine (HFO.out _ HFR5.out.drew).mono ?_
           rintro e w7 ⟨rfl,hf7⟩
           have HF7:Hid (Fr [] W5 w7):=(Fr.refl [] W5).drew.trans hf7
           have HQ7:=Lib.hid (hq.out w7 HF7.out)
           have g0':w7.cell? ⟨GB,0,none⟩ = some (.pointer p):=(HCG.out w7 (HE5.out.2.2.trans HF7.out.of_nil)).1
           have g1':w7.cell? ⟨GB,1,none⟩ = some (.bool tl):=(HCG.out w7 (HE5.out.2.2.trans HF7.out.of_nil)).2.1
           have g2':w7.cell? ⟨GB,2,none⟩ = some (.int .i64 eo):=(HCG.out w7 (HE5.out.2.2.trans HF7.out.of_nil)).2.2
           have p0':w7.cell? ⟨PB,0,none⟩ = some (.int .i64 (S:Nat)):=(HE5.out.1.fr HF7.out (by simp)).cell 0
           have p1':w7.cell? ⟨PB,1,none⟩ = some (.int .i64 (C:Nat)):=(HE5.out.1.fr HF7.out (by simp)).cell 1
           have v0':w7.cell? ⟨VB,0,none⟩ = some (.int .i64 (T2:Nat)):=(HE5.out.2.1.fr HF7.out (by simp)).cell 0
           have v1':w7.cell? ⟨VB,1,none⟩ = some (.int .i64 (left:Nat)):=(HE5.out.2.1.fr HF7.out (by simp)).cell 1
           have v2':w7.cell? ⟨VB,2,none⟩ = some (.int .i64 (hh:Nat)):=(HE5.out.2.1.fr HF7.out (by simp)).cell 2
           have v3':w7.cell? ⟨VB,3,none⟩ = some (.int .i64 (wid:Nat)):=(HE5.out.2.1.fr HF7.out (by simp)).cell 3
           obtain ⟨⟨a0,a1,a2,a3⟩,⟨z0,z1,z2,z3,l1⟩,b0,b1,t0,t1,l2⟩:=HQ7.out
           clear hf7))))
    all_goals go_simp
    all_goals go_wp2
    all_goals refine bodyPost_ret (v:=.tuple #[.agg #[.int .i64 (T:Nat),.int .i64 (lf:Nat),.int .i64 (hh:Nat),.int .i64 (wid:Nat)],.agg #[.int .i64 (S:Nat),.int .i64 (C:Nat)]]) (by simp [results,Tryz.results45,go_sem, *]) rfl ?_
    all_goals have e1:Q1 < w.heap.size → some Q1 ∈ ([]:List (Option Nat)):=fun h => absurd h (by have:=HNB.out; omega)
    all_goals have e2:Q2 < w.heap.size → some Q2 ∈ ([]:List (Option Nat)):=fun h => absurd h (by have:=HNB.out; omega)
    all_goals exact ⟨rfl,((((((HFR5.out.trans HF7.out).setB e1 _ _).setB e1 _ _).setB e1 _ _).setB e1 _ _).setB e2 _ _).setB e2 _ _⟩
end Go.Proofs.YtblafakafgediaaGreat
namespace Go.Proofs.YtblafakafgediaaGreat
open Go.RowKit Go.Proofs.Dm

theorem visI_gt (xs:List RV) (R:Nat) (hR:R < xs.length) (hs:hidAt xs R = false):∃ t,visI xs xs.length = visI xs R ++ (R:Int) :: t ∧ ∀ r ∈ t,(R:Int) < r:=by
  refine ⟨(shownR (allR xs (R + 1) xs.length)).map fun x => (x.1:Int),?_,fun r hr => ?_⟩
  · unfold visI
    rw [allR_cut xs 0 R xs.length (Nat.zero_le _) (by omega),shownR_app,List.map_append,sh_cons hR hs]
    rfl
  · obtain ⟨x,hx,rfl⟩:=List.mem_map.1 hr
    have:=(mem_sh.1 hx).1
    omega
theorem visI_uniq (xs:List RV) (R j:Nat) (hR:R < xs.length) (hs:hidAt xs R = false) (hj:(visI xs xs.length)[j]? = some (R:Int)):j = (visI xs R).length:=by
  obtain ⟨t,ht,h2⟩:=visI_gt xs R hR hs
  rw [ht] at hj
  rcases Nat.lt_trichotomy j (visI xs R).length with h | h | h
  · rw [List.getElem?_append_left h] at hj
    have:=visI_lt xs R _ (List.mem_of_getElem? hj)
    omega
  · exact h
  · rw [List.getElem?_append_right (by omega),show j - (visI xs R).length = (j - (visI xs R).length - 1) + 1 by omega,List.getElem?_cons_succ] at hj
    have:=h2 _ (List.mem_of_getElem? hj)
    omega
set_option maxRecDepth 100000 in
set_option maxHeartbeats 1600000 in
theorem dseen_any (w:World) (x:GD) (xs:List RV) (top hh:Nat) (left wid r:Int) (hd:DGr x xs w) (h4:hh ≤ 400) (ht:top ≤ 2 ^ 50) :
    Calls Tryz.prog 105 #[.agg #[.int .i64 (top:Nat),.int .i64 left,.int .i64 (hh:Nat),.int .i64 wid],.agg #[.slice x.B x.m x.d,.bool x.t,.int .i64 x.e],.int .i64 r] w fun en w' => en = .returned (.bool (decide (r ∈ RowsI xs (min top xs.length) hh))) ∧ Fr [] w w':=by
  obtain ⟨W1,hW1⟩:∃ W1,W1 = (w.alloc (.cells #[.int .i64 (top:Nat),.int .i64 left,.int .i64 (hh:Nat),.int .i64 wid] 24)).alloc (.cells #[.slice x.B x.m x.d,.bool x.t,.int .i64 x.e] TD11):=⟨_,rfl⟩
  have HF:Hid (Fr [] w W1):=by show Fr _ _ _; rw [hW1]; exact ((Fr.refl [] w).alloc _).alloc _
  have HRW:=Lib.hid (drows_any W1 x xs top hh left wid (hd.fr0 HF.out) h4 ht)
  obtain ⟨L,hL⟩:∃ L,L = RowsI xs (min top xs.length) hh:=⟨_,rfl⟩
  have HLL:Hid (L.length ≤ 400):=by rw [hL]; have:=rowsI_len xs (min top xs.length) hh; show _ ≤ _; omega
  rw [← hL] at HRW ⊢
  have e1:=Blk.new w 24 #[.int .i64 (top:Nat),.int .i64 left,.int .i64 (hh:Nat),.int .i64 wid]
  obtain ⟨xB,xm,xd,xrs,xt,xe⟩:=x
  simp only at HRW hW1 ⊢
  have HW1:=Lib.hid hW1
  clear hd h4 ht hL hW1 e1
  go_enter Tryz.func105,Tryz.ntmps105
  go_wp2_with fail
  rw [← HW1.out]
  refine HRW.out.mono ?_
  rintro en w2 ⟨B2,n2,c2,rfl,hn2,hs2,hf2,_⟩
  have HF2:Hid (Fr [] w w2 ∧ Sl w2 B2 (intsV L) ∧ n2 = L.length):=⟨HF.out.trans hf2,hs2,hn2⟩
  have hn6:(n2:Int) ≤ 400:=by have:=HLL.out; omega
  clear hs2 hf2 hn2 HRW
  go_wp2_with fail
  go_loopg [13] n2 (fun k iv wr => ∃ j:Nat,k + j = n2 ∧ iv = .int .i64 j ∧ Hid (Fr [] w2 wr ∧ r ∉ L.take j))
  case atStart => exact ⟨0,by omega,rfl,Fr.refl _ _,by simp⟩
  case round =>
    obtain ⟨j,hj,rfl,HI⟩:=hrel
    by_cases hlt:j < n2
    · have hil:j < L.length:=by rw [← HF2.out.2.2]; exact hlt
      obtain ⟨ad,rfl,hcell⟩:=intsV_at (HF2.out.2.1.fr HI.out.1 (.inr List.not_mem_nil)) hil
      obtain ⟨v,hv⟩:∃ v,v = L[j]:=⟨_,rfl⟩
      rw [← hv] at hcell
      have HTK:Hid (L.take (j + 1) = L.take j ++ [v] ∧ v ∈ L):=⟨by rw [List.take_succ_eq_append_getElem hil,hv],by rw [hv]; exact List.getElem_mem hil⟩
      have hi0:(0:Int) ≤ (j:Int):=by omega
      have hi1:(j:Int) < (n2:Int):=by omega
      clear hv hil
      by_cases hvr:v = r
      · subst hvr
        go_wp2_with fail
        go_ret
        exact ⟨by rw [decide_eq_true HTK.out.2]; rfl,HF2.out.1.trans HI.out.1⟩
      · have e1:(v == r) = false:=by simpa using hvr
        have HVR:=Lib.hid hvr
        clear hvr
        go_wp2_with fail
        go_roundg (n2 - (j + 1))
        case rel => exact ⟨j + 1,by omega,by go_num,HI.out.1,by
          rw [HTK.out.1,List.mem_append,List.mem_singleton]
          rintro (h | h)
          · exact HI.out.2 h
          · exact HVR.out h.symm⟩
        case measure => omega
    · obtain rfl:j = n2:=by omega
      have HN:Hid (r ∉ L):=by
        have h1:=HI.out.2
        rwa [List.take_of_length_le (by rw [HF2.out.2.2]; exact Nat.le_refl _)] at h1
      clear hlt hj
      go_wp2_with fail
      go_ret
      exact ⟨by rw [decide_eq_false HN.out]; rfl,HF2.out.1.trans HI.out.1⟩
end Go.Proofs.YtblafakafgediaaGreat
