import Derived.Test.YteohomdiklkbfaaGreatM43
namespace Go.Proofs.YteohomdiklkbfaaGreat
open Go.RowKit Go.Proofs.Dm
attribute [local go_sem] run_store_func
attribute [local go_sem] run_eql_func_nil
def CntK (n:Int) (k:Nat):Prop:=(k:Int) = min (max n 1) 9999

set_option maxRecDepth 100000 in
set_option maxHeartbeats 3200000 in
theorem HG.mv106 {s:List UInt8} {g:Nat} {p:Option Addr} {tl:Bool} {eo:Int} {rs:List RW} {x:GD} {w:World} (h:HG [] s g p tl eo rs x w) {pr pc:Int} {R C:Nat} (hs:Sett (rs.map Prod.fst) pr pc R C) (ap:Option Addr) (n:Int) (k:Nat) (hc:CntK n k) :
    Calls Tryz.prog 16 #[.agg #[.pointer p,.bool tl,.int .i64 eo],.pointer ap,.agg #[.int .i64 pr,.int .i64 pc],.int .i64 106,.int .i64 n] w fun en w' => en = .returned (.tuple #[.agg #[.int .i64 (itF (fwd (rs.map Prod.fst)) k R:Nat),.int .i64 (C:Nat)],.bool (decide (itF (fwd (rs.map Prod.fst)) k R ≠ R))]) ∧ Fr [] w w':=by
  obtain ⟨W1,hW1⟩:∃ W1,W1 = ((w.alloc (.cells #[.pointer p,.bool tl,.int .i64 eo] TGr)).alloc (.cells #[.int .i64 pr,.int .i64 pc] 43)).alloc (.cells #[.int .i64 0,.int .i64 0] 43):=⟨_,rfl⟩
  obtain ⟨GB,hGB⟩:∃ GB,GB = w.heap.size:=⟨_,rfl⟩
  obtain ⟨PB,hPB⟩:∃ PB,PB = w.heap.size + 1:=⟨_,rfl⟩
  obtain ⟨RB,hRB⟩:∃ RB,RB = w.heap.size + 1 + 1:=⟨_,rfl⟩
  have HF:Hid (Fr [] w W1 ∧ Blk W1 GB TGr #[.pointer p,.bool tl,.int .i64 eo] ∧ Blk W1 PB 43 #[.int .i64 pr,.int .i64 pc] ∧ Blk W1 RB 43 #[.int .i64 0,.int .i64 0]):=by
    have b2:=Blk.new (w.alloc (.cells #[.pointer p,.bool tl,.int .i64 eo] TGr)) 43 #[.int .i64 pr,.int .i64 pc]
    have b3:=Blk.new ((w.alloc (.cells #[.pointer p,.bool tl,.int .i64 eo] TGr)).alloc (.cells #[.int .i64 pr,.int .i64 pc] 43)) 43 #[.int .i64 0,.int .i64 0]
    simp only [World.size_alloc] at b2 b3
    rw [hW1,hGB,hPB,hRB]
    exact ⟨(((Fr.refl [] w).alloc _).alloc _).alloc _,((Blk.new w _ _).alloc _).alloc _,b2.alloc _,b3⟩
  have HNB:Hid (GB = w.heap.size ∧ PB = w.heap.size + 1 ∧ RB = w.heap.size + 1 + 1):=⟨hGB,hPB,hRB⟩
  have HH:=Lib.hid h
  have HST:=Lib.hid ((h.fr0 HF.out.1).settle hs)
  have HSR:=Lib.hid hs.set_
  have HK:Hid (1 ≤ k ∧ k ≤ 9999):=by unfold CntK at hc; exact ⟨by omega,by omega⟩
  obtain ⟨m,hm⟩:∃ m,m = max n 1:=⟨_,rfl⟩
  have k1:(if n < 1 then (1:Int) else n) = m:=by rw [hm]; split <;> omega
  have k2:(if (9999:Int) < m then (9999:Int) else m) = (k:Int):=by unfold CntK at hc; split <;> omega
  clear hm hc
  have HW1:=Lib.hid hW1
  clear h hs hW1
  go_enter Tryz.func16,Tryz.ntmps16
  go_wp2_with fail
  rw [← HW1.out,← hRB,← hPB,← hGB]
  clear hRB hPB hGB
  have g0:W1.cell? ⟨GB,0,none⟩ = some (.pointer p):=HF.out.2.1.cell 0
  have g1:W1.cell? ⟨GB,1,none⟩ = some (.bool tl):=HF.out.2.1.cell 1
  have g2:W1.cell? ⟨GB,2,none⟩ = some (.int .i64 eo):=HF.out.2.1.cell 2
  have p0:W1.cell? ⟨PB,0,none⟩ = some (.int .i64 pr):=HF.out.2.2.1.cell 0
  have p1:W1.cell? ⟨PB,1,none⟩ = some (.int .i64 pc):=HF.out.2.2.1.cell 1
  go_wp2_with fail
  refine HST.out.mono ?_
  rintro en w2 ⟨rfl,hf2⟩
  have hb2:=HF.out.2.2.1.fr hf2 (by simp)
  have hg2:=HF.out.2.1.fr hf2 (by simp)
  have hr2:=HF.out.2.2.2.fr hf2 (by simp)
  have g0:w2.cell? ⟨GB,0,none⟩ = some (.pointer p):=hg2.cell 0
  have g1:w2.cell? ⟨GB,1,none⟩ = some (.bool tl):=hg2.cell 1
  have g2:w2.cell? ⟨GB,2,none⟩ = some (.int .i64 eo):=hg2.cell 2
  have p0:w2.cell? ⟨PB,0,none⟩ = some (.int .i64 pr):=hb2.cell 0
  have p1:w2.cell? ⟨PB,1,none⟩ = some (.int .i64 pc):=hb2.cell 1
  have y0:=hb2.frozen 0
  have y1:=hb2.frozen 1
  have lp:=hb2.lt
  have n1:¬ GB = PB:=by have:=HNB.out; omega
  obtain ⟨W3,hW3⟩:∃ W3,W3 = (w2.setCell ⟨PB,0,none⟩ (.int .i64 (R:Nat))).setCell ⟨PB,1,none⟩ (.int .i64 (C:Nat)):=⟨_,rfl⟩
  have HE3:Hid (Blk W3 PB 43 #[.int .i64 (R:Nat),.int .i64 (C:Nat)] ∧ Blk W3 RB 43 #[.int .i64 0,.int .i64 0] ∧ Fr [] w W3):=by
    have hn:=HNB.out
    rw [hW3]
    exact ⟨by simpa using (hb2.set_ 0 (.int .i64 (R:Nat))).set_ 1 (.int .i64 (C:Nat)),(hr2.far (fun e => by have e:RB = PB:=e; omega) _).far (fun e => by have e:RB = PB:=e; omega) _,((HF.out.1.trans hf2).setB (fun h => absurd h (by have h:PB < w.heap.size:=h; omega)) _ _).setB (fun h => absurd h (by have h:PB < w.heap.size:=h; omega)) _ _⟩
  clear hf2 hb2 hg2 hr2
  go_wp2_with fail
  rw [← hW3]
  clear hW3 g0 g1 g2 p0 p1 y0 y1 lp n1
  refine (steps106_any W3 p tl eo).mono ?_
  rintro en w4 ⟨SB,rfl,hsb,hsl,hf4⟩
  have HSB:Hid (Blk w4 SB TGr #[.pointer p,.bool tl,.int .i64 eo] ∧ Fr [] w w4 ∧ Blk w4 PB 43 #[.int .i64 (R:Nat),.int .i64 (C:Nat)] ∧ Blk w4 RB 43 #[.int .i64 0,.int .i64 0]):=⟨hsb,HE3.out.2.2.trans hf4,HE3.out.1.fr hf4 (by simp),HE3.out.2.1.fr hf4 (by simp)⟩
  clear hsb hsl hf4 HE3 HST
  obtain ⟨FV,hFV⟩:∃ FV,FV = Value.func (.func 65) #[] #[.pointer (some ⟨SB,0,none⟩)]:=⟨_,rfl⟩
  obtain ⟨W5,hW5⟩:∃ W5,W5 = (w4.alloc (.cells #[FV] 99)).alloc (.cells #[.int .i64 (R:Nat),.int .i64 (C:Nat)] 43):=⟨_,rfl⟩
  obtain ⟨TB,hTB⟩:∃ TB,TB = w4.heap.size:=⟨_,rfl⟩
  obtain ⟨QB,hQB⟩:∃ QB,QB = w4.heap.size + 1:=⟨_,rfl⟩
  have HE5:Hid (Fr [] w W5 ∧ Blk W5 SB TGr #[.pointer p,.bool tl,.int .i64 eo] ∧ Blk W5 PB 43 #[.int .i64 (R:Nat),.int .i64 (C:Nat)] ∧ Blk W5 RB 43 #[.int .i64 0,.int .i64 0] ∧ Blk W5 TB 99 #[FV] ∧ Blk W5 QB 43 #[.int .i64 (R:Nat),.int .i64 (C:Nat)]):=by
    have b1:=Blk.new (w4.alloc (.cells #[FV] 99)) 43 #[.int .i64 (R:Nat),.int .i64 (C:Nat)]
    simp only [World.size_alloc] at b1
    rw [hW5,hTB,hQB]
    exact ⟨(HSB.out.2.1.alloc _).alloc _,(HSB.out.1.alloc _).alloc _,(HSB.out.2.2.1.alloc _).alloc _,(HSB.out.2.2.2.alloc _).alloc _,(Blk.new w4 _ _).alloc _,b1⟩
  have HFVH:=Lib.hid hFV
  have HQN:Hid (w.heap.size ≤ QB ∧ QB ≠ PB ∧ QB ≠ RB ∧ QB ≠ TB ∧ QB ≠ SB ∧ PB ≠ RB):=by
    have h1:=HSB.out.2.1.size
    have h2:=HSB.out.2.2.1.lt
    have h3:=HSB.out.2.2.2.lt
    have h4:=HSB.out.1.lt
    have h5:=HNB.out
    exact ⟨by omega,by omega,by omega,by omega,by omega,by omega⟩
  have p0:(w4.alloc (.cells #[FV] 99)).cell? ⟨PB,0,none⟩ = some (.int .i64 (R:Nat)):=(HSB.out.2.2.1.alloc _).cell 0
  have p1:(w4.alloc (.cells #[FV] 99)).cell? ⟨PB,1,none⟩ = some (.int .i64 (C:Nat)):=(HSB.out.2.2.1.alloc _).cell 1
  rw [hFV] at p0 p1 hW5
  clear hFV
  go_wp2_with fail
  rw [← hW5,← hQB,← hTB]
  clear hW5 hQB hTB p0 p1
  have HFW:Hid (∀ w',Fr [some QB] W5 w' → Fr [] w w'):=by
    show ∀ _,_
    intro w' hf
    exact HE5.out.1.seq hf fun z hz => by rw [List.mem_singleton] at hz; exact .inr (.inr ⟨QB,HQN.out.1,hz⟩)
  have HCL:Hid (∀ w' (q:Nat),Fr [some QB] W5 w' → SetR (rs.map Prod.fst) q → Calls Tryz.prog 65 #[.agg #[.int .i64 (q:Nat),.int .i64 (C:Nat)],.pointer (some ⟨SB,0,none⟩)] w' fun en w'' => en = .returned (.agg #[.int .i64 (fwd (rs.map Prod.fst) q:Nat),.int .i64 (C:Nat)]) ∧ Fr [] w' w''):=by
    show ∀ _,_
    intro w' q hf hq
    exact (HH.out.fr0 (HFW.out w' hf)).clos1 SB q C (HE5.out.2.1.fr hf (by have:=HQN.out; simp; omega)) hq
  have HCE:Hid (∀ w',Fr [some QB] W5 w' → w'.cell? ⟨TB,0,none⟩ = some (.func (.func 65) #[] #[.pointer (some ⟨SB,0,none⟩)]) ∧ w'.cell? ⟨PB,0,none⟩ = some (.int .i64 (R:Nat)) ∧ w'.cell? ⟨PB,1,none⟩ = some (.int .i64 (C:Nat)) ∧ w'.cell? ⟨RB,0,none⟩ = some (.int .i64 0) ∧ w'.cell? ⟨RB,1,none⟩ = some (.int .i64 0) ∧ w'.frozen? ⟨RB,0,none⟩ = false ∧ w'.frozen? ⟨RB,1,none⟩ = false ∧ RB < w'.heap.size):=by
    show ∀ _,_
    intro w' hf
    have hn:=HQN.out
    have e1:=HE5.out.2.2.1.fr hf (by simp; omega)
    have e2:=HE5.out.2.2.2.1.fr hf (by simp; omega)
    have e3:=HE5.out.2.2.2.2.1.fr hf (by simp; omega)
    exact ⟨by rw [← HFVH.out]; exact e3.cell 0,e1.cell 0,e1.cell 1,e2.cell 0,e2.cell 1,e2.frozen 0,e2.frozen 1,e2.lt⟩
  have HFIN:Hid (∀ w' v0 v1,Fr [some QB] W5 w' → Fr [] w ((w'.setCell ⟨RB,0,none⟩ v0).setCell ⟨RB,1,none⟩ v1)):=by
    show ∀ _,_
    intro w' v0 v1 hf
    exact ((HFW.out w' hf).setB (fun h => absurd h (by have h:RB < w.heap.size:=h; have:=HNB.out; omega)) _ _).setB (fun h => absurd h (by have h:RB < w.heap.size:=h; have:=HNB.out; omega)) _ _
  have n5:¬ QB = RB:=HQN.out.2.2.1
  have n6:¬ PB = RB:=HQN.out.2.2.2.2.2
  have n7:¬ RB = QB:=fun e => n5 e.symm
  go_loopg [15] k (fun kk iv wr => ∃ (j q:Nat),kk = j ∧ iv = .int .i64 j ∧ j ≤ k ∧ Hid (SetR (rs.map Prod.fst) q ∧ itF (fwd (rs.map Prod.fst)) j q = itF (fwd (rs.map Prod.fst)) k R ∧ Blk wr QB 43 #[.int .i64 (q:Nat),.int .i64 (C:Nat)] ∧ Fr [some QB] W5 wr))
  case atStart => exact ⟨k,R,rfl,rfl,Nat.le_refl _,HSR.out,rfl,HE5.out.2.2.2.2.2,Fr.refl _ _⟩
  case round =>
    obtain ⟨j,q,hkj,rfl,hjk,HI⟩:=hrel
    obtain ⟨t0,p0,p1,r0,r1,z0,z1,lr⟩:=HCE.out wr HI.out.2.2.2
    have q0:wr.cell? ⟨QB,0,none⟩ = some (.int .i64 (q:Nat)):=HI.out.2.2.1.cell 0
    have q1:wr.cell? ⟨QB,1,none⟩ = some (.int .i64 (C:Nat)):=HI.out.2.2.1.cell 1
    by_cases hj:0 < j
    · have hj0:(0:Int) < (j:Int):=by omega
      have hjw:IntKind.i64.wrap ((j:Int) - 1) = ((j - 1:Nat):Int):=by rw [IntWalk.i64_in _ (by have:=HK.out; omega)]; omega
      have HST:=Lib.hid (HCL.out wr q HI.out.2.2.2 HI.out.1)
      obtain ⟨S,hS⟩:∃ S,S = fwd (rs.map Prod.fst) q:=⟨_,rfl⟩
      rw [← hS] at HST
      have HS:Hid (S = fwd (rs.map Prod.fst) q ∧ 0 < j ∧ j ≤ k):=⟨hS,hj,hjk⟩
      clear hS hj hjk p0 p1 r0 r1 z0 z1 lr
      go_wp2_with fail
      refine HST.out.mono ?_
      rintro en w7 ⟨rfl,hf7⟩
      have HB7:=Lib.hid (HI.out.2.2.1.fr hf7 (by simp))
      have HF7:=Lib.hid (HI.out.2.2.2.trans hf7.of_nil)
      clear hf7 q0 q1 t0 HST
      obtain ⟨w8,hw8⟩:∃ w8,w8 = w7.alloc (.cells #[.int .i64 (S:Nat),.int .i64 (C:Nat)] 43):=⟨_,rfl⟩
      have hb8:Blk w8 QB 43 #[.int .i64 (q:Nat),.int .i64 (C:Nat)]:=by rw [hw8]; exact HB7.out.alloc _
      have HF8:Hid (Fr [some QB] W5 w8):=by show Fr _ _ _; rw [hw8]; exact HF7.out.alloc _
      have q0:w8.cell? ⟨QB,0,none⟩ = some (.int .i64 (q:Nat)):=hb8.cell 0
      have q1:w8.cell? ⟨QB,1,none⟩ = some (.int .i64 (C:Nat)):=hb8.cell 1
      have y0:=hb8.frozen 0
      have y1:=hb8.frozen 1
      have lq:=hb8.lt
      have HB8:=Lib.hid hb8
      have o0:w8.cell? ⟨w7.heap.size,0,none⟩ = some (.int .i64 (S:Nat)):=by rw [hw8]; exact (Blk.new w7 43 #[.int .i64 (S:Nat),.int .i64 (C:Nat)]).cell 0
      have o1:w8.cell? ⟨w7.heap.size,1,none⟩ = some (.int .i64 (C:Nat)):=by rw [hw8]; exact (Blk.new w7 43 #[.int .i64 (S:Nat),.int .i64 (C:Nat)]).cell 1
      rw [hw8] at q0 q1 y0 y1 lq o0 o1
      have HW8:=Lib.hid hw8
      clear hb8 hw8
      by_cases hSq:S = q
      · have hq1:((S:Int) == (q:Int)) = true:=by simp [hSq]
        have HEQ:Hid (itF (fwd (rs.map Prod.fst)) k R = q):=by
          show _ = _
          rw [← HI.out.2.1]
          exact itF_fix (by rw [← HS.out.1]; exact hSq) j
        clear hSq
        obtain ⟨_,p0,p1,r0,r1,z0,z1,lr⟩:=HCE.out w8 HF8.out
        have HFN:=Lib.hid (fun v0 v1 => (HFIN.out w8 v0 v1 HF8.out).drew)
        rw [HW8.out] at p0 p1 r0 r1 z0 z1 lr HFN
        clear y0 y1 lq
        by_cases hqR:q = R
        · have hq2:((q:Int) == (R:Int)) = true:=by simp [hqR]
          have HQR:=Lib.hid hqR
          clear hqR
          go_wp2
          go_region
          all_goals go_wp2_with fail
          all_goals refine bodyPost_ret (v:=.tuple #[.agg #[.int .i64 (q:Nat),.int .i64 (C:Nat)],.bool false]) (by simp [results,Tryz.results16,go_sem, *]) rfl ?_
          all_goals exact ⟨by rw [HEQ.out]; simp [HQR.out],HFN.out _ _⟩
        · have hq2:((q:Int) == (R:Int)) = false:=by
            rw [beq_eq_false_iff_ne]
            omega
          have HQR:=Lib.hid hqR
          clear hqR
          go_wp2
          go_region
          all_goals go_wp2_with fail
          all_goals refine bodyPost_ret (v:=.tuple #[.agg #[.int .i64 (q:Nat),.int .i64 (C:Nat)],.bool true]) (by simp [results,Tryz.results16,go_sem, *]) rfl ?_
          all_goals exact ⟨by rw [HEQ.out]; simp [HQR.out],HFN.out _ _⟩
      · have hq1:((S:Int) == (q:Int)) = false:=by
          rw [beq_eq_false_iff_ne]
          omega
        clear hSq
        have HNX:Hid (SetR (rs.map Prod.fst) S ∧ itF (fwd (rs.map Prod.fst)) (j - 1) S = itF (fwd (rs.map Prod.fst)) k R ∧ Blk ((w8.setCell ⟨QB,0,none⟩ (.int .i64 (S:Nat))).setCell ⟨QB,1,none⟩ (.int .i64 (C:Nat))) QB 43 #[.int .i64 (S:Nat),.int .i64 (C:Nat)] ∧ Fr [some QB] W5 ((w8.setCell ⟨QB,0,none⟩ (.int .i64 (S:Nat))).setCell ⟨QB,1,none⟩ (.int .i64 (C:Nat)))):=by
          obtain ⟨e1,e2,e3⟩:=HS.out
          refine ⟨by rw [e1]; exact fwd_set HI.out.1,?_,by simpa using (HB8.out.set_ 0 (.int .i64 (S:Nat))).set_ 1 (.int .i64 (C:Nat)),(HF8.out.setB (fun _ => by simp) _ _).setB (fun _ => by simp) _ _⟩
          rw [← HI.out.2.1,show j = (j - 1) + 1 by omega,Nat.add_sub_cancel,e1]
          rfl
        rw [HW8.out] at HNX
        go_wp2_with fail
        go_roundg (j - 1)
        case rel => exact ⟨j - 1,S,rfl,rfl,by have:=HS.out; omega,HNX.out⟩
        case measure => have:=HS.out; omega
    · obtain rfl:j = 0:=by omega
      have HEQ:Hid (itF (fwd (rs.map Prod.fst)) k R = q):=HI.out.2.1.symm
      have HFN:=Lib.hid (fun v0 v1 => (HFIN.out wr v0 v1 HI.out.2.2.2).drew)
      clear hj hjk t0 HCL HK
      by_cases hqR:q = R
      · have hq2:((q:Int) == (R:Int)) = true:=by simp [hqR]
        have HQR:=Lib.hid hqR
        clear hqR
        go_wp2
        go_region
        all_goals go_wp2_with fail
        all_goals refine bodyPost_ret (v:=.tuple #[.agg #[.int .i64 (q:Nat),.int .i64 (C:Nat)],.bool false]) (by simp [results,Tryz.results16,go_sem, *]) rfl ?_
        all_goals exact ⟨by rw [HEQ.out]; simp [HQR.out],HFN.out _ _⟩
      · have hq2:((q:Int) == (R:Int)) = false:=by
          rw [beq_eq_false_iff_ne]
          omega
        have HQR:=Lib.hid hqR
        clear hqR
        go_wp2
        go_region
        all_goals go_wp2_with fail
        all_goals refine bodyPost_ret (v:=.tuple #[.agg #[.int .i64 (q:Nat),.int .i64 (C:Nat)],.bool true]) (by simp [results,Tryz.results16,go_sem, *]) rfl ?_
        all_goals exact ⟨by rw [HEQ.out]; simp [HQR.out],HFN.out _ _⟩
set_option maxRecDepth 100000 in
set_option maxHeartbeats 3200000 in
theorem HG.mv107 {s:List UInt8} {g:Nat} {p:Option Addr} {tl:Bool} {eo:Int} {rs:List RW} {x:GD} {w:World} (h:HG [] s g p tl eo rs x w) {pr pc:Int} {R C:Nat} (hs:Sett (rs.map Prod.fst) pr pc R C) (ap:Option Addr) (n:Int) (k:Nat) (hc:CntK n k) :
    Calls Tryz.prog 16 #[.agg #[.pointer p,.bool tl,.int .i64 eo],.pointer ap,.agg #[.int .i64 pr,.int .i64 pc],.int .i64 107,.int .i64 n] w fun en w' => en = .returned (.tuple #[.agg #[.int .i64 (itF (bwd (rs.map Prod.fst)) k R:Nat),.int .i64 (C:Nat)],.bool (decide (itF (bwd (rs.map Prod.fst)) k R ≠ R))]) ∧ Fr [] w w':=by
  obtain ⟨W1,hW1⟩:∃ W1,W1 = ((w.alloc (.cells #[.pointer p,.bool tl,.int .i64 eo] TGr)).alloc (.cells #[.int .i64 pr,.int .i64 pc] 43)).alloc (.cells #[.int .i64 0,.int .i64 0] 43):=⟨_,rfl⟩
  obtain ⟨GB,hGB⟩:∃ GB,GB = w.heap.size:=⟨_,rfl⟩
  obtain ⟨PB,hPB⟩:∃ PB,PB = w.heap.size + 1:=⟨_,rfl⟩
  obtain ⟨RB,hRB⟩:∃ RB,RB = w.heap.size + 1 + 1:=⟨_,rfl⟩
  have HF:Hid (Fr [] w W1 ∧ Blk W1 GB TGr #[.pointer p,.bool tl,.int .i64 eo] ∧ Blk W1 PB 43 #[.int .i64 pr,.int .i64 pc] ∧ Blk W1 RB 43 #[.int .i64 0,.int .i64 0]):=by
    have b2:=Blk.new (w.alloc (.cells #[.pointer p,.bool tl,.int .i64 eo] TGr)) 43 #[.int .i64 pr,.int .i64 pc]
    have b3:=Blk.new ((w.alloc (.cells #[.pointer p,.bool tl,.int .i64 eo] TGr)).alloc (.cells #[.int .i64 pr,.int .i64 pc] 43)) 43 #[.int .i64 0,.int .i64 0]
    simp only [World.size_alloc] at b2 b3
    rw [hW1,hGB,hPB,hRB]
    exact ⟨(((Fr.refl [] w).alloc _).alloc _).alloc _,((Blk.new w _ _).alloc _).alloc _,b2.alloc _,b3⟩
  have HNB:Hid (GB = w.heap.size ∧ PB = w.heap.size + 1 ∧ RB = w.heap.size + 1 + 1):=⟨hGB,hPB,hRB⟩
  have HH:=Lib.hid h
  have HST:=Lib.hid ((h.fr0 HF.out.1).settle hs)
  have HSR:=Lib.hid hs.set_
  have HK:Hid (1 ≤ k ∧ k ≤ 9999):=by unfold CntK at hc; exact ⟨by omega,by omega⟩
  obtain ⟨m,hm⟩:∃ m,m = max n 1:=⟨_,rfl⟩
  have k1:(if n < 1 then (1:Int) else n) = m:=by rw [hm]; split <;> omega
  have k2:(if (9999:Int) < m then (9999:Int) else m) = (k:Int):=by unfold CntK at hc; split <;> omega
  clear hm hc
  have HW1:=Lib.hid hW1
  clear h hs hW1
  go_enter Tryz.func16,Tryz.ntmps16
  go_wp2_with fail
  rw [← HW1.out,← hRB,← hPB,← hGB]
  clear hRB hPB hGB
  have g0:W1.cell? ⟨GB,0,none⟩ = some (.pointer p):=HF.out.2.1.cell 0
  have g1:W1.cell? ⟨GB,1,none⟩ = some (.bool tl):=HF.out.2.1.cell 1
  have g2:W1.cell? ⟨GB,2,none⟩ = some (.int .i64 eo):=HF.out.2.1.cell 2
  have p0:W1.cell? ⟨PB,0,none⟩ = some (.int .i64 pr):=HF.out.2.2.1.cell 0
  have p1:W1.cell? ⟨PB,1,none⟩ = some (.int .i64 pc):=HF.out.2.2.1.cell 1
  go_wp2_with fail
  refine HST.out.mono ?_
  rintro en w2 ⟨rfl,hf2⟩
  have hb2:=HF.out.2.2.1.fr hf2 (by simp)
  have hg2:=HF.out.2.1.fr hf2 (by simp)
  have hr2:=HF.out.2.2.2.fr hf2 (by simp)
  have g0:w2.cell? ⟨GB,0,none⟩ = some (.pointer p):=hg2.cell 0
  have g1:w2.cell? ⟨GB,1,none⟩ = some (.bool tl):=hg2.cell 1
  have g2:w2.cell? ⟨GB,2,none⟩ = some (.int .i64 eo):=hg2.cell 2
  have p0:w2.cell? ⟨PB,0,none⟩ = some (.int .i64 pr):=hb2.cell 0
  have p1:w2.cell? ⟨PB,1,none⟩ = some (.int .i64 pc):=hb2.cell 1
  have y0:=hb2.frozen 0
  have y1:=hb2.frozen 1
  have lp:=hb2.lt
  have n1:¬ GB = PB:=by have:=HNB.out; omega
  obtain ⟨W3,hW3⟩:∃ W3,W3 = (w2.setCell ⟨PB,0,none⟩ (.int .i64 (R:Nat))).setCell ⟨PB,1,none⟩ (.int .i64 (C:Nat)):=⟨_,rfl⟩
  have HE3:Hid (Blk W3 PB 43 #[.int .i64 (R:Nat),.int .i64 (C:Nat)] ∧ Blk W3 RB 43 #[.int .i64 0,.int .i64 0] ∧ Fr [] w W3):=by
    have hn:=HNB.out
    rw [hW3]
    exact ⟨by simpa using (hb2.set_ 0 (.int .i64 (R:Nat))).set_ 1 (.int .i64 (C:Nat)),(hr2.far (fun e => by have e:RB = PB:=e; omega) _).far (fun e => by have e:RB = PB:=e; omega) _,((HF.out.1.trans hf2).setB (fun h => absurd h (by have h:PB < w.heap.size:=h; omega)) _ _).setB (fun h => absurd h (by have h:PB < w.heap.size:=h; omega)) _ _⟩
  clear hf2 hb2 hg2 hr2
  go_wp2_with fail
  rw [← hW3]
  clear hW3 g0 g1 g2 p0 p1 y0 y1 lp n1
  refine (steps107_any W3 p tl eo).mono ?_
  rintro en w4 ⟨SB,rfl,hsb,hsl,hf4⟩
  have HSB:Hid (Blk w4 SB TGr #[.pointer p,.bool tl,.int .i64 eo] ∧ Fr [] w w4 ∧ Blk w4 PB 43 #[.int .i64 (R:Nat),.int .i64 (C:Nat)] ∧ Blk w4 RB 43 #[.int .i64 0,.int .i64 0]):=⟨hsb,HE3.out.2.2.trans hf4,HE3.out.1.fr hf4 (by simp),HE3.out.2.1.fr hf4 (by simp)⟩
  clear hsb hsl hf4 HE3 HST
  obtain ⟨FV,hFV⟩:∃ FV,FV = Value.func (.func 67) #[] #[.pointer (some ⟨SB,0,none⟩)]:=⟨_,rfl⟩
  obtain ⟨W5,hW5⟩:∃ W5,W5 = (w4.alloc (.cells #[FV] 99)).alloc (.cells #[.int .i64 (R:Nat),.int .i64 (C:Nat)] 43):=⟨_,rfl⟩
  obtain ⟨TB,hTB⟩:∃ TB,TB = w4.heap.size:=⟨_,rfl⟩
  obtain ⟨QB,hQB⟩:∃ QB,QB = w4.heap.size + 1:=⟨_,rfl⟩
  have HE5:Hid (Fr [] w W5 ∧ Blk W5 SB TGr #[.pointer p,.bool tl,.int .i64 eo] ∧ Blk W5 PB 43 #[.int .i64 (R:Nat),.int .i64 (C:Nat)] ∧ Blk W5 RB 43 #[.int .i64 0,.int .i64 0] ∧ Blk W5 TB 99 #[FV] ∧ Blk W5 QB 43 #[.int .i64 (R:Nat),.int .i64 (C:Nat)]):=by
    have b1:=Blk.new (w4.alloc (.cells #[FV] 99)) 43 #[.int .i64 (R:Nat),.int .i64 (C:Nat)]
    simp only [World.size_alloc] at b1
    rw [hW5,hTB,hQB]
    exact ⟨(HSB.out.2.1.alloc _).alloc _,(HSB.out.1.alloc _).alloc _,(HSB.out.2.2.1.alloc _).alloc _,(HSB.out.2.2.2.alloc _).alloc _,(Blk.new w4 _ _).alloc _,b1⟩
  have HFVH:=Lib.hid hFV
  have HQN:Hid (w.heap.size ≤ QB ∧ QB ≠ PB ∧ QB ≠ RB ∧ QB ≠ TB ∧ QB ≠ SB ∧ PB ≠ RB):=by
    have h1:=HSB.out.2.1.size
    have h2:=HSB.out.2.2.1.lt
    have h3:=HSB.out.2.2.2.lt
    have h4:=HSB.out.1.lt
    have h5:=HNB.out
    exact ⟨by omega,by omega,by omega,by omega,by omega,by omega⟩
  have p0:(w4.alloc (.cells #[FV] 99)).cell? ⟨PB,0,none⟩ = some (.int .i64 (R:Nat)):=(HSB.out.2.2.1.alloc _).cell 0
  have p1:(w4.alloc (.cells #[FV] 99)).cell? ⟨PB,1,none⟩ = some (.int .i64 (C:Nat)):=(HSB.out.2.2.1.alloc _).cell 1
  rw [hFV] at p0 p1 hW5
  clear hFV
  go_wp2_with fail
  rw [← hW5,← hQB,← hTB]
  clear hW5 hQB hTB p0 p1
  have HFW:Hid (∀ w',Fr [some QB] W5 w' → Fr [] w w'):=by
    show ∀ _,_
    intro w' hf
    exact HE5.out.1.seq hf fun z hz => by rw [List.mem_singleton] at hz; exact .inr (.inr ⟨QB,HQN.out.1,hz⟩)
  have HCL:Hid (∀ w' (q:Nat),Fr [some QB] W5 w' → SetR (rs.map Prod.fst) q → Calls Tryz.prog 67 #[.agg #[.int .i64 (q:Nat),.int .i64 (C:Nat)],.pointer (some ⟨SB,0,none⟩)] w' fun en w'' => en = .returned (.agg #[.int .i64 (bwd (rs.map Prod.fst) q:Nat),.int .i64 (C:Nat)]) ∧ Fr [] w' w''):=by
    show ∀ _,_
    intro w' q hf hq
    exact (HH.out.fr0 (HFW.out w' hf)).clos2 SB q C (HE5.out.2.1.fr hf (by have:=HQN.out; simp; omega)) hq
  have HCE:Hid (∀ w',Fr [some QB] W5 w' → w'.cell? ⟨TB,0,none⟩ = some (.func (.func 67) #[] #[.pointer (some ⟨SB,0,none⟩)]) ∧ w'.cell? ⟨PB,0,none⟩ = some (.int .i64 (R:Nat)) ∧ w'.cell? ⟨PB,1,none⟩ = some (.int .i64 (C:Nat)) ∧ w'.cell? ⟨RB,0,none⟩ = some (.int .i64 0) ∧ w'.cell? ⟨RB,1,none⟩ = some (.int .i64 0) ∧ w'.frozen? ⟨RB,0,none⟩ = false ∧ w'.frozen? ⟨RB,1,none⟩ = false ∧ RB < w'.heap.size):=by
    show ∀ _,_
    intro w' hf
    have hn:=HQN.out
    have e1:=HE5.out.2.2.1.fr hf (by simp; omega)
    have e2:=HE5.out.2.2.2.1.fr hf (by simp; omega)
    have e3:=HE5.out.2.2.2.2.1.fr hf (by simp; omega)
    exact ⟨by rw [← HFVH.out]; exact e3.cell 0,e1.cell 0,e1.cell 1,e2.cell 0,e2.cell 1,e2.frozen 0,e2.frozen 1,e2.lt⟩
  have HFIN:Hid (∀ w' v0 v1,Fr [some QB] W5 w' → Fr [] w ((w'.setCell ⟨RB,0,none⟩ v0).setCell ⟨RB,1,none⟩ v1)):=by
    show ∀ _,_
    intro w' v0 v1 hf
    exact ((HFW.out w' hf).setB (fun h => absurd h (by have h:RB < w.heap.size:=h; have:=HNB.out; omega)) _ _).setB (fun h => absurd h (by have h:RB < w.heap.size:=h; have:=HNB.out; omega)) _ _
  have n5:¬ QB = RB:=HQN.out.2.2.1
  have n6:¬ PB = RB:=HQN.out.2.2.2.2.2
  have n7:¬ RB = QB:=fun e => n5 e.symm
  go_loopg [15] k (fun kk iv wr => ∃ (j q:Nat),kk = j ∧ iv = .int .i64 j ∧ j ≤ k ∧ Hid (SetR (rs.map Prod.fst) q ∧ itF (bwd (rs.map Prod.fst)) j q = itF (bwd (rs.map Prod.fst)) k R ∧ Blk wr QB 43 #[.int .i64 (q:Nat),.int .i64 (C:Nat)] ∧ Fr [some QB] W5 wr))
  case atStart => exact ⟨k,R,rfl,rfl,Nat.le_refl _,HSR.out,rfl,HE5.out.2.2.2.2.2,Fr.refl _ _⟩
  case round =>
    obtain ⟨j,q,hkj,rfl,hjk,HI⟩:=hrel
    obtain ⟨t0,p0,p1,r0,r1,z0,z1,lr⟩:=HCE.out wr HI.out.2.2.2
    have q0:wr.cell? ⟨QB,0,none⟩ = some (.int .i64 (q:Nat)):=HI.out.2.2.1.cell 0
    have q1:wr.cell? ⟨QB,1,none⟩ = some (.int .i64 (C:Nat)):=HI.out.2.2.1.cell 1
    by_cases hj:0 < j
    · have hj0:(0:Int) < (j:Int):=by omega
      have hjw:IntKind.i64.wrap ((j:Int) - 1) = ((j - 1:Nat):Int):=by rw [IntWalk.i64_in _ (by have:=HK.out; omega)]; omega
      have HST:=Lib.hid (HCL.out wr q HI.out.2.2.2 HI.out.1)
      obtain ⟨S,hS⟩:∃ S,S = bwd (rs.map Prod.fst) q:=⟨_,rfl⟩
      rw [← hS] at HST
      have HS:Hid (S = bwd (rs.map Prod.fst) q ∧ 0 < j ∧ j ≤ k):=⟨hS,hj,hjk⟩
      clear hS hj hjk p0 p1 r0 r1 z0 z1 lr
      go_wp2_with fail
      refine HST.out.mono ?_
      rintro en w7 ⟨rfl,hf7⟩
      have HB7:=Lib.hid (HI.out.2.2.1.fr hf7 (by simp))
      have HF7:=Lib.hid (HI.out.2.2.2.trans hf7.of_nil)
      clear hf7 q0 q1 t0 HST
      obtain ⟨w8,hw8⟩:∃ w8,w8 = w7.alloc (.cells #[.int .i64 (S:Nat),.int .i64 (C:Nat)] 43):=⟨_,rfl⟩
      have hb8:Blk w8 QB 43 #[.int .i64 (q:Nat),.int .i64 (C:Nat)]:=by rw [hw8]; exact HB7.out.alloc _
      have HF8:Hid (Fr [some QB] W5 w8):=by show Fr _ _ _; rw [hw8]; exact HF7.out.alloc _
      have q0:w8.cell? ⟨QB,0,none⟩ = some (.int .i64 (q:Nat)):=hb8.cell 0
      have q1:w8.cell? ⟨QB,1,none⟩ = some (.int .i64 (C:Nat)):=hb8.cell 1
      have y0:=hb8.frozen 0
      have y1:=hb8.frozen 1
      have lq:=hb8.lt
      have HB8:=Lib.hid hb8
      have o0:w8.cell? ⟨w7.heap.size,0,none⟩ = some (.int .i64 (S:Nat)):=by rw [hw8]; exact (Blk.new w7 43 #[.int .i64 (S:Nat),.int .i64 (C:Nat)]).cell 0
      have o1:w8.cell? ⟨w7.heap.size,1,none⟩ = some (.int .i64 (C:Nat)):=by rw [hw8]; exact (Blk.new w7 43 #[.int .i64 (S:Nat),.int .i64 (C:Nat)]).cell 1
      rw [hw8] at q0 q1 y0 y1 lq o0 o1
      have HW8:=Lib.hid hw8
      clear hb8 hw8
      by_cases hSq:S = q
      · have hq1:((S:Int) == (q:Int)) = true:=by simp [hSq]
        have HEQ:Hid (itF (bwd (rs.map Prod.fst)) k R = q):=by
          show _ = _
          rw [← HI.out.2.1]
          exact itF_fix (by rw [← HS.out.1]; exact hSq) j
        clear hSq
        obtain ⟨_,p0,p1,r0,r1,z0,z1,lr⟩:=HCE.out w8 HF8.out
        have HFN:=Lib.hid (fun v0 v1 => (HFIN.out w8 v0 v1 HF8.out).drew)
        rw [HW8.out] at p0 p1 r0 r1 z0 z1 lr HFN
        clear y0 y1 lq
        by_cases hqR:q = R
        · have hq2:((q:Int) == (R:Int)) = true:=by simp [hqR]
          have HQR:=Lib.hid hqR
          clear hqR
          go_wp2
          go_region
          all_goals go_wp2_with fail
          all_goals refine bodyPost_ret (v:=.tuple #[.agg #[.int .i64 (q:Nat),.int .i64 (C:Nat)],.bool false]) (by simp [results,Tryz.results16,go_sem, *]) rfl ?_
          all_goals exact ⟨by rw [HEQ.out]; simp [HQR.out],HFN.out _ _⟩
        · have hq2:((q:Int) == (R:Int)) = false:=by
            rw [beq_eq_false_iff_ne]
            omega
          have HQR:=Lib.hid hqR
          clear hqR
          go_wp2
          go_region
          all_goals go_wp2_with fail
          all_goals refine bodyPost_ret (v:=.tuple #[.agg #[.int .i64 (q:Nat),.int .i64 (C:Nat)],.bool true]) (by simp [results,Tryz.results16,go_sem, *]) rfl ?_
          all_goals exact ⟨by rw [HEQ.out]; simp [HQR.out],HFN.out _ _⟩
      · have hq1:((S:Int) == (q:Int)) = false:=by
          rw [beq_eq_false_iff_ne]
          omega
        clear hSq
        have HNX:Hid (SetR (rs.map Prod.fst) S ∧ itF (bwd (rs.map Prod.fst)) (j - 1) S = itF (bwd (rs.map Prod.fst)) k R ∧ Blk ((w8.setCell ⟨QB,0,none⟩ (.int .i64 (S:Nat))).setCell ⟨QB,1,none⟩ (.int .i64 (C:Nat))) QB 43 #[.int .i64 (S:Nat),.int .i64 (C:Nat)] ∧ Fr [some QB] W5 ((w8.setCell ⟨QB,0,none⟩ (.int .i64 (S:Nat))).setCell ⟨QB,1,none⟩ (.int .i64 (C:Nat)))):=by
          obtain ⟨e1,e2,e3⟩:=HS.out
          refine ⟨by rw [e1]; exact bwd_set HI.out.1,?_,by simpa using (HB8.out.set_ 0 (.int .i64 (S:Nat))).set_ 1 (.int .i64 (C:Nat)),(HF8.out.setB (fun _ => by simp) _ _).setB (fun _ => by simp) _ _⟩
          rw [← HI.out.2.1,show j = (j - 1) + 1 by omega,Nat.add_sub_cancel,e1]
          rfl
        rw [HW8.out] at HNX
        go_wp2_with fail
        go_roundg (j - 1)
        case rel => exact ⟨j - 1,S,rfl,rfl,by have:=HS.out; omega,HNX.out⟩
        case measure => have:=HS.out; omega
    · obtain rfl:j = 0:=by omega
      have HEQ:Hid (itF (bwd (rs.map Prod.fst)) k R = q):=HI.out.2.1.symm
      have HFN:=Lib.hid (fun v0 v1 => (HFIN.out wr v0 v1 HI.out.2.2.2).drew)
      clear hj hjk t0 HCL HK
      by_cases hqR:q = R
      · have hq2:((q:Int) == (R:Int)) = true:=by simp [hqR]
        have HQR:=Lib.hid hqR
        clear hqR
        go_wp2
        go_region
        all_goals go_wp2_with fail
        all_goals refine bodyPost_ret (v:=.tuple #[.agg #[.int .i64 (q:Nat),.int .i64 (C:Nat)],.bool false]) (by simp [results,Tryz.results16,go_sem, *]) rfl ?_
        all_goals exact ⟨by rw [HEQ.out]; simp [HQR.out],HFN.out _ _⟩
      · have hq2:((q:Int) == (R:Int)) = false:=by
          rw [beq_eq_false_iff_ne]
          omega
        have HQR:=Lib.hid hqR
        clear hqR
        go_wp2
        go_region
        all_goals go_wp2_with fail
        all_goals refine bodyPost_ret (v:=.tuple #[.agg #[.int .i64 (q:Nat),.int .i64 (C:Nat)],.bool true]) (by simp [results,Tryz.results16,go_sem, *]) rfl ?_
        all_goals exact ⟨by rw [HEQ.out]; simp [HQR.out],HFN.out _ _⟩
end Go.Proofs.YteohomdiklkbfaaGreat
