import Derived.Test.YteohomdiklkbfaaGreatA44
namespace Go.Proofs.YteohomdiklkbfaaGreat
open Go.RowKit Go.Proofs.Dm

def SetOK (w:World) (p:Option Addr) (tl:Bool) (eo:Int) (xs:List RV):Prop:=∀ w',Fr [] w w' → ∀ (pr pc:Int) (R C:Nat),Sett xs pr pc R C →
  Calls Tryz.prog 15 #[.agg #[.pointer p,.bool tl,.int .i64 eo],.agg #[.int .i64 pr,.int .i64 pc]] w' fun en w'' => en = .returned (.agg #[.int .i64 (R:Nat),.int .i64 (C:Nat)]) ∧ Fr [] w' w''
theorem SetOK.fr0 {w w':World} {p:Option Addr} {tl:Bool} {eo:Int} {xs:List RV} (h:SetOK w p tl eo xs) (hf:Fr [] w w'):SetOK w' p tl eo xs:=fun v hv => h v (hf.trans hv)
theorem HG.setok {s:List UInt8} {g:Nat} {p:Option Addr} {tl:Bool} {eo:Int} {rs:List RW} {x:GD} {w:World} (h:HG [] s g p tl eo rs x w):SetOK w p tl eo (rs.map Prod.fst):=fun _ hf _ _ _ _ hs => (h.fr0 hf).settle hs
set_option maxRecDepth 100000 in
set_option maxHeartbeats 1600000 in
theorem SetOK.jump108 {p:Option Addr} {tl:Bool} {eo:Int} {xs:List RV} {w:World} (h:SetOK w p tl eo xs) {n:Int} {k R C R2 C2:Nat} (hc:CntK n k) (hC:C ≤ 40) (hs:Sett xs (R:Nat) ((C:Int) + k) R2 C2) :
    Calls Tryz.prog 37 #[.agg #[.pointer p,.bool tl,.int .i64 eo],.agg #[.int .i64 (R:Nat),.int .i64 (C:Nat)],.int .i64 108,.int .i64 n] w fun en w' => en = .returned (.agg #[.int .i64 (R2:Nat),.int .i64 (C2:Nat)]) ∧ Fr [] w w':=by
  obtain ⟨N,hN⟩:∃ N,N = (C:Int) + k:=⟨_,rfl⟩
  obtain ⟨W1,hW1⟩:∃ W1,W1 = ((w.alloc (.cells #[.pointer p,.bool tl,.int .i64 eo] TGr)).alloc (.cells #[.int .i64 (R:Nat),.int .i64 N] 43)).alloc (.cells #[.int .i64 0,.int .i64 0] 43):=⟨_,rfl⟩
  obtain ⟨RB,hRB⟩:∃ RB,RB = w.heap.size + 1 + 1:=⟨_,rfl⟩
  have HF:Hid (Fr [] w W1 ∧ Blk W1 RB 43 #[.int .i64 0,.int .i64 0] ∧ w.heap.size < RB):=by
    have b3:=Blk.new ((w.alloc (.cells #[.pointer p,.bool tl,.int .i64 eo] TGr)).alloc (.cells #[.int .i64 (R:Nat),.int .i64 N] 43)) 43 #[.int .i64 0,.int .i64 0]
    simp only [World.size_alloc] at b3
    rw [hW1,hRB]
    exact ⟨(((Fr.refl [] w).alloc _).alloc _).alloc _,b3,by omega⟩
  have HK:Hid (1 ≤ k ∧ k ≤ 9999):=by unfold CntK at hc; exact ⟨by omega,by omega⟩
  obtain ⟨m,hm⟩:∃ m,m = max n 1:=⟨_,rfl⟩
  have k1:(if n < 1 then (1:Int) else n) = m:=by rw [hm]; split <;> omega
  have k2:(if (9999:Int) < m then (9999:Int) else m) = (k:Int):=by unfold CntK at hc; split <;> omega
  have hw:IntKind.i64.wrap ((C:Int) + (k:Int)) = N:=by rw [hN]; exact IntWalk.i64_in _ (by have:=HK.out; omega)
  rw [← hN] at hs
  have HST:=Lib.hid (fun w' hf => h w' hf _ _ _ _ hs)
  clear hm hc h hs hC hN
  go_enter Tryz.func37,Tryz.ntmps37
  go_wp2_with fail
  rw [← hW1,← hRB]
  clear hRB hW1
  refine (HST.out W1 HF.out.1).mono ?_
  rintro en w2 ⟨rfl,hf2⟩
  have hb:=HF.out.2.1.fr hf2 (by simp)
  have r0:w2.cell? ⟨RB,0,none⟩ = some (.int .i64 0):=hb.cell 0
  have r1:w2.cell? ⟨RB,1,none⟩ = some (.int .i64 0):=hb.cell 1
  have z0:=hb.frozen 0
  have z1:=hb.frozen 1
  have lr:=hb.lt
  have HFE:Hid (∀ v0 v1,Fr [] w ((w2.setCell ⟨RB,0,none⟩ v0).setCell ⟨RB,1,none⟩ v1)):=by
    show ∀ _,_
    intro v0 v1
    exact ((HF.out.1.trans hf2).setB (fun h => absurd h (by have:=HF.out.2.2; omega)) _ _).setB (fun h => absurd h (by have:=HF.out.2.2; omega)) _ _
  clear hb hf2
  go_wp2_with fail
  refine bodyPost_ret (v:=.agg #[.int .i64 (R2:Nat),.int .i64 (C2:Nat)]) (by simp [results,Tryz.results37,go_sem, *]) rfl ?_
  exact ⟨rfl,HFE.out _ _⟩
end Go.Proofs.YteohomdiklkbfaaGreat
namespace Go.Proofs.YteohomdiklkbfaaGreat
open Go.RowKit Go.Proofs.Dm

theorem run_store_nilfunc {P:Program} {w:World} {a:Addr} {m:Mode}:(store a .nilFunc m).run P w = stored P w a .nilFunc m:=run_store P w a _ m rfl
attribute [local go_sem] run_store_nilfunc
theorem run_eql_nil_nil (w:World):(binOp .eql 97 .nilFunc .nilFunc).run Tryz.prog w = .ok (.bool true) w:=by
  have h:∀ d:Nat,(Op.equalIn (d + 1) 97 .nilFunc .nilFunc).run Tryz.prog w = .ok true w:=fun d => by simp [Op.equalIn,run_underlying Tryz.underlying97]
  simp only [binOp]
  simp [Op.equal,Op.maxDepth,h 9999]
attribute [local go_sem] run_eql_nil_nil
set_option maxHeartbeats 1600000 in
theorem steps108_any (w:World) (p:Option Addr) (tl:Bool) (eo:Int):Calls Tryz.prog 36 #[.agg #[.pointer p,.bool tl,.int .i64 eo],.int .i64 108] w fun en w' => en = .returned (.agg #[.nilFunc]) ∧ Fr [] w w':=by
  have HF:Hid (∀ o o':Obj,Fr [] w ((w.alloc o).alloc o')):=fun _ _ => ((Fr.refl [] w).alloc _).alloc _
  go_enter Tryz.func36,Tryz.ntmps36
  go_wp2_with fail
  refine bodyPost_ret (v:=.agg #[.nilFunc]) (by simp [results,Tryz.results36,go_sem, *]) rfl ?_
  exact ⟨rfl,HF.out _ _⟩
set_option maxRecDepth 100000 in
set_option maxHeartbeats 3200000 in
theorem SetOK.mv108 {p:Option Addr} {tl:Bool} {eo:Int} {xs:List RV} {w:World} (h:SetOK w p tl eo xs) {pr pc:Int} {R C C2:Nat} (hs:Sett xs pr pc R C) (ap:Option Addr) (n:Int) (k:Nat) (hc:CntK n k) (hC:C ≤ 40) (hs2:Sett xs (R:Nat) ((C:Int) + k) R C2) :
    Calls Tryz.prog 16 #[.agg #[.pointer p,.bool tl,.int .i64 eo],.pointer ap,.agg #[.int .i64 pr,.int .i64 pc],.int .i64 108,.int .i64 n] w fun en w' => en = .returned (.tuple #[.agg #[.int .i64 (R:Nat),.int .i64 (C2:Nat)],.bool (decide (C2 ≠ C))]) ∧ Fr [] w w':=by
  obtain ⟨W1,hW1⟩:∃ W1,W1 = ((w.alloc (.cells #[.pointer p,.bool tl,.int .i64 eo] TGr)).alloc (.cells #[.int .i64 pr,.int .i64 pc] 43)).alloc (.cells #[.int .i64 0,.int .i64 0] 43):=⟨_,rfl⟩
  obtain ⟨GB,hGB⟩:∃ GB,GB = w.heap.size:=⟨_,rfl⟩
  obtain ⟨PB,hPB⟩:∃ PB,PB = w.heap.size + 1:=⟨_,rfl⟩
  obtain ⟨RB,hRB⟩:∃ RB,RB = w.heap.size + 1 + 1:=⟨_,rfl⟩
  have HF:Hid (Fr [] w W1 ∧ Blk W1 GB TGr #[.pointer p,.bool tl,.int .i64 eo] ∧ Blk W1 PB 43 #[.int .i64 pr,.int .i64 pc] ∧ Blk W1 RB 43 #[.int .i64 0,.int .i64 0]):=by
    have b2:=Blk.new (w.alloc (.cells #[.pointer p,.bool tl,.int .i64 eo] TGr)) 43 #[.int .i64 pr,.int .i64 pc]
    have b3:=Blk.new ((w.alloc (.cells #[.pointer p,.bool tl,.int .i64 eo] TGr)).alloc (.cells #[.int .i64 pr,.int .i64 pc] 43)) 43 #[.int .i64 0,.int .i64 0]
    simp only [World.size_alloc] at b2 b3
    rw [hW1,hGB,hPB,hRB]
    exact ⟨(((Fr.refl [] w).alloc _).alloc _).alloc _,((Blk.new w _ _).alloc _).alloc _,b2.alloc _,b3⟩
  have HNB:Hid (GB = w.heap.size ∧ PB = w.heap.size + 1 ∧ RB = w.heap.size + 1 + 1):=⟨hGB,hPB,hRB⟩
  have HST:=Lib.hid (h _ HF.out.1 _ _ _ _ hs)
  have HJ:=Lib.hid (fun w' hf => (h.fr0 (w':=w') hf).jump108 hc hC hs2)
  have HW1:=Lib.hid hW1
  clear h hs hs2 hW1 hc hC
  go_enter Tryz.func16,Tryz.ntmps16
  go_wp2_with fail
  rw [← HW1.out,← hRB,← hPB,← hGB]
  clear hRB hPB hGB
  have g0:W1.cell? ⟨GB,0,none⟩ = some (.pointer p):=HF.out.2.1.cell 0
  have g1:W1.cell? ⟨GB,1,none⟩ = some (.bool tl):=HF.out.2.1.cell 1
  have g2:W1.cell? ⟨GB,2,none⟩ = some (.int .i64 eo):=HF.out.2.1.cell 2
  have p0:W1.cell? ⟨PB,0,none⟩ = some (.int .i64 pr):=HF.out.2.2.1.cell 0
  have p1:W1.cell? ⟨PB,1,none⟩ = some (.int .i64 pc):=HF.out.2.2.1.cell 1
  go_wp2_with fail
  refine HST.out.mono ?_
  rintro en w2 ⟨rfl,hf2⟩
  have hb2:=HF.out.2.2.1.fr hf2 (by simp)
  have hg2:=HF.out.2.1.fr hf2 (by simp)
  have hr2:=HF.out.2.2.2.fr hf2 (by simp)
  have g0:w2.cell? ⟨GB,0,none⟩ = some (.pointer p):=hg2.cell 0
  have g1:w2.cell? ⟨GB,1,none⟩ = some (.bool tl):=hg2.cell 1
  have g2:w2.cell? ⟨GB,2,none⟩ = some (.int .i64 eo):=hg2.cell 2
  have p0:w2.cell? ⟨PB,0,none⟩ = some (.int .i64 pr):=hb2.cell 0
  have p1:w2.cell? ⟨PB,1,none⟩ = some (.int .i64 pc):=hb2.cell 1
  have y0:=hb2.frozen 0
  have y1:=hb2.frozen 1
  have lp:=hb2.lt
  have n1:¬ GB = PB:=by have:=HNB.out; omega
  obtain ⟨W3,hW3⟩:∃ W3,W3 = (w2.setCell ⟨PB,0,none⟩ (.int .i64 (R:Nat))).setCell ⟨PB,1,none⟩ (.int .i64 (C:Nat)):=⟨_,rfl⟩
  have HE3:Hid (Blk W3 GB TGr #[.pointer p,.bool tl,.int .i64 eo] ∧ Blk W3 PB 43 #[.int .i64 (R:Nat),.int .i64 (C:Nat)] ∧ Blk W3 RB 43 #[.int .i64 0,.int .i64 0] ∧ Fr [] w W3):=by
    have hn:=HNB.out
    rw [hW3]
    exact ⟨(hg2.far (fun e => n1 e) _).far (fun e => n1 e) _,by simpa using (hb2.set_ 0 (.int .i64 (R:Nat))).set_ 1 (.int .i64 (C:Nat)),(hr2.far (fun e => by have e:RB = PB:=e; omega) _).far (fun e => by have e:RB = PB:=e; omega) _,((HF.out.1.trans hf2).setB (fun h => absurd h (by have h:PB < w.heap.size:=h; omega)) _ _).setB (fun h => absurd h (by have h:PB < w.heap.size:=h; omega)) _ _⟩
  clear hf2 hb2 hg2 hr2
  go_wp2_with fail
  rw [← hW3]
  clear hW3 g0 g1 g2 p0 p1 y0 y1 lp n1 HST
  refine (steps108_any W3 p tl eo).mono ?_
  rintro en w4 ⟨rfl,hf4⟩
  obtain ⟨TB,hTB⟩:∃ TB,TB = w4.heap.size:=⟨_,rfl⟩
  obtain ⟨W5,hW5⟩:∃ W5,W5 = w4.alloc (.cells #[.nilFunc] 99):=⟨_,rfl⟩
  have HE5:Hid (Fr [] w W5 ∧ Blk W5 GB TGr #[.pointer p,.bool tl,.int .i64 eo] ∧ Blk W5 PB 43 #[.int .i64 (R:Nat),.int .i64 (C:Nat)] ∧ Blk W5 RB 43 #[.int .i64 0,.int .i64 0]):=by
    rw [hW5]
    exact ⟨(HE3.out.2.2.2.trans hf4).alloc _,(HE3.out.1.fr hf4 (by simp)).alloc _,(HE3.out.2.1.fr hf4 (by simp)).alloc _,(HE3.out.2.2.1.fr hf4 (by simp)).alloc _⟩
  clear hf4
  have g0:W5.cell? ⟨GB,0,none⟩ = some (.pointer p):=HE5.out.2.1.cell 0
  have g1:W5.cell? ⟨GB,1,none⟩ = some (.bool tl):=HE5.out.2.1.cell 1
  have g2:W5.cell? ⟨GB,2,none⟩ = some (.int .i64 eo):=HE5.out.2.1.cell 2
  have p0:W5.cell? ⟨PB,0,none⟩ = some (.int .i64 (R:Nat)):=HE5.out.2.2.1.cell 0
  have p1:W5.cell? ⟨PB,1,none⟩ = some (.int .i64 (C:Nat)):=HE5.out.2.2.1.cell 1
  rw [hW5] at g0 g1 g2 p0 p1
  go_wp2_with fail
  rw [← hW5,← hTB]
  clear hW5 hTB g0 g1 g2 p0 p1
  refine (HJ.out W5 HE5.out.1).mono ?_
  rintro en w6 ⟨rfl,hf6⟩
  have HE6:Hid (Fr [] w w6 ∧ Blk w6 PB 43 #[.int .i64 (R:Nat),.int .i64 (C:Nat)] ∧ Blk w6 RB 43 #[.int .i64 0,.int .i64 0]):=⟨HE5.out.1.trans hf6,HE5.out.2.2.1.fr hf6 (by simp),HE5.out.2.2.2.fr hf6 (by simp)⟩
  clear hf6
  obtain ⟨W7,hW7⟩:∃ W7,W7 = w6.alloc (.cells #[.int .i64 (R:Nat),.int .i64 (C2:Nat)] 43):=⟨_,rfl⟩
  have p0:W7.cell? ⟨PB,0,none⟩ = some (.int .i64 (R:Nat)):=by rw [hW7]; exact (HE6.out.2.1.alloc _).cell 0
  have p1:W7.cell? ⟨PB,1,none⟩ = some (.int .i64 (C:Nat)):=by rw [hW7]; exact (HE6.out.2.1.alloc _).cell 1
  have q0:W7.cell? ⟨w6.heap.size,0,none⟩ = some (.int .i64 (R:Nat)):=by rw [hW7]; exact (Blk.new w6 43 #[.int .i64 (R:Nat),.int .i64 (C2:Nat)]).cell 0
  have q1:W7.cell? ⟨w6.heap.size,1,none⟩ = some (.int .i64 (C2:Nat)):=by rw [hW7]; exact (Blk.new w6 43 #[.int .i64 (R:Nat),.int .i64 (C2:Nat)]).cell 1
  have hr7:Blk W7 RB 43 #[.int .i64 0,.int .i64 0]:=by rw [hW7]; exact HE6.out.2.2.alloc _
  have r0:W7.cell? ⟨RB,0,none⟩ = some (.int .i64 0):=hr7.cell 0
  have r1:W7.cell? ⟨RB,1,none⟩ = some (.int .i64 0):=hr7.cell 1
  have z0:=hr7.frozen 0
  have z1:=hr7.frozen 1
  have lr:=hr7.lt
  have n5:¬ w6.heap.size = RB:=by have h:RB < w6.heap.size:=HE6.out.2.2.lt; omega
  have n6:¬ PB = RB:=by have:=HNB.out; omega
  have n7:¬ RB = w6.heap.size:=fun e => n5 e.symm
  have HFN:Hid (∀ v0 v1,Fr [] w ((W7.setCell ⟨RB,0,none⟩ v0).setCell ⟨RB,1,none⟩ v1).drew):=by
    show ∀ _,_
    intro v0 v1
    have hf:Fr [] w W7:=by rw [hW7]; exact HE6.out.1.alloc _
    exact ((hf.setB (fun h => absurd h (by have h:RB < w.heap.size:=h; have:=HNB.out; omega)) _ _).setB (fun h => absurd h (by have h:RB < w.heap.size:=h; have:=HNB.out; omega)) _ _).drew
  clear hr7
  rw [hW7] at p0 p1 q0 q1 r0 r1 z0 z1 lr HFN
  clear hW7
  by_cases hC2:C2 = C
  · have hq2:((C2:Int) == (C:Int)) = true:=by simp [hC2]
    have HQC:=Lib.hid hC2
    clear hC2
    go_wp2
    go_region
    all_goals go_wp2_with fail
    all_goals refine bodyPost_ret (v:=.tuple #[.agg #[.int .i64 (R:Nat),.int .i64 (C2:Nat)],.bool false]) (by simp [results,Tryz.results16,go_sem, *]) rfl ?_
    all_goals exact ⟨by simp [HQC.out],HFN.out _ _⟩
  · have hq2:((C2:Int) == (C:Int)) = false:=by
      rw [beq_eq_false_iff_ne]
      omega
    have HQC:=Lib.hid hC2
    clear hC2
    go_wp2
    go_region
    all_goals go_wp2_with fail
    all_goals refine bodyPost_ret (v:=.tuple #[.agg #[.int .i64 (R:Nat),.int .i64 (C2:Nat)],.bool true]) (by simp [results,Tryz.results16,go_sem, *]) rfl ?_
    all_goals exact ⟨by simp [HQC.out],HFN.out _ _⟩
end Go.Proofs.YteohomdiklkbfaaGreat
