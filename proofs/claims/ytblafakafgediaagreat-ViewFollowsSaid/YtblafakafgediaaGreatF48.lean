import Derived.Test.YtblafakafgediaaGreatF45
import Derived.Test.YtblafakafgediaaGreatF46
namespace Go.Proofs.YtblafakafgediaaGreat
open Go.RowKit Go.Proofs.Dm

set_option maxRecDepth 100000 in
set_option maxHeartbeats 1600000 in
theorem drowOn (w:World) (x:GD) (xs:List RV) (r:Nat) (h:DGr x xs w) (hr:r ≤ x.m) :
    Calls Tryz.prog 231 #[.agg #[.slice x.B x.m x.d,.bool x.t,.int .i64 x.e],.int .i64 (r:Nat),.int .i64 1] w fun en w' => (∃ b,en = .returned (.tuple #[.int .i64 (fwd xs r:Nat),.bool b])) ∧ Fr [] w w':=by
  have HS:Hid (x.m = xs.length ∧ x.m ≤ 400 ∧ r ≤ x.m):=⟨h.len,h.n4,hr⟩
  have HH:=Lib.hid h
  obtain ⟨W1,hW1⟩:∃ W1,W1 = w.alloc (.cells #[.slice x.B x.m x.d,.bool x.t,.int .i64 x.e] TD11):=⟨_,rfl⟩
  obtain ⟨GB,hGB⟩:∃ GB,GB = w.heap.size:=⟨_,rfl⟩
  have HF:Hid (Fr [] w W1 ∧ Blk W1 GB TD11 #[.slice x.B x.m x.d,.bool x.t,.int .i64 x.e]):=by rw [hW1,hGB]; exact ⟨(Fr.refl [] w).alloc _,Blk.new ..⟩
  have HC:Hid (∀ w',Fr [] W1 w' → w'.cell? ⟨GB,0,none⟩ = some (.slice x.B x.m x.d) ∧ w'.cell? ⟨GB,1,none⟩ = some (.bool x.t) ∧ w'.cell? ⟨GB,2,none⟩ = some (.int .i64 x.e)):=by
    show ∀ _,_
    intro w' hf
    have h1:=HF.out.2.fr hf (by simp)
    exact ⟨h1.cell 0,h1.cell 1,h1.cell 2⟩
  have HSH:Hid (∀ w' (k:Nat),Fr [] W1 w' → k < x.m → Calls Tryz.prog 140 #[.agg #[.slice x.B x.m x.d,.bool x.t,.int .i64 x.e],.int .i64 (k:Nat)] w' fun en w'' => en = .returned (.bool (!hidAt xs k)) ∧ Fr [] w' w''):=by
    show ∀ _,_
    intro w' k hf hk
    exact dshown_yes w' x xs k _ ((HH.out.fr0 HF.out.1).fr0 hf) hk rfl
  have HHA:Hid (∀ w' (k:Int),Calls Tryz.prog 115 #[.agg #[.slice x.B x.m x.d,.bool x.t,.int .i64 x.e],.int .i64 k] w' fun en w'' => en = .returned (.bool (decide (0 ≤ k ∧ k < (x.m:Int)))) ∧ Fr [] w' w''):=fun w' k => dhas_any w' x.B x.m x.d x.t x.e k
  obtain ⟨xB,xm,xd,xrs,xt,xe⟩:=x
  simp only at HS HSH HC hW1 HF HHA
  have hw1:IntKind.i64.wrap ((r:Int) + 1) = (r:Int) + 1:=IntWalk.i64_in _ (by have:=HS.out; omega)
  have HW1:=Lib.hid hW1
  clear h hr hW1 HH
  go_enter Tryz.func231,Tryz.ntmps231
  go_wp2_with fail
  rw [← HW1.out,← hGB]
  clear hGB
  go_loopg [8] (xm + 1 - (r + 1)) (fun kk kv wr => ∃ i:Nat,kk + i = xm + 1 ∧ kv = .int .i64 i ∧ Hid (r + 1 ≤ i ∧ Fr [] W1 wr ∧ nextP xs (r + 1) = nextP xs i))
  case atStart => exact ⟨r + 1,by have:=HS.out; omega,by simp,Nat.le_refl _,Fr.refl _ _,rfl⟩
  case round =>
    obtain ⟨i,hi,rfl,HI⟩:=hrel
    have hiw:IntKind.i64.wrap ((i:Int) + 1) = ((i + 1:Nat):Int):=by rw [IntWalk.i64_in _ (by have:=HS.out; omega)]; omega
    obtain ⟨g0,g1,g2⟩:=HC.out wr HI.out.2.1
    have HA:=Lib.hid (HHA.out wr (i:Int))
    by_cases hlt:i < xm
    · rw [decide_eq_true (show (0:Int) ≤ (i:Int) ∧ (i:Int) < (xm:Int) by omega)] at HA
      have HNX:Hid (nextP xs (r + 1) = if hidAt xs i then nextP xs (i + 1) else (i:Int)):=by
        show _ = _
        rw [HI.out.2.2]
        exact next_rec xs i (by have:=HS.out; omega)
      have HLT:Hid (i < xm ∧ r + 1 ≤ i):=⟨hlt,HI.out.1⟩
      go_wp2_with fail
      refine HA.out.mono ?_
      rintro en w2 ⟨rfl,hf2⟩
      have HF2:=Lib.hid (HI.out.2.1.trans hf2)
      have HS2:=Lib.hid (HSH.out w2 i HF2.out hlt)
      clear hf2 g0 g1 g2 HI hlt
      obtain ⟨g0,g1,g2⟩:=HC.out w2 HF2.out
      cases hh:hidAt xs i with
      | true =>
        rw [hh] at HNX HS2
        clear hh
        go_wp2_with fail
        refine HS2.out.mono ?_
        rintro en w3 ⟨rfl,hf3⟩
        have HF3:=Lib.hid (HF2.out.trans hf3)
        clear hf3 g0 g1 g2
        go_wp2_with fail
        go_roundg (xm + 1 - (i + 1))
        case rel => exact ⟨i + 1,by have:=HLT.out; omega,by first | rfl | go_num,by have:=HLT.out; omega,HF3.out,HNX.out⟩
        case measure => have:=HLT.out; omega
      | false =>
        rw [hh] at HNX HS2
        clear hh
        have HR:Hid (fwd xs r = i):=by
          have h1:nextP xs (r + 1) = (i:Int):=HNX.out
          show _ = _
          unfold fwd
          rw [h1,if_pos (by omega),Int.toNat_natCast]
        go_wp2_with fail
        refine HS2.out.mono ?_
        rintro en w3 ⟨rfl,hf3⟩
        have HF3:=Lib.hid (HF2.out.trans hf3)
        clear hf3 g0 g1 g2
        go_wp2_with fail
        refine bodyPost_ret (v:=.tuple #[.int .i64 (i:Nat),.bool true]) (by simp [results,Tryz.results231,go_sem, *]) rfl ?_
        exact ⟨⟨_,by rw [HR.out]⟩,HF.out.1.trans HF3.out⟩
    · rw [decide_eq_false (show ¬ ((0:Int) ≤ (i:Int) ∧ (i:Int) < (xm:Int)) by omega)] at HA
      have HR:Hid (fwd xs r = r):=by
        show _ = _
        unfold fwd
        rw [HI.out.2.2,next_end xs i (by have:=HS.out; omega),if_neg (by omega)]
      clear hlt
      go_wp2_with fail
      refine HA.out.mono ?_
      rintro en w2 ⟨rfl,hf2⟩
      have HF2:=Lib.hid (HI.out.2.1.trans hf2)
      clear hf2 g0 g1 g2 HI
      go_wp2_with fail
      refine bodyPost_ret (v:=.tuple #[.int .i64 (r:Nat),.bool false]) (by simp [results,Tryz.results231,go_sem, *]) rfl ?_
      exact ⟨⟨_,by rw [HR.out]⟩,HF.out.1.trans HF2.out⟩
set_option maxRecDepth 100000 in
set_option maxHeartbeats 1600000 in
theorem drowBack (w:World) (x:GD) (xs:List RV) (r:Nat) (h:DGr x xs w) (hr:r ≤ x.m) (way:Int) (hway:way = -1) :
    Calls Tryz.prog 231 #[.agg #[.slice x.B x.m x.d,.bool x.t,.int .i64 x.e],.int .i64 (r:Nat),.int .i64 way] w fun en w' => (∃ b,en = .returned (.tuple #[.int .i64 (bwd xs r:Nat),.bool b])) ∧ Fr [] w w':=by
  have HS:Hid (x.m = xs.length ∧ x.m ≤ 400 ∧ r ≤ x.m):=⟨h.len,h.n4,hr⟩
  have HH:=Lib.hid h
  obtain ⟨W1,hW1⟩:∃ W1,W1 = w.alloc (.cells #[.slice x.B x.m x.d,.bool x.t,.int .i64 x.e] TD11):=⟨_,rfl⟩
  obtain ⟨GB,hGB⟩:∃ GB,GB = w.heap.size:=⟨_,rfl⟩
  have HF:Hid (Fr [] w W1 ∧ Blk W1 GB TD11 #[.slice x.B x.m x.d,.bool x.t,.int .i64 x.e]):=by rw [hW1,hGB]; exact ⟨(Fr.refl [] w).alloc _,Blk.new ..⟩
  have HC:Hid (∀ w',Fr [] W1 w' → w'.cell? ⟨GB,0,none⟩ = some (.slice x.B x.m x.d) ∧ w'.cell? ⟨GB,1,none⟩ = some (.bool x.t) ∧ w'.cell? ⟨GB,2,none⟩ = some (.int .i64 x.e)):=by
    show ∀ _,_
    intro w' hf
    have h1:=HF.out.2.fr hf (by simp)
    exact ⟨h1.cell 0,h1.cell 1,h1.cell 2⟩
  have HSH:Hid (∀ w' (k:Nat),Fr [] W1 w' → k < x.m → Calls Tryz.prog 140 #[.agg #[.slice x.B x.m x.d,.bool x.t,.int .i64 x.e],.int .i64 (k:Nat)] w' fun en w'' => en = .returned (.bool (!hidAt xs k)) ∧ Fr [] w' w''):=by
    show ∀ _,_
    intro w' k hf hk
    exact dshown_yes w' x xs k _ ((HH.out.fr0 HF.out.1).fr0 hf) hk rfl
  have HHA:Hid (∀ w' (k:Int),Calls Tryz.prog 115 #[.agg #[.slice x.B x.m x.d,.bool x.t,.int .i64 x.e],.int .i64 k] w' fun en w'' => en = .returned (.bool (decide (0 ≤ k ∧ k < (x.m:Int)))) ∧ Fr [] w' w''):=fun w' k => dhas_any w' x.B x.m x.d x.t x.e k
  obtain ⟨xB,xm,xd,xrs,xt,xe⟩:=x
  simp only at HS HSH HC hW1 HF HHA
  obtain ⟨k0,hk0⟩:∃ k0:Int,k0 = (r:Int) - 1:=⟨_,rfl⟩
  have hw1:IntKind.i64.wrap ((r:Int) + way) = k0:=by rw [IntWalk.i64_in _ (by have:=HS.out; omega)]; omega
  have HWAY:Hid (way = -1 ∧ k0 = (r:Int) - 1):=⟨hway,hk0⟩
  clear hway hk0
  have HW1:=Lib.hid hW1
  clear h hr hW1 HH
  go_enter Tryz.func231,Tryz.ntmps231
  go_wp2_with fail
  rw [← HW1.out,← hGB]
  clear hGB
  go_loopg [8] r (fun kk kv wr => ∃ (i:Nat) (k:Int),kk = i ∧ k = (i:Int) - 1 ∧ kv = .int .i64 k ∧ Hid (i ≤ r ∧ Fr [] W1 wr ∧ prevP xs r = prevP xs i))
  case atStart => exact ⟨r,k0,rfl,HWAY.out.2,rfl,Nat.le_refl _,Fr.refl _ _,rfl⟩
  case round =>
    obtain ⟨i,k,hki,hk,rfl,HI⟩:=hrel
    obtain ⟨k2,hk2⟩:∃ k2:Int,k2 = k - 1:=⟨_,rfl⟩
    have hiw:IntKind.i64.wrap (k + way) = k2:=by have h0:=HWAY.out.1; rw [IntWalk.i64_in _ (by have:=HS.out; have:=HI.out.1; omega)]; omega
    have HK2:=Lib.hid hk2
    clear hk2
    obtain ⟨g0,g1,g2⟩:=HC.out wr HI.out.2.1
    have HA:=Lib.hid (HHA.out wr k)
    by_cases hlt:0 < i
    · obtain ⟨j,rfl⟩:∃ j:Nat,k = (j:Int):=⟨k.toNat,by omega⟩
      obtain rfl:i = j + 1:=by omega
      rw [decide_eq_true (show (0:Int) ≤ (j:Int) ∧ (j:Int) < (xm:Int) by have:=HS.out; have:=HI.out.1; omega)] at HA
      have HNX:Hid (prevP xs r = if hidAt xs j then prevP xs j else (j:Int)):=by
        show _ = _
        rw [HI.out.2.2]
        exact prev_rec xs j
      have HLT:Hid (j + 1 ≤ r ∧ r ≤ xm):=⟨HI.out.1,HS.out.2.2⟩
      have HKI:=Lib.hid hki
      clear hk hki
      go_wp2_with fail
      refine HA.out.mono ?_
      rintro en w2 ⟨rfl,hf2⟩
      have HF2:=Lib.hid (HI.out.2.1.trans hf2)
      have HS2:=Lib.hid (HSH.out w2 j HF2.out (by have:=HLT.out; omega))
      clear hf2 g0 g1 g2 HI hlt
      obtain ⟨g0,g1,g2⟩:=HC.out w2 HF2.out
      cases hh:hidAt xs j with
      | true =>
        rw [hh] at HNX HS2
        clear hh
        go_wp2_with fail
        refine HS2.out.mono ?_
        rintro en w3 ⟨rfl,hf3⟩
        have HF3:=Lib.hid (HF2.out.trans hf3)
        clear hf3 g0 g1 g2
        go_wp2_with fail
        go_roundg j
        case rel => exact ⟨j,k2,rfl,HK2.out,rfl,by have:=HLT.out; omega,HF3.out,HNX.out⟩
        case measure => have:=HKI.out; omega
      | false =>
        rw [hh] at HNX HS2
        clear hh
        have HR:Hid (bwd xs r = j):=by
          have h1:prevP xs r = (j:Int):=HNX.out
          show _ = _
          unfold bwd
          rw [h1,if_pos (by omega),Int.toNat_natCast]
        go_wp2_with fail
        refine HS2.out.mono ?_
        rintro en w3 ⟨rfl,hf3⟩
        have HF3:=Lib.hid (HF2.out.trans hf3)
        clear hf3 g0 g1 g2
        go_wp2_with fail
        refine bodyPost_ret (v:=.tuple #[.int .i64 (j:Nat),.bool true]) (by simp [results,Tryz.results231,go_sem, *]) rfl ?_
        exact ⟨⟨_,by rw [HR.out]⟩,HF.out.1.trans HF3.out⟩
    · obtain rfl:i = 0:=by omega
      rw [decide_eq_false (show ¬ ((0:Int) ≤ k ∧ k < (xm:Int)) by omega)] at HA
      have HR:Hid (bwd xs r = r):=by
        show _ = _
        unfold bwd
        rw [HI.out.2.2,prev_zero,if_neg (by omega)]
      clear hlt hk
      go_wp2_with fail
      refine HA.out.mono ?_
      rintro en w2 ⟨rfl,hf2⟩
      have HF2:=Lib.hid (HI.out.2.1.trans hf2)
      clear hf2 g0 g1 g2 HI
      go_wp2_with fail
      refine bodyPost_ret (v:=.tuple #[.int .i64 (r:Nat),.bool false]) (by simp [results,Tryz.results231,go_sem, *]) rfl ?_
      exact ⟨⟨_,by rw [HR.out]⟩,HF.out.1.trans HF2.out⟩
end Go.Proofs.YtblafakafgediaaGreat
namespace Go.Proofs.YtblafakafgediaaGreat
open Go.RowKit Go.Proofs.Dm

theorem Sett.at_ {xs:List RV} {pr pc:Int} {R C q:Nat} (h:Sett xs pr pc R C) (hq:SetR xs q):Sett xs (q:Nat) (C:Nat) q C:=by
  have h1:q < xs.length ∨ q = 0:=by
    rcases hq with h | h
    · exact .inl h.1
    · exact .inr h.1
  refine ⟨⟨q,by omega,sett_self xs q hq⟩,?_,hq⟩
  have:=h.col
  omega
set_option maxRecDepth 100000 in
set_option maxHeartbeats 1600000 in
theorem donce106 (w:World) (x:GD) (xs:List RV) (R C:Nat) (h:DGr x xs w) (hR:SetR xs R) :
    Calls Tryz.prog 197 #[.agg #[.slice x.B x.m x.d,.bool x.t,.int .i64 x.e],.agg #[.int .i64 (R:Nat),.int .i64 (C:Nat)],.int .i64 106] w fun en w' => en = .returned (.agg #[.int .i64 (fwd xs R:Nat),.int .i64 (C:Nat)]) ∧ Fr [] w w':=by
  obtain ⟨W1,hW1⟩:∃ W1,W1 = ((w.alloc (.cells #[.slice x.B x.m x.d,.bool x.t,.int .i64 x.e] TD11)).alloc (.cells #[.int .i64 (R:Nat),.int .i64 (C:Nat)] 26)).alloc (.cells #[.int .i64 0,.int .i64 0] 26):=⟨_,rfl⟩
  obtain ⟨GB,hGB⟩:∃ GB,GB = w.heap.size:=⟨_,rfl⟩
  obtain ⟨PB,hPB⟩:∃ PB,PB = w.heap.size + 1:=⟨_,rfl⟩
  obtain ⟨RB,hRB⟩:∃ RB,RB = w.heap.size + 1 + 1:=⟨_,rfl⟩
  have HF:Hid (Fr [] w W1 ∧ Blk W1 GB TD11 #[.slice x.B x.m x.d,.bool x.t,.int .i64 x.e] ∧ Blk W1 PB 26 #[.int .i64 (R:Nat),.int .i64 (C:Nat)] ∧ Blk W1 RB 26 #[.int .i64 0,.int .i64 0]):=by
    have b2:=Blk.new (w.alloc (.cells #[.slice x.B x.m x.d,.bool x.t,.int .i64 x.e] TD11)) 26 #[.int .i64 (R:Nat),.int .i64 (C:Nat)]
    have b3:=Blk.new ((w.alloc (.cells #[.slice x.B x.m x.d,.bool x.t,.int .i64 x.e] TD11)).alloc (.cells #[.int .i64 (R:Nat),.int .i64 (C:Nat)] 26)) 26 #[.int .i64 0,.int .i64 0]
    simp only [World.size_alloc] at b2 b3
    rw [hW1,hGB,hPB,hRB]
    exact ⟨(((Fr.refl [] w).alloc _).alloc _).alloc _,((Blk.new w _ _).alloc _).alloc _,b2.alloc _,b3⟩
  have HNB:Hid (GB = w.heap.size ∧ PB = w.heap.size + 1 ∧ RB = w.heap.size + 1 + 1):=⟨hGB,hPB,hRB⟩
  have HRW:=Lib.hid (drowOn W1 x xs R (h.fr0 HF.out.1) (by have:=hR.le; have:=h.len; omega))
  obtain ⟨S,hS⟩:∃ S,S = fwd xs R:=⟨_,rfl⟩
  rw [← hS] at HRW ⊢
  have HFE:Hid (∀ w' v v0 v1,Fr [] W1 w' → Fr [] w (((w'.setCell ⟨PB,0,none⟩ v).setCell ⟨RB,0,none⟩ v0).setCell ⟨RB,1,none⟩ v1)):=by
    show ∀ _,_
    intro w' v v0 v1 hf
    exact (((HF.out.1.trans hf).setB (fun h => absurd h (by have:=HNB.out; omega)) _ _).setB (fun h => absurd h (by have:=HNB.out; omega)) _ _).setB (fun h => absurd h (by have:=HNB.out; omega)) _ _
  have n3:¬ PB = RB:=by omega
  have n4:¬ RB = PB:=by omega
  have g0:W1.cell? ⟨GB,0,none⟩ = some (.slice x.B x.m x.d):=HF.out.2.1.cell 0
  have g1:W1.cell? ⟨GB,1,none⟩ = some (.bool x.t):=HF.out.2.1.cell 1
  have g2:W1.cell? ⟨GB,2,none⟩ = some (.int .i64 x.e):=HF.out.2.1.cell 2
  have p0:W1.cell? ⟨PB,0,none⟩ = some (.int .i64 (R:Nat)):=HF.out.2.2.1.cell 0
  rw [hW1] at g0 g1 g2 p0
  rw [hGB] at g0 g1 g2
  rw [hPB] at p0
  obtain ⟨xB,xm,xd,xrs,xt,xe⟩:=x
  simp only at HF HRW hW1 g0 g1 g2 p0
  have HW1:=Lib.hid hW1
  clear h hR hS hW1
  go_enter Tryz.func197,Tryz.ntmps197
  go_wp2_with fail
  rw [← HW1.out,← hRB,← hPB,← hGB]
  clear hRB hPB hGB g0 g1 g2 p0
  refine HRW.out.mono ?_
  rintro en w2 ⟨⟨b,rfl⟩,hf2⟩
  have hb2:=HF.out.2.2.1.fr hf2 (by simp)
  have hr2:=HF.out.2.2.2.fr hf2 (by simp)
  have p0:w2.cell? ⟨PB,0,none⟩ = some (.int .i64 (R:Nat)):=hb2.cell 0
  have p1:w2.cell? ⟨PB,1,none⟩ = some (.int .i64 (C:Nat)):=hb2.cell 1
  have y0:=hb2.frozen 0
  have lp:=hb2.lt
  have r0:w2.cell? ⟨RB,0,none⟩ = some (.int .i64 0):=hr2.cell 0
  have r1:w2.cell? ⟨RB,1,none⟩ = some (.int .i64 0):=hr2.cell 1
  have z0:=hr2.frozen 0
  have z1:=hr2.frozen 1
  have lr:=hr2.lt
  have HFN:=Lib.hid (fun v v0 v1 => HFE.out w2 v v0 v1 hf2)
  clear hb2 hr2 hf2
  go_wp2_with fail
  refine bodyPost_ret (v:=.agg #[.int .i64 (S:Nat),.int .i64 (C:Nat)]) (by simp [results,Tryz.results197,go_sem, *]) rfl ?_
  exact ⟨rfl,HFN.out _ _ _⟩
set_option maxRecDepth 100000 in
set_option maxHeartbeats 1600000 in
theorem donce107 (w:World) (x:GD) (xs:List RV) (R C:Nat) (h:DGr x xs w) (hR:SetR xs R) :
    Calls Tryz.prog 197 #[.agg #[.slice x.B x.m x.d,.bool x.t,.int .i64 x.e],.agg #[.int .i64 (R:Nat),.int .i64 (C:Nat)],.int .i64 107] w fun en w' => en = .returned (.agg #[.int .i64 (bwd xs R:Nat),.int .i64 (C:Nat)]) ∧ Fr [] w w':=by
  obtain ⟨W1,hW1⟩:∃ W1,W1 = ((w.alloc (.cells #[.slice x.B x.m x.d,.bool x.t,.int .i64 x.e] TD11)).alloc (.cells #[.int .i64 (R:Nat),.int .i64 (C:Nat)] 26)).alloc (.cells #[.int .i64 0,.int .i64 0] 26):=⟨_,rfl⟩
  obtain ⟨GB,hGB⟩:∃ GB,GB = w.heap.size:=⟨_,rfl⟩
  obtain ⟨PB,hPB⟩:∃ PB,PB = w.heap.size + 1:=⟨_,rfl⟩
  obtain ⟨RB,hRB⟩:∃ RB,RB = w.heap.size + 1 + 1:=⟨_,rfl⟩
  have HF:Hid (Fr [] w W1 ∧ Blk W1 GB TD11 #[.slice x.B x.m x.d,.bool x.t,.int .i64 x.e] ∧ Blk W1 PB 26 #[.int .i64 (R:Nat),.int .i64 (C:Nat)] ∧ Blk W1 RB 26 #[.int .i64 0,.int .i64 0]):=by
    have b2:=Blk.new (w.alloc (.cells #[.slice x.B x.m x.d,.bool x.t,.int .i64 x.e] TD11)) 26 #[.int .i64 (R:Nat),.int .i64 (C:Nat)]
    have b3:=Blk.new ((w.alloc (.cells #[.slice x.B x.m x.d,.bool x.t,.int .i64 x.e] TD11)).alloc (.cells #[.int .i64 (R:Nat),.int .i64 (C:Nat)] 26)) 26 #[.int .i64 0,.int .i64 0]
    simp only [World.size_alloc] at b2 b3
    rw [hW1,hGB,hPB,hRB]
    exact ⟨(((Fr.refl [] w).alloc _).alloc _).alloc _,((Blk.new w _ _).alloc _).alloc _,b2.alloc _,b3⟩
  have HNB:Hid (GB = w.heap.size ∧ PB = w.heap.size + 1 ∧ RB = w.heap.size + 1 + 1):=⟨hGB,hPB,hRB⟩
  have HRW:=Lib.hid (drowBack W1 x xs R (h.fr0 HF.out.1) (by have:=hR.le; have:=h.len; omega) (-1) rfl)
  obtain ⟨S,hS⟩:∃ S,S = bwd xs R:=⟨_,rfl⟩
  rw [← hS] at HRW ⊢
  have HFE:Hid (∀ w' v v0 v1,Fr [] W1 w' → Fr [] w (((w'.setCell ⟨PB,0,none⟩ v).setCell ⟨RB,0,none⟩ v0).setCell ⟨RB,1,none⟩ v1)):=by
    show ∀ _,_
    intro w' v v0 v1 hf
    exact (((HF.out.1.trans hf).setB (fun h => absurd h (by have:=HNB.out; omega)) _ _).setB (fun h => absurd h (by have:=HNB.out; omega)) _ _).setB (fun h => absurd h (by have:=HNB.out; omega)) _ _
  have n3:¬ PB = RB:=by omega
  have n4:¬ RB = PB:=by omega
  have g0:W1.cell? ⟨GB,0,none⟩ = some (.slice x.B x.m x.d):=HF.out.2.1.cell 0
  have g1:W1.cell? ⟨GB,1,none⟩ = some (.bool x.t):=HF.out.2.1.cell 1
  have g2:W1.cell? ⟨GB,2,none⟩ = some (.int .i64 x.e):=HF.out.2.1.cell 2
  have p0:W1.cell? ⟨PB,0,none⟩ = some (.int .i64 (R:Nat)):=HF.out.2.2.1.cell 0
  rw [hW1] at g0 g1 g2 p0
  rw [hGB] at g0 g1 g2
  rw [hPB] at p0
  obtain ⟨xB,xm,xd,xrs,xt,xe⟩:=x
  simp only at HF HRW hW1 g0 g1 g2 p0
  have HW1:=Lib.hid hW1
  clear h hR hS hW1
  go_enter Tryz.func197,Tryz.ntmps197
  go_wp2_with fail
  rw [← HW1.out,← hRB,← hPB,← hGB]
  clear hRB hPB hGB g0 g1 g2 p0
  refine HRW.out.mono ?_
  rintro en w2 ⟨⟨b,rfl⟩,hf2⟩
  have hb2:=HF.out.2.2.1.fr hf2 (by simp)
  have hr2:=HF.out.2.2.2.fr hf2 (by simp)
  have p0:w2.cell? ⟨PB,0,none⟩ = some (.int .i64 (R:Nat)):=hb2.cell 0
  have p1:w2.cell? ⟨PB,1,none⟩ = some (.int .i64 (C:Nat)):=hb2.cell 1
  have y0:=hb2.frozen 0
  have lp:=hb2.lt
  have r0:w2.cell? ⟨RB,0,none⟩ = some (.int .i64 0):=hr2.cell 0
  have r1:w2.cell? ⟨RB,1,none⟩ = some (.int .i64 0):=hr2.cell 1
  have z0:=hr2.frozen 0
  have z1:=hr2.frozen 1
  have lr:=hr2.lt
  have HFN:=Lib.hid (fun v v0 v1 => HFE.out w2 v v0 v1 hf2)
  clear hb2 hr2 hf2
  go_wp2_with fail
  refine bodyPost_ret (v:=.agg #[.int .i64 (S:Nat),.int .i64 (C:Nat)]) (by simp [results,Tryz.results197,go_sem, *]) rfl ?_
  exact ⟨rfl,HFN.out _ _ _⟩
end Go.Proofs.YtblafakafgediaaGreat
namespace Go.Proofs.YtblafakafgediaaGreat
open Go.RowKit Go.Proofs.Dm

set_option maxRecDepth 100000 in
set_option maxHeartbeats 3200000 in
theorem dmove106 (w:World) (x:GD) (xs:List RV) {pr pc:Int} {R C:Nat} (k:Nat) (h:DGr x xs w) (hs:Sett xs pr pc R C) (hw40:widthP xs ≤ 40) (h1:1 ≤ k) (h4:k ≤ 400) :
    Calls Tryz.prog 163 #[.agg #[.slice x.B x.m x.d,.bool x.t,.int .i64 x.e],.agg #[.int .i64 pr,.int .i64 pc],.int .i64 106,.int .i64 (k:Nat)] w fun en w' => en = .returned (.agg #[.int .i64 (itF (fwd xs) k R:Nat),.int .i64 (C:Nat)]) ∧ Fr [] w w':=by
  obtain ⟨W1,hW1⟩:∃ W1,W1 = ((w.alloc (.cells #[.slice x.B x.m x.d,.bool x.t,.int .i64 x.e] TD11)).alloc (.cells #[.int .i64 pr,.int .i64 pc] 26)).alloc (.cells #[.int .i64 0,.int .i64 0] 26):=⟨_,rfl⟩
  obtain ⟨GB,hGB⟩:∃ GB,GB = w.heap.size:=⟨_,rfl⟩
  obtain ⟨PB,hPB⟩:∃ PB,PB = w.heap.size + 1:=⟨_,rfl⟩
  obtain ⟨RB,hRB⟩:∃ RB,RB = w.heap.size + 1 + 1:=⟨_,rfl⟩
  have HF:Hid (Fr [] w W1 ∧ Blk W1 GB TD11 #[.slice x.B x.m x.d,.bool x.t,.int .i64 x.e] ∧ Blk W1 PB 26 #[.int .i64 pr,.int .i64 pc] ∧ Blk W1 RB 26 #[.int .i64 0,.int .i64 0]):=by
    have b2:=Blk.new (w.alloc (.cells #[.slice x.B x.m x.d,.bool x.t,.int .i64 x.e] TD11)) 26 #[.int .i64 pr,.int .i64 pc]
    have b3:=Blk.new ((w.alloc (.cells #[.slice x.B x.m x.d,.bool x.t,.int .i64 x.e] TD11)).alloc (.cells #[.int .i64 pr,.int .i64 pc] 26)) 26 #[.int .i64 0,.int .i64 0]
    simp only [World.size_alloc] at b2 b3
    rw [hW1,hGB,hPB,hRB]
    exact ⟨(((Fr.refl [] w).alloc _).alloc _).alloc _,((Blk.new w _ _).alloc _).alloc _,b2.alloc _,b3⟩
  have HNB:Hid (GB = w.heap.size ∧ PB = w.heap.size + 1 ∧ RB = w.heap.size + 1 + 1):=⟨hGB,hPB,hRB⟩
  have HFW:Hid (∀ w',Fr [some PB] W1 w' → Fr [] w w'):=by
    show ∀ _,_
    intro w' hf
    exact HF.out.1.seq hf fun z hz => by rw [List.mem_singleton] at hz; exact .inr (.inr ⟨PB,by have:=HNB.out; omega,hz⟩)
  have HST:=Lib.hid (dsettle_any W1 x xs pr pc R C (h.fr0 HF.out.1) hs hw40)
  have HSQ:Hid (∀ w' (q:Nat),Fr [some PB] W1 w' → SetR xs q → Calls Tryz.prog 77 #[.agg #[.slice x.B x.m x.d,.bool x.t,.int .i64 x.e],.agg #[.int .i64 (q:Nat),.int .i64 (C:Nat)]] w' fun en w'' => en = .returned (.agg #[.int .i64 (q:Nat),.int .i64 (C:Nat)]) ∧ Fr [] w' w''):=by
    show ∀ _,_
    intro w' q hf hq
    exact dsettle_any w' x xs (q:Nat) (C:Nat) q C (h.fr0 (HFW.out w' hf)) (hs.at_ hq) hw40
  have HON:Hid (∀ w' (q:Nat),Fr [some PB] W1 w' → SetR xs q → Calls Tryz.prog 197 #[.agg #[.slice x.B x.m x.d,.bool x.t,.int .i64 x.e],.agg #[.int .i64 (q:Nat),.int .i64 (C:Nat)],.int .i64 106] w' fun en w'' => en = .returned (.agg #[.int .i64 (fwd xs q:Nat),.int .i64 (C:Nat)]) ∧ Fr [] w' w''):=by
    show ∀ _,_
    intro w' q hf hq
    exact donce106 w' x xs q C (h.fr0 (HFW.out w' hf)) hq
  have HC:Hid (∀ w',Fr [some PB] W1 w' → w'.cell? ⟨GB,0,none⟩ = some (.slice x.B x.m x.d) ∧ w'.cell? ⟨GB,1,none⟩ = some (.bool x.t) ∧ w'.cell? ⟨GB,2,none⟩ = some (.int .i64 x.e) ∧ w'.cell? ⟨RB,0,none⟩ = some (.int .i64 0) ∧ w'.cell? ⟨RB,1,none⟩ = some (.int .i64 0) ∧ w'.frozen? ⟨RB,0,none⟩ = false ∧ w'.frozen? ⟨RB,1,none⟩ = false ∧ RB < w'.heap.size):=by
    show ∀ _,_
    intro w' hf
    have e1:=HF.out.2.1.fr hf (by have:=HNB.out; simp; omega)
    have e2:=HF.out.2.2.2.fr hf (by have:=HNB.out; simp; omega)
    exact ⟨e1.cell 0,e1.cell 1,e1.cell 2,e2.cell 0,e2.cell 1,e2.frozen 0,e2.frozen 1,e2.lt⟩
  have HFE:Hid (∀ w' v0 v1,Fr [some PB] W1 w' → Fr [] w ((w'.setCell ⟨RB,0,none⟩ v0).setCell ⟨RB,1,none⟩ v1)):=by
    show ∀ _,_
    intro w' v0 v1 hf
    exact ((HFW.out w' hf).setB (fun h => absurd h (by have:=HNB.out; omega)) _ _).setB (fun h => absurd h (by have:=HNB.out; omega)) _ _
  have HSR:Hid (SetR xs R):=hs.set_
  have HK:Hid (1 ≤ k ∧ k ≤ 400):=⟨h1,h4⟩
  have k1:¬ (k:Int) < 1:=by omega
  have k2:¬ (9999:Int) < (k:Int):=by omega
  have n1:¬ GB = PB:=by omega
  have n3:¬ PB = RB:=by omega
  have n4:¬ RB = PB:=by omega
  obtain ⟨xB,xm,xd,xrs,xt,xe⟩:=x
  simp only at HF HST HSQ HON HC hW1
  have HW1:=Lib.hid hW1
  clear h hs hW1 h1 h4 hw40
  go_enter Tryz.func163,Tryz.ntmps163
  go_wp2_with fail
  rw [← HW1.out,← hRB,← hPB,← hGB]
  clear hRB hPB hGB
  obtain ⟨g0,g1,g2,_,_,_,_,_⟩:=HC.out W1 (Fr.refl _ _)
  have p0:W1.cell? ⟨PB,0,none⟩ = some (.int .i64 pr):=HF.out.2.2.1.cell 0
  have p1:W1.cell? ⟨PB,1,none⟩ = some (.int .i64 pc):=HF.out.2.2.1.cell 1
  go_wp2_with fail
  refine HST.out.mono ?_
  rintro en w2 ⟨rfl,hf2⟩
  have hb2:=HF.out.2.2.1.fr hf2 (by simp)
  have p0:w2.cell? ⟨PB,0,none⟩ = some (.int .i64 pr):=hb2.cell 0
  have p1:w2.cell? ⟨PB,1,none⟩ = some (.int .i64 pc):=hb2.cell 1
  have y0:=hb2.frozen 0
  have y1:=hb2.frozen 1
  have lp:=hb2.lt
  obtain ⟨W3,hW3⟩:∃ W3,W3 = (w2.setCell ⟨PB,0,none⟩ (.int .i64 (R:Nat))).setCell ⟨PB,1,none⟩ (.int .i64 (C:Nat)):=⟨_,rfl⟩
  have HE3:Hid (Blk W3 PB 26 #[.int .i64 (R:Nat),.int .i64 (C:Nat)] ∧ Fr [some PB] W1 W3):=by
    rw [hW3]
    exact ⟨by simpa using (hb2.set_ 0 (.int .i64 (R:Nat))).set_ 1 (.int .i64 (C:Nat)),(hf2.of_nil.setB (fun _ => by simp) _ _).setB (fun _ => by simp) _ _⟩
  clear hf2 hb2 g0 g1 g2
  go_wp2_with fail
  rw [← hW3]
  clear hW3 p0 p1 y0 y1 lp
  go_loopg [10] k (fun kk iv wr => ∃ (j q:Nat),kk + j = k ∧ iv = .int .i64 j ∧ Hid (SetR xs q ∧ itF (fwd xs) (k - j) q = itF (fwd xs) k R ∧ Blk wr PB 26 #[.int .i64 (q:Nat),.int .i64 (C:Nat)] ∧ Fr [some PB] W1 wr))
  case atStart => exact ⟨0,R,by omega,rfl,HSR.out,rfl,HE3.out.1,HE3.out.2⟩
  case round =>
    obtain ⟨j,q,hkj,rfl,HI⟩:=hrel
    obtain ⟨g0,g1,g2,r0,r1,z0,z1,lr⟩:=HC.out wr HI.out.2.2.2
    have p0:wr.cell? ⟨PB,0,none⟩ = some (.int .i64 (q:Nat)):=HI.out.2.2.1.cell 0
    have p1:wr.cell? ⟨PB,1,none⟩ = some (.int .i64 (C:Nat)):=HI.out.2.2.1.cell 1
    by_cases hj:j < k
    · have hj0:(j:Int) < (k:Int):=by omega
      have HST:=Lib.hid (HON.out wr q HI.out.2.2.2 HI.out.1)
      obtain ⟨S,hS⟩:∃ S,S = fwd xs q:=⟨_,rfl⟩
      rw [← hS] at HST
      have HS:Hid (S = fwd xs q ∧ j < k):=⟨hS,hj⟩
      have HKJ:=Lib.hid hkj
      clear hS hj hkj r0 r1 z0 z1 lr
      go_wp2_with fail
      refine HST.out.mono ?_
      rintro en w7 ⟨rfl,hf7⟩
      have HB7:=Lib.hid (HI.out.2.2.1.fr hf7 (by simp))
      have HF7:=Lib.hid (HI.out.2.2.2.trans hf7.of_nil)
      clear hf7 p0 p1 g0 g1 g2 HST
      obtain ⟨w8,hw8⟩:∃ w8,w8 = w7.alloc (.cells #[.int .i64 (S:Nat),.int .i64 (C:Nat)] 26):=⟨_,rfl⟩
      have hb8:Blk w8 PB 26 #[.int .i64 (q:Nat),.int .i64 (C:Nat)]:=by rw [hw8]; exact HB7.out.alloc _
      have HF8:Hid (Fr [some PB] W1 w8):=by show Fr _ _ _; rw [hw8]; exact HF7.out.alloc _
      have p0:w8.cell? ⟨PB,0,none⟩ = some (.int .i64 (q:Nat)):=hb8.cell 0
      have p1:w8.cell? ⟨PB,1,none⟩ = some (.int .i64 (C:Nat)):=hb8.cell 1
      have y0:=hb8.frozen 0
      have y1:=hb8.frozen 1
      have lq:=hb8.lt
      have HB8:=Lib.hid hb8
      have o0:w8.cell? ⟨w7.heap.size,0,none⟩ = some (.int .i64 (S:Nat)):=by rw [hw8]; exact (Blk.new w7 26 #[.int .i64 (S:Nat),.int .i64 (C:Nat)]).cell 0
      have o1:w8.cell? ⟨w7.heap.size,1,none⟩ = some (.int .i64 (C:Nat)):=by rw [hw8]; exact (Blk.new w7 26 #[.int .i64 (S:Nat),.int .i64 (C:Nat)]).cell 1
      rw [hw8] at p0 p1 y0 y1 lq o0 o1
      have HW8:=Lib.hid hw8
      clear hb8 hw8
      by_cases hSq:S = q
      · have hq1:((S:Int) == (q:Int)) = true:=by simp [hSq]
        have HEQ:Hid (itF (fwd xs) k R = q):=by
          show _ = _
          rw [← HI.out.2.1]
          exact itF_fix (by rw [← HS.out.1]; exact hSq) _
        have HSQ8:=Lib.hid (HSQ.out w8 q HF8.out HI.out.1)
        obtain ⟨g0,g1,g2,_,_,_,_,_⟩:=HC.out w8 HF8.out
        rw [HW8.out] at g0 g1 g2
        clear hSq y0 y1 lq
        go_wp2_with fail
        rw [← HW8.out]
        clear o0 o1 hq1
        refine HSQ8.out.mono ?_
        rintro en w9 ⟨rfl,hf9⟩
        have HF9:Hid (Fr [some PB] W1 w9):=HF8.out.trans hf9.of_nil
        clear hf9 g0 g1 g2 p0 p1
        obtain ⟨_,_,_,r0,r1,z0,z1,lr⟩:=HC.out w9 HF9.out
        go_wp2_with fail
        refine bodyPost_ret (v:=.agg #[.int .i64 (q:Nat),.int .i64 (C:Nat)]) (by simp [results,Tryz.results163,go_sem, *]) rfl ?_
        exact ⟨by rw [HEQ.out],HFE.out _ _ _ HF9.out⟩
      · have hq1:((S:Int) == (q:Int)) = false:=by
          rw [beq_eq_false_iff_ne]
          omega
        clear hSq
        have HNX:Hid (SetR xs S ∧ itF (fwd xs) (k - (j + 1)) S = itF (fwd xs) k R ∧ Blk ((w8.setCell ⟨PB,0,none⟩ (.int .i64 (S:Nat))).setCell ⟨PB,1,none⟩ (.int .i64 (C:Nat))) PB 26 #[.int .i64 (S:Nat),.int .i64 (C:Nat)] ∧ Fr [some PB] W1 ((w8.setCell ⟨PB,0,none⟩ (.int .i64 (S:Nat))).setCell ⟨PB,1,none⟩ (.int .i64 (C:Nat)))):=by
          obtain ⟨e1,e2⟩:=HS.out
          refine ⟨by rw [e1]; exact fwd_set HI.out.1,?_,by simpa using (HB8.out.set_ 0 (.int .i64 (S:Nat))).set_ 1 (.int .i64 (C:Nat)),(HF8.out.setB (fun _ => by simp) _ _).setB (fun _ => by simp) _ _⟩
          rw [← HI.out.2.1,show k - j = (k - (j + 1)) + 1 by omega,e1]
          rfl
        rw [HW8.out] at HNX
        go_wp2_with fail
        go_roundg (k - (j + 1))
        case rel => exact ⟨j + 1,S,by have:=HS.out; omega,by go_num,HNX.out⟩
        case measure => have h1:=HS.out; have h2:=HKJ.out; omega
    · obtain rfl:j = k:=by omega
      have HEQ:Hid (itF (fwd xs) j R = q):=by
        have h1:=HI.out.2.1
        rw [Nat.sub_self] at h1
        exact h1.symm
      have HSQ8:=Lib.hid (HSQ.out wr q HI.out.2.2.2 HI.out.1)
      clear hj hkj
      go_wp2_with fail
      clear r0 r1 z0 z1 lr
      refine HSQ8.out.mono ?_
      rintro en w9 ⟨rfl,hf9⟩
      have HF9:Hid (Fr [some PB] W1 w9):=HI.out.2.2.2.trans hf9.of_nil
      clear hf9 g0 g1 g2 p0 p1
      obtain ⟨_,_,_,r0,r1,z0,z1,lr⟩:=HC.out w9 HF9.out
      go_wp2_with fail
      refine bodyPost_ret (v:=.agg #[.int .i64 (q:Nat),.int .i64 (C:Nat)]) (by simp [results,Tryz.results163,go_sem, *]) rfl ?_
      exact ⟨by rw [HEQ.out],HFE.out _ _ _ HF9.out⟩
set_option maxRecDepth 100000 in
set_option maxHeartbeats 3200000 in
theorem dmove107 (w:World) (x:GD) (xs:List RV) {pr pc:Int} {R C:Nat} (k:Nat) (h:DGr x xs w) (hs:Sett xs pr pc R C) (hw40:widthP xs ≤ 40) (h1:1 ≤ k) (h4:k ≤ 400) :
    Calls Tryz.prog 163 #[.agg #[.slice x.B x.m x.d,.bool x.t,.int .i64 x.e],.agg #[.int .i64 pr,.int .i64 pc],.int .i64 107,.int .i64 (k:Nat)] w fun en w' => en = .returned (.agg #[.int .i64 (itF (bwd xs) k R:Nat),.int .i64 (C:Nat)]) ∧ Fr [] w w':=by
  obtain ⟨W1,hW1⟩:∃ W1,W1 = ((w.alloc (.cells #[.slice x.B x.m x.d,.bool x.t,.int .i64 x.e] TD11)).alloc (.cells #[.int .i64 pr,.int .i64 pc] 26)).alloc (.cells #[.int .i64 0,.int .i64 0] 26):=⟨_,rfl⟩
  obtain ⟨GB,hGB⟩:∃ GB,GB = w.heap.size:=⟨_,rfl⟩
  obtain ⟨PB,hPB⟩:∃ PB,PB = w.heap.size + 1:=⟨_,rfl⟩
  obtain ⟨RB,hRB⟩:∃ RB,RB = w.heap.size + 1 + 1:=⟨_,rfl⟩
  have HF:Hid (Fr [] w W1 ∧ Blk W1 GB TD11 #[.slice x.B x.m x.d,.bool x.t,.int .i64 x.e] ∧ Blk W1 PB 26 #[.int .i64 pr,.int .i64 pc] ∧ Blk W1 RB 26 #[.int .i64 0,.int .i64 0]):=by
    have b2:=Blk.new (w.alloc (.cells #[.slice x.B x.m x.d,.bool x.t,.int .i64 x.e] TD11)) 26 #[.int .i64 pr,.int .i64 pc]
    have b3:=Blk.new ((w.alloc (.cells #[.slice x.B x.m x.d,.bool x.t,.int .i64 x.e] TD11)).alloc (.cells #[.int .i64 pr,.int .i64 pc] 26)) 26 #[.int .i64 0,.int .i64 0]
    simp only [World.size_alloc] at b2 b3
    rw [hW1,hGB,hPB,hRB]
    exact ⟨(((Fr.refl [] w).alloc _).alloc _).alloc _,((Blk.new w _ _).alloc _).alloc _,b2.alloc _,b3⟩
  have HNB:Hid (GB = w.heap.size ∧ PB = w.heap.size + 1 ∧ RB = w.heap.size + 1 + 1):=⟨hGB,hPB,hRB⟩
  have HFW:Hid (∀ w',Fr [some PB] W1 w' → Fr [] w w'):=by
    show ∀ _,_
    intro w' hf
    exact HF.out.1.seq hf fun z hz => by rw [List.mem_singleton] at hz; exact .inr (.inr ⟨PB,by have:=HNB.out; omega,hz⟩)
  have HST:=Lib.hid (dsettle_any W1 x xs pr pc R C (h.fr0 HF.out.1) hs hw40)
  have HSQ:Hid (∀ w' (q:Nat),Fr [some PB] W1 w' → SetR xs q → Calls Tryz.prog 77 #[.agg #[.slice x.B x.m x.d,.bool x.t,.int .i64 x.e],.agg #[.int .i64 (q:Nat),.int .i64 (C:Nat)]] w' fun en w'' => en = .returned (.agg #[.int .i64 (q:Nat),.int .i64 (C:Nat)]) ∧ Fr [] w' w''):=by
    show ∀ _,_
    intro w' q hf hq
    exact dsettle_any w' x xs (q:Nat) (C:Nat) q C (h.fr0 (HFW.out w' hf)) (hs.at_ hq) hw40
  have HON:Hid (∀ w' (q:Nat),Fr [some PB] W1 w' → SetR xs q → Calls Tryz.prog 197 #[.agg #[.slice x.B x.m x.d,.bool x.t,.int .i64 x.e],.agg #[.int .i64 (q:Nat),.int .i64 (C:Nat)],.int .i64 107] w' fun en w'' => en = .returned (.agg #[.int .i64 (bwd xs q:Nat),.int .i64 (C:Nat)]) ∧ Fr [] w' w''):=by
    show ∀ _,_
    intro w' q hf hq
    exact donce107 w' x xs q C (h.fr0 (HFW.out w' hf)) hq
  have HC:Hid (∀ w',Fr [some PB] W1 w' → w'.cell? ⟨GB,0,none⟩ = some (.slice x.B x.m x.d) ∧ w'.cell? ⟨GB,1,none⟩ = some (.bool x.t) ∧ w'.cell? ⟨GB,2,none⟩ = some (.int .i64 x.e) ∧ w'.cell? ⟨RB,0,none⟩ = some (.int .i64 0) ∧ w'.cell? ⟨RB,1,none⟩ = some (.int .i64 0) ∧ w'.frozen? ⟨RB,0,none⟩ = false ∧ w'.frozen? ⟨RB,1,none⟩ = false ∧ RB < w'.heap.size):=by
    show ∀ _,_
    intro w' hf
    have e1:=HF.out.2.1.fr hf (by have:=HNB.out; simp; omega)
    have e2:=HF.out.2.2.2.fr hf (by have:=HNB.out; simp; omega)
    exact ⟨e1.cell 0,e1.cell 1,e1.cell 2,e2.cell 0,e2.cell 1,e2.frozen 0,e2.frozen 1,e2.lt⟩
  have HFE:Hid (∀ w' v0 v1,Fr [some PB] W1 w' → Fr [] w ((w'.setCell ⟨RB,0,none⟩ v0).setCell ⟨RB,1,none⟩ v1)):=by
    show ∀ _,_
    intro w' v0 v1 hf
    exact ((HFW.out w' hf).setB (fun h => absurd h (by have:=HNB.out; omega)) _ _).setB (fun h => absurd h (by have:=HNB.out; omega)) _ _
  have HSR:Hid (SetR xs R):=hs.set_
  have HK:Hid (1 ≤ k ∧ k ≤ 400):=⟨h1,h4⟩
  have k1:¬ (k:Int) < 1:=by omega
  have k2:¬ (9999:Int) < (k:Int):=by omega
  have n1:¬ GB = PB:=by omega
  have n3:¬ PB = RB:=by omega
  have n4:¬ RB = PB:=by omega
  obtain ⟨xB,xm,xd,xrs,xt,xe⟩:=x
  simp only at HF HST HSQ HON HC hW1
  have HW1:=Lib.hid hW1
  clear h hs hW1 h1 h4 hw40
  go_enter Tryz.func163,Tryz.ntmps163
  go_wp2_with fail
  rw [← HW1.out,← hRB,← hPB,← hGB]
  clear hRB hPB hGB
  obtain ⟨g0,g1,g2,_,_,_,_,_⟩:=HC.out W1 (Fr.refl _ _)
  have p0:W1.cell? ⟨PB,0,none⟩ = some (.int .i64 pr):=HF.out.2.2.1.cell 0
  have p1:W1.cell? ⟨PB,1,none⟩ = some (.int .i64 pc):=HF.out.2.2.1.cell 1
  go_wp2_with fail
  refine HST.out.mono ?_
  rintro en w2 ⟨rfl,hf2⟩
  have hb2:=HF.out.2.2.1.fr hf2 (by simp)
  have p0:w2.cell? ⟨PB,0,none⟩ = some (.int .i64 pr):=hb2.cell 0
  have p1:w2.cell? ⟨PB,1,none⟩ = some (.int .i64 pc):=hb2.cell 1
  have y0:=hb2.frozen 0
  have y1:=hb2.frozen 1
  have lp:=hb2.lt
  obtain ⟨W3,hW3⟩:∃ W3,W3 = (w2.setCell ⟨PB,0,none⟩ (.int .i64 (R:Nat))).setCell ⟨PB,1,none⟩ (.int .i64 (C:Nat)):=⟨_,rfl⟩
  have HE3:Hid (Blk W3 PB 26 #[.int .i64 (R:Nat),.int .i64 (C:Nat)] ∧ Fr [some PB] W1 W3):=by
    rw [hW3]
    exact ⟨by simpa using (hb2.set_ 0 (.int .i64 (R:Nat))).set_ 1 (.int .i64 (C:Nat)),(hf2.of_nil.setB (fun _ => by simp) _ _).setB (fun _ => by simp) _ _⟩
  clear hf2 hb2 g0 g1 g2
  go_wp2_with fail
  rw [← hW3]
  clear hW3 p0 p1 y0 y1 lp
  go_loopg [10] k (fun kk iv wr => ∃ (j q:Nat),kk + j = k ∧ iv = .int .i64 j ∧ Hid (SetR xs q ∧ itF (bwd xs) (k - j) q = itF (bwd xs) k R ∧ Blk wr PB 26 #[.int .i64 (q:Nat),.int .i64 (C:Nat)] ∧ Fr [some PB] W1 wr))
  case atStart => exact ⟨0,R,by omega,rfl,HSR.out,rfl,HE3.out.1,HE3.out.2⟩
  case round =>
    obtain ⟨j,q,hkj,rfl,HI⟩:=hrel
    obtain ⟨g0,g1,g2,r0,r1,z0,z1,lr⟩:=HC.out wr HI.out.2.2.2
    have p0:wr.cell? ⟨PB,0,none⟩ = some (.int .i64 (q:Nat)):=HI.out.2.2.1.cell 0
    have p1:wr.cell? ⟨PB,1,none⟩ = some (.int .i64 (C:Nat)):=HI.out.2.2.1.cell 1
    by_cases hj:j < k
    · have hj0:(j:Int) < (k:Int):=by omega
      have HST:=Lib.hid (HON.out wr q HI.out.2.2.2 HI.out.1)
      obtain ⟨S,hS⟩:∃ S,S = bwd xs q:=⟨_,rfl⟩
      rw [← hS] at HST
      have HS:Hid (S = bwd xs q ∧ j < k):=⟨hS,hj⟩
      have HKJ:=Lib.hid hkj
      clear hS hj hkj r0 r1 z0 z1 lr
      go_wp2_with fail
      refine HST.out.mono ?_
      rintro en w7 ⟨rfl,hf7⟩
      have HB7:=Lib.hid (HI.out.2.2.1.fr hf7 (by simp))
      have HF7:=Lib.hid (HI.out.2.2.2.trans hf7.of_nil)
      clear hf7 p0 p1 g0 g1 g2 HST
      obtain ⟨w8,hw8⟩:∃ w8,w8 = w7.alloc (.cells #[.int .i64 (S:Nat),.int .i64 (C:Nat)] 26):=⟨_,rfl⟩
      have hb8:Blk w8 PB 26 #[.int .i64 (q:Nat),.int .i64 (C:Nat)]:=by rw [hw8]; exact HB7.out.alloc _
      have HF8:Hid (Fr [some PB] W1 w8):=by show Fr _ _ _; rw [hw8]; exact HF7.out.alloc _
      have p0:w8.cell? ⟨PB,0,none⟩ = some (.int .i64 (q:Nat)):=hb8.cell 0
      have p1:w8.cell? ⟨PB,1,none⟩ = some (.int .i64 (C:Nat)):=hb8.cell 1
      have y0:=hb8.frozen 0
      have y1:=hb8.frozen 1
      have lq:=hb8.lt
      have HB8:=Lib.hid hb8
      have o0:w8.cell? ⟨w7.heap.size,0,none⟩ = some (.int .i64 (S:Nat)):=by rw [hw8]; exact (Blk.new w7 26 #[.int .i64 (S:Nat),.int .i64 (C:Nat)]).cell 0
      have o1:w8.cell? ⟨w7.heap.size,1,none⟩ = some (.int .i64 (C:Nat)):=by rw [hw8]; exact (Blk.new w7 26 #[.int .i64 (S:Nat),.int .i64 (C:Nat)]).cell 1
      rw [hw8] at p0 p1 y0 y1 lq o0 o1
      have HW8:=Lib.hid hw8
      clear hb8 hw8
      by_cases hSq:S = q
      · have hq1:((S:Int) == (q:Int)) = true:=by simp [hSq]
        have HEQ:Hid (itF (bwd xs) k R = q):=by
          show _ = _
          rw [← HI.out.2.1]
          exact itF_fix (by rw [← HS.out.1]; exact hSq) _
        have HSQ8:=Lib.hid (HSQ.out w8 q HF8.out HI.out.1)
        obtain ⟨g0,g1,g2,_,_,_,_,_⟩:=HC.out w8 HF8.out
        rw [HW8.out] at g0 g1 g2
        clear hSq y0 y1 lq
        go_wp2_with fail
        rw [← HW8.out]
        clear o0 o1 hq1
        refine HSQ8.out.mono ?_
        rintro en w9 ⟨rfl,hf9⟩
        have HF9:Hid (Fr [some PB] W1 w9):=HF8.out.trans hf9.of_nil
        clear hf9 g0 g1 g2 p0 p1
        obtain ⟨_,_,_,r0,r1,z0,z1,lr⟩:=HC.out w9 HF9.out
        go_wp2_with fail
        refine bodyPost_ret (v:=.agg #[.int .i64 (q:Nat),.int .i64 (C:Nat)]) (by simp [results,Tryz.results163,go_sem, *]) rfl ?_
        exact ⟨by rw [HEQ.out],HFE.out _ _ _ HF9.out⟩
      · have hq1:((S:Int) == (q:Int)) = false:=by
          rw [beq_eq_false_iff_ne]
          omega
        clear hSq
        have HNX:Hid (SetR xs S ∧ itF (bwd xs) (k - (j + 1)) S = itF (bwd xs) k R ∧ Blk ((w8.setCell ⟨PB,0,none⟩ (.int .i64 (S:Nat))).setCell ⟨PB,1,none⟩ (.int .i64 (C:Nat))) PB 26 #[.int .i64 (S:Nat),.int .i64 (C:Nat)] ∧ Fr [some PB] W1 ((w8.setCell ⟨PB,0,none⟩ (.int .i64 (S:Nat))).setCell ⟨PB,1,none⟩ (.int .i64 (C:Nat)))):=by
          obtain ⟨e1,e2⟩:=HS.out
          refine ⟨by rw [e1]; exact bwd_set HI.out.1,?_,by simpa using (HB8.out.set_ 0 (.int .i64 (S:Nat))).set_ 1 (.int .i64 (C:Nat)),(HF8.out.setB (fun _ => by simp) _ _).setB (fun _ => by simp) _ _⟩
          rw [← HI.out.2.1,show k - j = (k - (j + 1)) + 1 by omega,e1]
          rfl
        rw [HW8.out] at HNX
        go_wp2_with fail
        go_roundg (k - (j + 1))
        case rel => exact ⟨j + 1,S,by have:=HS.out; omega,by go_num,HNX.out⟩
        case measure => have h1:=HS.out; have h2:=HKJ.out; omega
    · obtain rfl:j = k:=by omega
      have HEQ:Hid (itF (bwd xs) j R = q):=by
        have h1:=HI.out.2.1
        rw [Nat.sub_self] at h1
        exact h1.symm
      have HSQ8:=Lib.hid (HSQ.out wr q HI.out.2.2.2 HI.out.1)
      clear hj hkj
      go_wp2_with fail
      clear r0 r1 z0 z1 lr
      refine HSQ8.out.mono ?_
      rintro en w9 ⟨rfl,hf9⟩
      have HF9:Hid (Fr [some PB] W1 w9):=HI.out.2.2.2.trans hf9.of_nil
      clear hf9 g0 g1 g2 p0 p1
      obtain ⟨_,_,_,r0,r1,z0,z1,lr⟩:=HC.out w9 HF9.out
      go_wp2_with fail
      refine bodyPost_ret (v:=.agg #[.int .i64 (q:Nat),.int .i64 (C:Nat)]) (by simp [results,Tryz.results163,go_sem, *]) rfl ?_
      exact ⟨by rw [HEQ.out],HFE.out _ _ _ HF9.out⟩
end Go.Proofs.YtblafakafgediaaGreat
