import Derived.Test.YtblafakafgediaaGreatF46
import Derived.Test.YtblafakafgediaaGreatF43
import Derived.Test.YtblafakafgediaaGreatF29
namespace Go.Proofs.YtblafakafgediaaGreat
open Go.RowKit Go.Proofs.Dm

section
variable {s:List UInt8} {g:Nat} {p:Option Addr} {tl:Bool} {eo:Int} {rs:List RW} {x:GD} {w:World}
set_option maxRecDepth 100000 in
set_option maxHeartbeats 1600000 in
theorem HG.forth (h:HG [] s g p tl eo rs x w) (R C:Nat) (hR:SetR (rs.map Prod.fst) R) :
    Calls Tryz.prog 221 #[.agg #[.pointer p,.bool tl,.int .i64 eo],.agg #[.int .i64 (R:Nat),.int .i64 (C:Nat)]] w fun en w' => en = .returned (.agg #[.int .i64 (fwd (rs.map Prod.fst) R:Nat),.int .i64 (C:Nat)]) ∧ Fr [] w w':=by
  have hx:=h.xn
  obtain ⟨n,hn⟩:∃ n,n = rs.length:=⟨_,rfl⟩
  have hRn:R ≤ n:=by have:=hR.le; omega
  have hn4:n ≤ 400:=by omega
  obtain ⟨r,hr⟩:∃ r:Int,r = nextP (rs.map Prod.fst) (R + 1):=⟨_,rfl⟩
  obtain ⟨S,hS⟩:∃ S,S = fwd (rs.map Prod.fst) R:=⟨_,rfl⟩
  rw [← hS]
  have HS:Hid ((0 ≤ r ∧ (S:Int) = r ∧ (R:Int) + 1 < (n:Int)) ∨ (r < 0 ∧ S = R)):=by
    rcases next_cases (rs.map Prod.fst) (R + 1) with ⟨h1,_⟩ | ⟨k,h1,h2,h3,_⟩
    · exact .inr ⟨by omega,by rw [hS]; unfold fwd; rw [h1,if_neg (by omega)]⟩
    · refine .inl ⟨by omega,?_,by omega⟩
      rw [hS]
      unfold fwd
      rw [h1,if_pos (by omega)]
      omega
  have HNX:Hid (∀ w',Fr [] w w' → Calls Tryz.prog 67 #[.agg #[.pointer p,.bool tl,.int .i64 eo],.int .i64 ((R:Int) + 1)] w' fun en w'' => en = .returned (.int .i64 r) ∧ Fr [] w' w''):=by
    show ∀ _,_
    intro w' hf
    rw [hr]
    exact (by
      rcases Nat.lt_or_ge n (R + 1) with hlt | hge
      · have h1:=below_any w' p tl eo (rs.map Prod.fst) n n ((R:Int) + 1) (h.tr0.fr0 hf) (by omega) (by omega) (.inr (.inr ⟨by omega,rfl⟩))
        rw [next_end _ n (by omega),← next_end (rs.map Prod.fst) (R + 1) (by omega)] at h1
        exact h1
      · exact below_any w' p tl eo (rs.map Prod.fst) n (R + 1) ((R:Int) + 1) (h.tr0.fr0 hf) (by omega) (by omega) (.inr (.inl ⟨by omega,hge⟩)))
  have HLN:Hid (∀ w',Fr [] w w' → Calls Tryz.prog 36 #[.agg #[.pointer p,.bool tl,.int .i64 eo]] w' fun en w'' => en = .returned (.int .i64 (n:Nat)) ∧ Fr [] w' w''):=by
    show ∀ _,_
    intro w' hf
    have:=glen_any [] p (rs.map Prod.fst) tl eo w' (h.tr0.fr0 hf)
    rw [hx.1,← hn] at this
    exact this
  have hw1:IntKind.i64.wrap ((R:Int) + 1) = (R:Int) + 1:=IntWalk.i64_in _ (by omega)
  obtain ⟨W1,hW1⟩:∃ W1,W1 = ((w.alloc (.cells #[.pointer p,.bool tl,.int .i64 eo] TGr)).alloc (.cells #[.int .i64 (R:Nat),.int .i64 (C:Nat)] 45)).alloc (.cells #[.int .i64 0,.int .i64 0] 45):=⟨_,rfl⟩
  obtain ⟨GB,hGB⟩:∃ GB,GB = w.heap.size:=⟨_,rfl⟩
  obtain ⟨PB,hPB⟩:∃ PB,PB = w.heap.size + 1:=⟨_,rfl⟩
  obtain ⟨RB,hRB⟩:∃ RB,RB = w.heap.size + 1 + 1:=⟨_,rfl⟩
  have HF:Hid (Fr [] w W1 ∧ Blk W1 GB TGr #[.pointer p,.bool tl,.int .i64 eo] ∧ Blk W1 PB 45 #[.int .i64 (R:Nat),.int .i64 (C:Nat)] ∧ Blk W1 RB 45 #[.int .i64 0,.int .i64 0]):=by
    have b2:=Blk.new (w.alloc (.cells #[.pointer p,.bool tl,.int .i64 eo] TGr)) 45 #[.int .i64 (R:Nat),.int .i64 (C:Nat)]
    have b3:=Blk.new ((w.alloc (.cells #[.pointer p,.bool tl,.int .i64 eo] TGr)).alloc (.cells #[.int .i64 (R:Nat),.int .i64 (C:Nat)] 45)) 45 #[.int .i64 0,.int .i64 0]
    simp only [World.size_alloc] at b2 b3
    rw [hW1,hGB,hPB,hRB]
    exact ⟨(((Fr.refl [] w).alloc _).alloc _).alloc _,((Blk.new w _ _).alloc _).alloc _,b2.alloc _,b3⟩
  have HNB:Hid (GB = w.heap.size ∧ PB = w.heap.size + 1 ∧ RB = w.heap.size + 1 + 1):=⟨hGB,hPB,hRB⟩
  have HC:Hid (∀ w',Fr [] W1 w' → w'.cell? ⟨GB,0,none⟩ = some (.pointer p) ∧ w'.cell? ⟨GB,1,none⟩ = some (.bool tl) ∧ w'.cell? ⟨GB,2,none⟩ = some (.int .i64 eo) ∧ w'.cell? ⟨PB,0,none⟩ = some (.int .i64 (R:Nat)) ∧ w'.cell? ⟨PB,1,none⟩ = some (.int .i64 (C:Nat)) ∧ w'.frozen? ⟨PB,0,none⟩ = false ∧ PB < w'.heap.size ∧ w'.cell? ⟨RB,0,none⟩ = some (.int .i64 0) ∧ w'.cell? ⟨RB,1,none⟩ = some (.int .i64 0) ∧ w'.frozen? ⟨RB,0,none⟩ = false ∧ w'.frozen? ⟨RB,1,none⟩ = false ∧ RB < w'.heap.size):=by
    show ∀ _,_
    intro w' hf
    have h1:=HF.out.2.1.fr hf (by simp)
    have h2:=HF.out.2.2.1.fr hf (by simp)
    have h3:=HF.out.2.2.2.fr hf (by simp)
    exact ⟨h1.cell 0,h1.cell 1,h1.cell 2,h2.cell 0,h2.cell 1,h2.frozen 0,h2.lt,h3.cell 0,h3.cell 1,h3.frozen 0,h3.frozen 1,h3.lt⟩
  have HFA:Hid (∀ w2 v0 v1,Fr [] W1 w2 → Fr [] w ((w2.setCell ⟨RB,0,none⟩ v0).setCell ⟨RB,1,none⟩ v1)):=by
    show ∀ _,_
    intro w2 v0 v1 hf
    exact ((HF.out.1.trans hf).setB (fun h => absurd h (by have:=HNB.out; omega)) _ _).setB (fun h => absurd h (by have:=HNB.out; omega)) _ _
  have HFB:Hid (∀ w2 v v0 v1,Fr [] W1 w2 → Fr [] w (((w2.setCell ⟨PB,0,none⟩ v).setCell ⟨RB,0,none⟩ v0).setCell ⟨RB,1,none⟩ v1)):=by
    show ∀ _,_
    intro w2 v v0 v1 hf
    exact (((HF.out.1.trans hf).setB (fun h => absurd h (by have:=HNB.out; omega)) _ _).setB (fun h => absurd h (by have:=HNB.out; omega)) _ _).setB (fun h => absurd h (by have:=HNB.out; omega)) _ _
  have n3:¬ PB = RB:=by omega
  have n4:¬ RB = PB:=by omega
  have HW1:=Lib.hid hW1
  clear h hR hr hS hW1 hx hn
  go_enter Tryz.func221,Tryz.ntmps221
  go_wp2_with fail
  rw [← HW1.out,← hRB,← hPB,← hGB]
  clear hRB hPB hGB
  obtain ⟨g0,g1,g2,p0,p1,y0,lp,r0,r1,z0,z1,lr⟩:=HC.out W1 (Fr.refl _ _)
  clear r0 r1 z0 z1 lr y0 lp
  go_wp2_with fail
  refine (HNX.out W1 HF.out.1).mono ?_
  rintro en w2 ⟨rfl,hf2⟩
  have HF2:=Lib.hid hf2
  clear hf2 g0 g1 g2 p0 p1
  obtain ⟨g0,g1,g2,p0,p1,y0,lp,r0,r1,z0,z1,lr⟩:=HC.out w2 HF2.out
  rcases HS.out with ⟨hr0,hSr,hc⟩ | ⟨hr0,hSR⟩
  · have HSr:=Lib.hid hSr
    have hd:decide (0 ≤ r) = true:=decide_eq_true hr0
    clear hSr
    go_wp2
    go_region_held3 (fun w' => w'.cell? ⟨GB,0,none⟩ = some (.pointer p) ∧ w'.cell? ⟨GB,1,none⟩ = some (.bool tl) ∧ w'.cell? ⟨GB,2,none⟩ = some (.int .i64 eo) ∧ w'.cell? ⟨PB,0,none⟩ = some (.int .i64 (R:Nat))) (go_keep) ((first
      | (go_at_call 36; go_must (
           refine (HLN.out _ (HF.out.1.trans HF2.out.drew)).mono ?_
           rintro e w3 ⟨rfl,hf3⟩
           have HF3:=Lib.hid (HF2.out.drew.trans hf3)
           obtain ⟨g0',g1',g2',p0',p1',y0',lp',r0',r1',z0',z1',lr'⟩:=HC.out w3 HF3.out
           clear hf3))))
    all_goals go_wp2_with fail
    refine bodyPost_ret (v:=.agg #[.int .i64 r,.int .i64 (C:Nat)]) (by simp [results,Tryz.results221,go_sem, *]) rfl ?_
    exact ⟨by rw [HSr.out],HFB.out _ _ _ _ HF3.out⟩
  · have hd:decide (0 ≤ r) = false:=decide_eq_false (by omega)
    have hr1:¬ 0 ≤ r:=by omega
    have HSR:=Lib.hid hSR
    clear hSR hr0
    go_wp2
    go_region
    go_wp2_with fail
    refine bodyPost_ret (v:=.agg #[.int .i64 (R:Nat),.int .i64 (C:Nat)]) (by simp [results,Tryz.results221,go_sem, *]) rfl ?_
    exact ⟨by rw [HSR.out],(HFA.out _ _ _ HF2.out).drew⟩
set_option maxRecDepth 100000 in
set_option maxHeartbeats 1600000 in
theorem HG.back (h:HG [] s g p tl eo rs x w) (R C:Nat) (hR:SetR (rs.map Prod.fst) R) :
    Calls Tryz.prog 223 #[.agg #[.pointer p,.bool tl,.int .i64 eo],.agg #[.int .i64 (R:Nat),.int .i64 (C:Nat)]] w fun en w' => en = .returned (.agg #[.int .i64 (bwd (rs.map Prod.fst) R:Nat),.int .i64 (C:Nat)]) ∧ Fr [] w w':=by
  have hx:=h.xn
  obtain ⟨n,hn⟩:∃ n,n = rs.length:=⟨_,rfl⟩
  have hRn:R ≤ n:=by have:=hR.le; omega
  have hn4:n ≤ 400:=by omega
  obtain ⟨r,hr⟩:∃ r:Int,r = prevP (rs.map Prod.fst) R:=⟨_,rfl⟩
  obtain ⟨S,hS⟩:∃ S,S = bwd (rs.map Prod.fst) R:=⟨_,rfl⟩
  rw [← hS]
  have HS:Hid ((0 ≤ r ∧ (S:Int) = r ∧ (0:Int) < (R:Int)) ∨ (r < 0 ∧ S = R)):=by
    rcases prev_cases (rs.map Prod.fst) R (by omega) with ⟨h1,_⟩ | ⟨k,h1,h3,_⟩
    · exact .inr ⟨by omega,by rw [hS]; unfold bwd; rw [h1,if_neg (by omega)]⟩
    · refine .inl ⟨by omega,?_,?_⟩
      · rw [hS]
        unfold bwd
        rw [h1,if_pos (by omega)]
        omega
      · rcases Nat.eq_zero_or_pos R with h0 | h0
        · rw [h0,prev_zero] at h1; omega
        · omega
  have HNX:Hid (∀ w',Fr [] w w' → Calls Tryz.prog 68 #[.agg #[.pointer p,.bool tl,.int .i64 eo],.int .i64 ((R:Int) - 1)] w' fun en w'' => en = .returned (.int .i64 r) ∧ Fr [] w' w''):=by
    show ∀ _,_
    intro w' hf
    rw [hr]
    exact mabove_any w' p tl eo (rs.map Prod.fst) n R ((R:Int) - 1) (R:Int) (h.tr0.fr0 hf) (by omega) (by omega) (by omega) (by unfold EndAt; omega) (IntWalk.i64_in _ (by omega))
  have HLN:Hid (∀ w',Fr [] w w' → Calls Tryz.prog 36 #[.agg #[.pointer p,.bool tl,.int .i64 eo]] w' fun en w'' => en = .returned (.int .i64 (n:Nat)) ∧ Fr [] w' w''):=by
    show ∀ _,_
    intro w' hf
    have:=glen_any [] p (rs.map Prod.fst) tl eo w' (h.tr0.fr0 hf)
    rw [hx.1,← hn] at this
    exact this
  have hw1:IntKind.i64.wrap ((R:Int) - 1) = (R:Int) - 1:=IntWalk.i64_in _ (by omega)
  obtain ⟨W1,hW1⟩:∃ W1,W1 = ((w.alloc (.cells #[.pointer p,.bool tl,.int .i64 eo] TGr)).alloc (.cells #[.int .i64 (R:Nat),.int .i64 (C:Nat)] 45)).alloc (.cells #[.int .i64 0,.int .i64 0] 45):=⟨_,rfl⟩
  obtain ⟨GB,hGB⟩:∃ GB,GB = w.heap.size:=⟨_,rfl⟩
  obtain ⟨PB,hPB⟩:∃ PB,PB = w.heap.size + 1:=⟨_,rfl⟩
  obtain ⟨RB,hRB⟩:∃ RB,RB = w.heap.size + 1 + 1:=⟨_,rfl⟩
  have HF:Hid (Fr [] w W1 ∧ Blk W1 GB TGr #[.pointer p,.bool tl,.int .i64 eo] ∧ Blk W1 PB 45 #[.int .i64 (R:Nat),.int .i64 (C:Nat)] ∧ Blk W1 RB 45 #[.int .i64 0,.int .i64 0]):=by
    have b2:=Blk.new (w.alloc (.cells #[.pointer p,.bool tl,.int .i64 eo] TGr)) 45 #[.int .i64 (R:Nat),.int .i64 (C:Nat)]
    have b3:=Blk.new ((w.alloc (.cells #[.pointer p,.bool tl,.int .i64 eo] TGr)).alloc (.cells #[.int .i64 (R:Nat),.int .i64 (C:Nat)] 45)) 45 #[.int .i64 0,.int .i64 0]
    simp only [World.size_alloc] at b2 b3
    rw [hW1,hGB,hPB,hRB]
    exact ⟨(((Fr.refl [] w).alloc _).alloc _).alloc _,((Blk.new w _ _).alloc _).alloc _,b2.alloc _,b3⟩
  have HNB:Hid (GB = w.heap.size ∧ PB = w.heap.size + 1 ∧ RB = w.heap.size + 1 + 1):=⟨hGB,hPB,hRB⟩
  have HC:Hid (∀ w',Fr [] W1 w' → w'.cell? ⟨GB,0,none⟩ = some (.pointer p) ∧ w'.cell? ⟨GB,1,none⟩ = some (.bool tl) ∧ w'.cell? ⟨GB,2,none⟩ = some (.int .i64 eo) ∧ w'.cell? ⟨PB,0,none⟩ = some (.int .i64 (R:Nat)) ∧ w'.cell? ⟨PB,1,none⟩ = some (.int .i64 (C:Nat)) ∧ w'.frozen? ⟨PB,0,none⟩ = false ∧ PB < w'.heap.size ∧ w'.cell? ⟨RB,0,none⟩ = some (.int .i64 0) ∧ w'.cell? ⟨RB,1,none⟩ = some (.int .i64 0) ∧ w'.frozen? ⟨RB,0,none⟩ = false ∧ w'.frozen? ⟨RB,1,none⟩ = false ∧ RB < w'.heap.size):=by
    show ∀ _,_
    intro w' hf
    have h1:=HF.out.2.1.fr hf (by simp)
    have h2:=HF.out.2.2.1.fr hf (by simp)
    have h3:=HF.out.2.2.2.fr hf (by simp)
    exact ⟨h1.cell 0,h1.cell 1,h1.cell 2,h2.cell 0,h2.cell 1,h2.frozen 0,h2.lt,h3.cell 0,h3.cell 1,h3.frozen 0,h3.frozen 1,h3.lt⟩
  have HFA:Hid (∀ w2 v0 v1,Fr [] W1 w2 → Fr [] w ((w2.setCell ⟨RB,0,none⟩ v0).setCell ⟨RB,1,none⟩ v1)):=by
    show ∀ _,_
    intro w2 v0 v1 hf
    exact ((HF.out.1.trans hf).setB (fun h => absurd h (by have:=HNB.out; omega)) _ _).setB (fun h => absurd h (by have:=HNB.out; omega)) _ _
  have HFB:Hid (∀ w2 v v0 v1,Fr [] W1 w2 → Fr [] w (((w2.setCell ⟨PB,0,none⟩ v).setCell ⟨RB,0,none⟩ v0).setCell ⟨RB,1,none⟩ v1)):=by
    show ∀ _,_
    intro w2 v v0 v1 hf
    exact (((HF.out.1.trans hf).setB (fun h => absurd h (by have:=HNB.out; omega)) _ _).setB (fun h => absurd h (by have:=HNB.out; omega)) _ _).setB (fun h => absurd h (by have:=HNB.out; omega)) _ _
  have n3:¬ PB = RB:=by omega
  have n4:¬ RB = PB:=by omega
  have HW1:=Lib.hid hW1
  clear h hR hr hS hW1 hx hn
  go_enter Tryz.func223,Tryz.ntmps223
  go_wp2_with fail
  rw [← HW1.out,← hRB,← hPB,← hGB]
  clear hRB hPB hGB
  obtain ⟨g0,g1,g2,p0,p1,y0,lp,r0,r1,z0,z1,lr⟩:=HC.out W1 (Fr.refl _ _)
  clear r0 r1 z0 z1 lr y0 lp
  go_wp2_with fail
  refine (HNX.out W1 HF.out.1).mono ?_
  rintro en w2 ⟨rfl,hf2⟩
  have HF2:=Lib.hid hf2
  clear hf2 g0 g1 g2 p0 p1
  obtain ⟨g0,g1,g2,p0,p1,y0,lp,r0,r1,z0,z1,lr⟩:=HC.out w2 HF2.out
  rcases HS.out with ⟨hr0,hSr,hc⟩ | ⟨hr0,hSR⟩
  · have HSr:=Lib.hid hSr
    have hd:decide (0 ≤ r) = true:=decide_eq_true hr0
    clear hSr
    go_wp2_with fail
    refine bodyPost_ret (v:=.agg #[.int .i64 r,.int .i64 (C:Nat)]) (by simp [results,Tryz.results223,go_sem, *]) rfl ?_
    exact ⟨by rw [HSr.out],HFB.out _ _ _ _ HF2.out⟩
  · have hd:decide (0 ≤ r) = false:=decide_eq_false (by omega)
    have hr1:¬ 0 ≤ r:=by omega
    have HSR:=Lib.hid hSR
    clear hSR hr0
    go_wp2_with fail
    refine bodyPost_ret (v:=.agg #[.int .i64 (R:Nat),.int .i64 (C:Nat)]) (by simp [results,Tryz.results223,go_sem, *]) rfl ?_
    exact ⟨by rw [HSR.out],HFA.out _ _ _ HF2.out⟩
end
end Go.Proofs.YtblafakafgediaaGreat
namespace Go.Proofs.YtblafakafgediaaGreat
open Go.RowKit Go.Proofs.Dm

theorem run_store_func {P:Program} {w:World} {a:Addr} {m:Mode} (f:Fn) (x y:Array Value):(store a (.func f x y) m).run P w = stored P w a (.func f x y) m:=run_store P w a _ m rfl
attribute [local go_sem] run_store_func
def StepsA1 (w:World) (p:Option Addr) (tl:Bool) (eo:Int) (en:Ending) (w':World):Prop :=
  ∃ B:Nat,en = .returned (.agg #[.func (.func 220) #[] #[.pointer (some ⟨B,0,none⟩)]]) ∧ Blk w' B TGr #[.pointer p,.bool tl,.int .i64 eo] ∧ w.heap.size ≤ B ∧ Fr [] w w'
set_option maxHeartbeats 800000 in
theorem steps106_any (w:World) (p:Option Addr) (tl:Bool) (eo:Int):Calls Tryz.prog 195 #[.agg #[.pointer p,.bool tl,.int .i64 eo],.int .i64 106] w (StepsA1 w p tl eo):=by
  go_enter Tryz.func195,Tryz.ntmps195
  go_wp2_with fail
  refine bodyPost_ret (v:=.agg #[.func (.func 220) #[] #[.pointer (some ⟨w.heap.size,0,none⟩)]]) (by simp [results,Tryz.results195,go_sem, *]) rfl ?_
  exact ⟨w.heap.size,rfl,(Blk.new w TGr _).alloc _,Nat.le_refl _,((Fr.refl [] w).alloc _).alloc _⟩
set_option maxHeartbeats 800000 in
theorem HG.clos1 {s:List UInt8} {g:Nat} {p:Option Addr} {tl:Bool} {eo:Int} {rs:List RW} {x:GD} {w:World} (h:HG [] s g p tl eo rs x w) (B R C:Nat) (hb:Blk w B TGr #[.pointer p,.bool tl,.int .i64 eo]) (hR:SetR (rs.map Prod.fst) R) :
    Calls Tryz.prog 220 #[.agg #[.int .i64 (R:Nat),.int .i64 (C:Nat)],.pointer (some ⟨B,0,none⟩)] w fun en w' => en = .returned (.agg #[.int .i64 (fwd (rs.map Prod.fst) R:Nat),.int .i64 (C:Nat)]) ∧ Fr [] w w':=by
  obtain ⟨W1,hW1⟩:∃ W1,W1 = (w.alloc (.cells #[.int .i64 (R:Nat),.int .i64 (C:Nat)] 45)).alloc (.cells #[.int .i64 0,.int .i64 0] 45):=⟨_,rfl⟩
  obtain ⟨PB,hPB⟩:∃ PB,PB = w.heap.size:=⟨_,rfl⟩
  obtain ⟨RB,hRB⟩:∃ RB,RB = w.heap.size + 1:=⟨_,rfl⟩
  have HF:Hid (Fr [] w W1 ∧ Blk W1 B TGr #[.pointer p,.bool tl,.int .i64 eo] ∧ Blk W1 PB 45 #[.int .i64 (R:Nat),.int .i64 (C:Nat)] ∧ Blk W1 RB 45 #[.int .i64 0,.int .i64 0] ∧ RB = w.heap.size + 1):=by
    have b2:=Blk.new (w.alloc (.cells #[.int .i64 (R:Nat),.int .i64 (C:Nat)] 45)) 45 #[.int .i64 0,.int .i64 0]
    simp only [World.size_alloc] at b2
    rw [hW1,hPB,hRB]
    exact ⟨((Fr.refl [] w).alloc _).alloc _,(hb.alloc _).alloc _,(Blk.new w _ _).alloc _,b2,rfl⟩
  have HST:=Lib.hid ((h.fr0 HF.out.1).forth R C hR)
  obtain ⟨S,hS⟩:∃ S,S = fwd (rs.map Prod.fst) R:=⟨_,rfl⟩
  rw [← hS] at HST ⊢
  have g0:W1.cell? ⟨B,0,none⟩ = some (.pointer p):=HF.out.2.1.cell 0
  have g1:W1.cell? ⟨B,1,none⟩ = some (.bool tl):=HF.out.2.1.cell 1
  have g2:W1.cell? ⟨B,2,none⟩ = some (.int .i64 eo):=HF.out.2.1.cell 2
  have p0:W1.cell? ⟨PB,0,none⟩ = some (.int .i64 (R:Nat)):=HF.out.2.2.1.cell 0
  have p1:W1.cell? ⟨PB,1,none⟩ = some (.int .i64 (C:Nat)):=HF.out.2.2.1.cell 1
  rw [hW1] at g0 g1 g2 p0 p1
  rw [hPB] at p0 p1
  have HW1:=Lib.hid hW1
  clear h hb hR hS hW1 hPB
  go_enter Tryz.func220,Tryz.ntmps220
  go_wp2_with fail
  rw [← HW1.out,← hRB]
  clear hRB g0 g1 g2 p0 p1
  refine HST.out.mono ?_
  rintro en w2 ⟨rfl,hf2⟩
  have hb2:=HF.out.2.2.2.1.fr hf2 (by simp)
  have r0:w2.cell? ⟨RB,0,none⟩ = some (.int .i64 0):=hb2.cell 0
  have r1:w2.cell? ⟨RB,1,none⟩ = some (.int .i64 0):=hb2.cell 1
  have z0:=hb2.frozen 0
  have z1:=hb2.frozen 1
  have lr:=hb2.lt
  have HFE:Hid (∀ v0 v1,Fr [] w ((w2.setCell ⟨RB,0,none⟩ v0).setCell ⟨RB,1,none⟩ v1)):=by
    show ∀ _,_
    intro v0 v1
    exact ((HF.out.1.trans hf2).setB (fun h => absurd h (by have:=HF.out.2.2.2.2; omega)) _ _).setB (fun h => absurd h (by have:=HF.out.2.2.2.2; omega)) _ _
  clear hb2 hf2
  go_wp2_with fail
  refine bodyPost_ret (v:=.agg #[.int .i64 (S:Nat),.int .i64 (C:Nat)]) (by simp [results,Tryz.results220,go_sem, *]) rfl ?_
  exact ⟨rfl,HFE.out _ _⟩
def StepsA2 (w:World) (p:Option Addr) (tl:Bool) (eo:Int) (en:Ending) (w':World):Prop :=
  ∃ B:Nat,en = .returned (.agg #[.func (.func 222) #[] #[.pointer (some ⟨B,0,none⟩)]]) ∧ Blk w' B TGr #[.pointer p,.bool tl,.int .i64 eo] ∧ w.heap.size ≤ B ∧ Fr [] w w'
set_option maxHeartbeats 800000 in
theorem steps107_any (w:World) (p:Option Addr) (tl:Bool) (eo:Int):Calls Tryz.prog 195 #[.agg #[.pointer p,.bool tl,.int .i64 eo],.int .i64 107] w (StepsA2 w p tl eo):=by
  go_enter Tryz.func195,Tryz.ntmps195
  go_wp2_with fail
  refine bodyPost_ret (v:=.agg #[.func (.func 222) #[] #[.pointer (some ⟨w.heap.size,0,none⟩)]]) (by simp [results,Tryz.results195,go_sem, *]) rfl ?_
  exact ⟨w.heap.size,rfl,(Blk.new w TGr _).alloc _,Nat.le_refl _,((Fr.refl [] w).alloc _).alloc _⟩
set_option maxHeartbeats 800000 in
theorem HG.clos2 {s:List UInt8} {g:Nat} {p:Option Addr} {tl:Bool} {eo:Int} {rs:List RW} {x:GD} {w:World} (h:HG [] s g p tl eo rs x w) (B R C:Nat) (hb:Blk w B TGr #[.pointer p,.bool tl,.int .i64 eo]) (hR:SetR (rs.map Prod.fst) R) :
    Calls Tryz.prog 222 #[.agg #[.int .i64 (R:Nat),.int .i64 (C:Nat)],.pointer (some ⟨B,0,none⟩)] w fun en w' => en = .returned (.agg #[.int .i64 (bwd (rs.map Prod.fst) R:Nat),.int .i64 (C:Nat)]) ∧ Fr [] w w':=by
  obtain ⟨W1,hW1⟩:∃ W1,W1 = (w.alloc (.cells #[.int .i64 (R:Nat),.int .i64 (C:Nat)] 45)).alloc (.cells #[.int .i64 0,.int .i64 0] 45):=⟨_,rfl⟩
  obtain ⟨PB,hPB⟩:∃ PB,PB = w.heap.size:=⟨_,rfl⟩
  obtain ⟨RB,hRB⟩:∃ RB,RB = w.heap.size + 1:=⟨_,rfl⟩
  have HF:Hid (Fr [] w W1 ∧ Blk W1 B TGr #[.pointer p,.bool tl,.int .i64 eo] ∧ Blk W1 PB 45 #[.int .i64 (R:Nat),.int .i64 (C:Nat)] ∧ Blk W1 RB 45 #[.int .i64 0,.int .i64 0] ∧ RB = w.heap.size + 1):=by
    have b2:=Blk.new (w.alloc (.cells #[.int .i64 (R:Nat),.int .i64 (C:Nat)] 45)) 45 #[.int .i64 0,.int .i64 0]
    simp only [World.size_alloc] at b2
    rw [hW1,hPB,hRB]
    exact ⟨((Fr.refl [] w).alloc _).alloc _,(hb.alloc _).alloc _,(Blk.new w _ _).alloc _,b2,rfl⟩
  have HST:=Lib.hid ((h.fr0 HF.out.1).back R C hR)
  obtain ⟨S,hS⟩:∃ S,S = bwd (rs.map Prod.fst) R:=⟨_,rfl⟩
  rw [← hS] at HST ⊢
  have g0:W1.cell? ⟨B,0,none⟩ = some (.pointer p):=HF.out.2.1.cell 0
  have g1:W1.cell? ⟨B,1,none⟩ = some (.bool tl):=HF.out.2.1.cell 1
  have g2:W1.cell? ⟨B,2,none⟩ = some (.int .i64 eo):=HF.out.2.1.cell 2
  have p0:W1.cell? ⟨PB,0,none⟩ = some (.int .i64 (R:Nat)):=HF.out.2.2.1.cell 0
  have p1:W1.cell? ⟨PB,1,none⟩ = some (.int .i64 (C:Nat)):=HF.out.2.2.1.cell 1
  rw [hW1] at g0 g1 g2 p0 p1
  rw [hPB] at p0 p1
  have HW1:=Lib.hid hW1
  clear h hb hR hS hW1 hPB
  go_enter Tryz.func222,Tryz.ntmps222
  go_wp2_with fail
  rw [← HW1.out,← hRB]
  clear hRB g0 g1 g2 p0 p1
  refine HST.out.mono ?_
  rintro en w2 ⟨rfl,hf2⟩
  have hb2:=HF.out.2.2.2.1.fr hf2 (by simp)
  have r0:w2.cell? ⟨RB,0,none⟩ = some (.int .i64 0):=hb2.cell 0
  have r1:w2.cell? ⟨RB,1,none⟩ = some (.int .i64 0):=hb2.cell 1
  have z0:=hb2.frozen 0
  have z1:=hb2.frozen 1
  have lr:=hb2.lt
  have HFE:Hid (∀ v0 v1,Fr [] w ((w2.setCell ⟨RB,0,none⟩ v0).setCell ⟨RB,1,none⟩ v1)):=by
    show ∀ _,_
    intro v0 v1
    exact ((HF.out.1.trans hf2).setB (fun h => absurd h (by have:=HF.out.2.2.2.2; omega)) _ _).setB (fun h => absurd h (by have:=HF.out.2.2.2.2; omega)) _ _
  clear hb2 hf2
  go_wp2_with fail
  refine bodyPost_ret (v:=.agg #[.int .i64 (S:Nat),.int .i64 (C:Nat)]) (by simp [results,Tryz.results222,go_sem, *]) rfl ?_
  exact ⟨rfl,HFE.out _ _⟩
end Go.Proofs.YtblafakafgediaaGreat
namespace Go.Proofs.YtblafakafgediaaGreat
open Go.RowKit Go.Proofs.Dm
attribute [local go_sem] run_store_func
theorem run_eql_func_nil (w:World) (f:Fn) (x y:Array Value):(binOp .eql 272 (.func f x y) .nilFunc).run Tryz.prog w = .ok (.bool false) w:=by
  have h:∀ d:Nat,(Op.equalIn (d + 1) 272 (.func f x y) .nilFunc).run Tryz.prog w = .ok false w:=fun d => by simp [Op.equalIn,run_underlying Tryz.underlying272]
  simp only [binOp]
  simp [Op.equal,Op.maxDepth,h 9999]
attribute [local go_sem] run_eql_func_nil

set_option maxRecDepth 100000 in
set_option maxHeartbeats 3200000 in
theorem HG.move106 {s:List UInt8} {g:Nat} {p:Option Addr} {tl:Bool} {eo:Int} {rs:List RW} {x:GD} {w:World} (h:HG [] s g p tl eo rs x w) {pr pc:Int} {R C:Nat} (hs:Sett (rs.map Prod.fst) pr pc R C) (k:Nat) (h1:1 ≤ k) (h4:k ≤ 400) :
    Calls Tryz.prog 162 #[.agg #[.pointer p,.bool tl,.int .i64 eo],.pointer none,.agg #[.int .i64 pr,.int .i64 pc],.int .i64 106,.int .i64 (k:Nat)] w fun en w' => (∃ b,en = .returned (.tuple #[.agg #[.int .i64 (itF (fwd (rs.map Prod.fst)) k R:Nat),.int .i64 (C:Nat)],.bool b])) ∧ Fr [] w w':=by
  obtain ⟨W1,hW1⟩:∃ W1,W1 = ((w.alloc (.cells #[.pointer p,.bool tl,.int .i64 eo] TGr)).alloc (.cells #[.int .i64 pr,.int .i64 pc] 45)).alloc (.cells #[.int .i64 0,.int .i64 0] 45):=⟨_,rfl⟩
  obtain ⟨GB,hGB⟩:∃ GB,GB = w.heap.size:=⟨_,rfl⟩
  obtain ⟨PB,hPB⟩:∃ PB,PB = w.heap.size + 1:=⟨_,rfl⟩
  obtain ⟨RB,hRB⟩:∃ RB,RB = w.heap.size + 1 + 1:=⟨_,rfl⟩
  have HF:Hid (Fr [] w W1 ∧ Blk W1 GB TGr #[.pointer p,.bool tl,.int .i64 eo] ∧ Blk W1 PB 45 #[.int .i64 pr,.int .i64 pc] ∧ Blk W1 RB 45 #[.int .i64 0,.int .i64 0]):=by
    have b2:=Blk.new (w.alloc (.cells #[.pointer p,.bool tl,.int .i64 eo] TGr)) 45 #[.int .i64 pr,.int .i64 pc]
    have b3:=Blk.new ((w.alloc (.cells #[.pointer p,.bool tl,.int .i64 eo] TGr)).alloc (.cells #[.int .i64 pr,.int .i64 pc] 45)) 45 #[.int .i64 0,.int .i64 0]
    simp only [World.size_alloc] at b2 b3
    rw [hW1,hGB,hPB,hRB]
    exact ⟨(((Fr.refl [] w).alloc _).alloc _).alloc _,((Blk.new w _ _).alloc _).alloc _,b2.alloc _,b3⟩
  have HNB:Hid (GB = w.heap.size ∧ PB = w.heap.size + 1 ∧ RB = w.heap.size + 1 + 1):=⟨hGB,hPB,hRB⟩
  have HH:=Lib.hid h
  have HST:=Lib.hid ((h.fr0 HF.out.1).settle hs)
  have HSR:=Lib.hid hs.set_
  have HK:Hid (1 ≤ k ∧ k ≤ 400):=⟨h1,h4⟩
  have k1:¬ (k:Int) < 1:=by omega
  have k2:¬ (9999:Int) < (k:Int):=by omega
  have HW1:=Lib.hid hW1
  clear h hs hW1 h1 h4
  go_enter Tryz.func162,Tryz.ntmps162
  go_wp2_with fail
  rw [← HW1.out,← hRB,← hPB,← hGB]
  clear hRB hPB hGB
  have g0:W1.cell? ⟨GB,0,none⟩ = some (.pointer p):=HF.out.2.1.cell 0
  have g1:W1.cell? ⟨GB,1,none⟩ = some (.bool tl):=HF.out.2.1.cell 1
  have g2:W1.cell? ⟨GB,2,none⟩ = some (.int .i64 eo):=HF.out.2.1.cell 2
  have p0:W1.cell? ⟨PB,0,none⟩ = some (.int .i64 pr):=HF.out.2.2.1.cell 0
  have p1:W1.cell? ⟨PB,1,none⟩ = some (.int .i64 pc):=HF.out.2.2.1.cell 1
  go_wp2_with fail
  refine HST.out.mono ?_
  rintro en w2 ⟨rfl,hf2⟩
  have hb2:=HF.out.2.2.1.fr hf2 (by simp)
  have hg2:=HF.out.2.1.fr hf2 (by simp)
  have hr2:=HF.out.2.2.2.fr hf2 (by simp)
  have g0:w2.cell? ⟨GB,0,none⟩ = some (.pointer p):=hg2.cell 0
  have g1:w2.cell? ⟨GB,1,none⟩ = some (.bool tl):=hg2.cell 1
  have g2:w2.cell? ⟨GB,2,none⟩ = some (.int .i64 eo):=hg2.cell 2
  have p0:w2.cell? ⟨PB,0,none⟩ = some (.int .i64 pr):=hb2.cell 0
  have p1:w2.cell? ⟨PB,1,none⟩ = some (.int .i64 pc):=hb2.cell 1
  have y0:=hb2.frozen 0
  have y1:=hb2.frozen 1
  have lp:=hb2.lt
  have n1:¬ GB = PB:=by have:=HNB.out; omega
  obtain ⟨W3,hW3⟩:∃ W3,W3 = (w2.setCell ⟨PB,0,none⟩ (.int .i64 (R:Nat))).setCell ⟨PB,1,none⟩ (.int .i64 (C:Nat)):=⟨_,rfl⟩
  have HE3:Hid (Blk W3 PB 45 #[.int .i64 (R:Nat),.int .i64 (C:Nat)] ∧ Blk W3 RB 45 #[.int .i64 0,.int .i64 0] ∧ Fr [] w W3):=by
    have hn:=HNB.out
    rw [hW3]
    exact ⟨by simpa using (hb2.set_ 0 (.int .i64 (R:Nat))).set_ 1 (.int .i64 (C:Nat)),(hr2.far (fun e => by have e:RB = PB:=e; omega) _).far (fun e => by have e:RB = PB:=e; omega) _,((HF.out.1.trans hf2).setB (fun h => absurd h (by have h:PB < w.heap.size:=h; omega)) _ _).setB (fun h => absurd h (by have h:PB < w.heap.size:=h; omega)) _ _⟩
  clear hf2 hb2 hg2 hr2
  go_wp2_with fail
  rw [← hW3]
  clear hW3 g0 g1 g2 p0 p1 y0 y1 lp n1
  refine (steps106_any W3 p tl eo).mono ?_
  rintro en w4 ⟨SB,rfl,hsb,hsl,hf4⟩
  have HSB:Hid (Blk w4 SB TGr #[.pointer p,.bool tl,.int .i64 eo] ∧ Fr [] w w4 ∧ Blk w4 PB 45 #[.int .i64 (R:Nat),.int .i64 (C:Nat)] ∧ Blk w4 RB 45 #[.int .i64 0,.int .i64 0]):=⟨hsb,HE3.out.2.2.trans hf4,HE3.out.1.fr hf4 (by simp),HE3.out.2.1.fr hf4 (by simp)⟩
  clear hsb hsl hf4 HE3 HST
  obtain ⟨FV,hFV⟩:∃ FV,FV = Value.func (.func 220) #[] #[.pointer (some ⟨SB,0,none⟩)]:=⟨_,rfl⟩
  obtain ⟨W5,hW5⟩:∃ W5,W5 = (w4.alloc (.cells #[FV] 274)).alloc (.cells #[.int .i64 (R:Nat),.int .i64 (C:Nat)] 45):=⟨_,rfl⟩
  obtain ⟨TB,hTB⟩:∃ TB,TB = w4.heap.size:=⟨_,rfl⟩
  obtain ⟨QB,hQB⟩:∃ QB,QB = w4.heap.size + 1:=⟨_,rfl⟩
  have HE5:Hid (Fr [] w W5 ∧ Blk W5 SB TGr #[.pointer p,.bool tl,.int .i64 eo] ∧ Blk W5 PB 45 #[.int .i64 (R:Nat),.int .i64 (C:Nat)] ∧ Blk W5 RB 45 #[.int .i64 0,.int .i64 0] ∧ Blk W5 TB 274 #[FV] ∧ Blk W5 QB 45 #[.int .i64 (R:Nat),.int .i64 (C:Nat)]):=by
    have b1:=Blk.new (w4.alloc (.cells #[FV] 274)) 45 #[.int .i64 (R:Nat),.int .i64 (C:Nat)]
    simp only [World.size_alloc] at b1
    rw [hW5,hTB,hQB]
    exact ⟨(HSB.out.2.1.alloc _).alloc _,(HSB.out.1.alloc _).alloc _,(HSB.out.2.2.1.alloc _).alloc _,(HSB.out.2.2.2.alloc _).alloc _,(Blk.new w4 _ _).alloc _,b1⟩
  have HFVH:=Lib.hid hFV
  have HQN:Hid (w.heap.size ≤ QB ∧ QB ≠ PB ∧ QB ≠ RB ∧ QB ≠ TB ∧ QB ≠ SB ∧ PB ≠ RB):=by
    have h1:=HSB.out.2.1.size
    have h2:=HSB.out.2.2.1.lt
    have h3:=HSB.out.2.2.2.lt
    have h4:=HSB.out.1.lt
    have h5:=HNB.out
    exact ⟨by omega,by omega,by omega,by omega,by omega,by omega⟩
  have p0:(w4.alloc (.cells #[FV] 274)).cell? ⟨PB,0,none⟩ = some (.int .i64 (R:Nat)):=(HSB.out.2.2.1.alloc _).cell 0
  have p1:(w4.alloc (.cells #[FV] 274)).cell? ⟨PB,1,none⟩ = some (.int .i64 (C:Nat)):=(HSB.out.2.2.1.alloc _).cell 1
  rw [hFV] at p0 p1 hW5
  clear hFV
  go_wp2_with fail
  rw [← hW5,← hQB,← hTB]
  clear hW5 hQB hTB p0 p1
  have HFW:Hid (∀ w',Fr [some QB] W5 w' → Fr [] w w'):=by
    show ∀ _,_
    intro w' hf
    exact HE5.out.1.seq hf fun z hz => by rw [List.mem_singleton] at hz; exact .inr (.inr ⟨QB,HQN.out.1,hz⟩)
  have HCL:Hid (∀ w' (q:Nat),Fr [some QB] W5 w' → SetR (rs.map Prod.fst) q → Calls Tryz.prog 220 #[.agg #[.int .i64 (q:Nat),.int .i64 (C:Nat)],.pointer (some ⟨SB,0,none⟩)] w' fun en w'' => en = .returned (.agg #[.int .i64 (fwd (rs.map Prod.fst) q:Nat),.int .i64 (C:Nat)]) ∧ Fr [] w' w''):=by
    show ∀ _,_
    intro w' q hf hq
    exact (HH.out.fr0 (HFW.out w' hf)).clos1 SB q C (HE5.out.2.1.fr hf (by have:=HQN.out; simp; omega)) hq
  have HCE:Hid (∀ w',Fr [some QB] W5 w' → w'.cell? ⟨TB,0,none⟩ = some (.func (.func 220) #[] #[.pointer (some ⟨SB,0,none⟩)]) ∧ w'.cell? ⟨PB,0,none⟩ = some (.int .i64 (R:Nat)) ∧ w'.cell? ⟨PB,1,none⟩ = some (.int .i64 (C:Nat)) ∧ w'.cell? ⟨RB,0,none⟩ = some (.int .i64 0) ∧ w'.cell? ⟨RB,1,none⟩ = some (.int .i64 0) ∧ w'.frozen? ⟨RB,0,none⟩ = false ∧ w'.frozen? ⟨RB,1,none⟩ = false ∧ RB < w'.heap.size):=by
    show ∀ _,_
    intro w' hf
    have hn:=HQN.out
    have e1:=HE5.out.2.2.1.fr hf (by simp; omega)
    have e2:=HE5.out.2.2.2.1.fr hf (by simp; omega)
    have e3:=HE5.out.2.2.2.2.1.fr hf (by simp; omega)
    exact ⟨by rw [← HFVH.out]; exact e3.cell 0,e1.cell 0,e1.cell 1,e2.cell 0,e2.cell 1,e2.frozen 0,e2.frozen 1,e2.lt⟩
  have HFIN:Hid (∀ w' v0 v1,Fr [some QB] W5 w' → Fr [] w ((w'.setCell ⟨RB,0,none⟩ v0).setCell ⟨RB,1,none⟩ v1)):=by
    show ∀ _,_
    intro w' v0 v1 hf
    exact ((HFW.out w' hf).setB (fun h => absurd h (by have h:RB < w.heap.size:=h; have:=HNB.out; omega)) _ _).setB (fun h => absurd h (by have h:RB < w.heap.size:=h; have:=HNB.out; omega)) _ _
  have n5:¬ QB = RB:=HQN.out.2.2.1
  have n6:¬ PB = RB:=HQN.out.2.2.2.2.2
  have n7:¬ RB = QB:=fun e => n5 e.symm
  go_loopg [15] k (fun kk iv wr => ∃ (j q:Nat),kk = j ∧ iv = .int .i64 j ∧ j ≤ k ∧ Hid (SetR (rs.map Prod.fst) q ∧ itF (fwd (rs.map Prod.fst)) j q = itF (fwd (rs.map Prod.fst)) k R ∧ Blk wr QB 45 #[.int .i64 (q:Nat),.int .i64 (C:Nat)] ∧ Fr [some QB] W5 wr))
  case atStart => exact ⟨k,R,rfl,rfl,Nat.le_refl _,HSR.out,rfl,HE5.out.2.2.2.2.2,Fr.refl _ _⟩
  case round =>
    obtain ⟨j,q,hkj,rfl,hjk,HI⟩:=hrel
    obtain ⟨t0,p0,p1,r0,r1,z0,z1,lr⟩:=HCE.out wr HI.out.2.2.2
    have q0:wr.cell? ⟨QB,0,none⟩ = some (.int .i64 (q:Nat)):=HI.out.2.2.1.cell 0
    have q1:wr.cell? ⟨QB,1,none⟩ = some (.int .i64 (C:Nat)):=HI.out.2.2.1.cell 1
    by_cases hj:0 < j
    · have hj0:(0:Int) < (j:Int):=by omega
      have hjw:IntKind.i64.wrap ((j:Int) - 1) = ((j - 1:Nat):Int):=by rw [IntWalk.i64_in _ (by have:=HK.out; omega)]; omega
      have HST:=Lib.hid (HCL.out wr q HI.out.2.2.2 HI.out.1)
      obtain ⟨S,hS⟩:∃ S,S = fwd (rs.map Prod.fst) q:=⟨_,rfl⟩
      rw [← hS] at HST
      have HS:Hid (S = fwd (rs.map Prod.fst) q ∧ 0 < j ∧ j ≤ k):=⟨hS,hj,hjk⟩
      clear hS hj hjk p0 p1 r0 r1 z0 z1 lr
      go_wp2_with fail
      refine HST.out.mono ?_
      rintro en w7 ⟨rfl,hf7⟩
      have HB7:=Lib.hid (HI.out.2.2.1.fr hf7 (by simp))
      have HF7:=Lib.hid (HI.out.2.2.2.trans hf7.of_nil)
      clear hf7 q0 q1 t0 HST
      obtain ⟨w8,hw8⟩:∃ w8,w8 = w7.alloc (.cells #[.int .i64 (S:Nat),.int .i64 (C:Nat)] 45):=⟨_,rfl⟩
      have hb8:Blk w8 QB 45 #[.int .i64 (q:Nat),.int .i64 (C:Nat)]:=by rw [hw8]; exact HB7.out.alloc _
      have HF8:Hid (Fr [some QB] W5 w8):=by show Fr _ _ _; rw [hw8]; exact HF7.out.alloc _
      have q0:w8.cell? ⟨QB,0,none⟩ = some (.int .i64 (q:Nat)):=hb8.cell 0
      have q1:w8.cell? ⟨QB,1,none⟩ = some (.int .i64 (C:Nat)):=hb8.cell 1
      have y0:=hb8.frozen 0
      have y1:=hb8.frozen 1
      have lq:=hb8.lt
      have HB8:=Lib.hid hb8
      have o0:w8.cell? ⟨w7.heap.size,0,none⟩ = some (.int .i64 (S:Nat)):=by rw [hw8]; exact (Blk.new w7 45 #[.int .i64 (S:Nat),.int .i64 (C:Nat)]).cell 0
      have o1:w8.cell? ⟨w7.heap.size,1,none⟩ = some (.int .i64 (C:Nat)):=by rw [hw8]; exact (Blk.new w7 45 #[.int .i64 (S:Nat),.int .i64 (C:Nat)]).cell 1
      rw [hw8] at q0 q1 y0 y1 lq o0 o1
      have HW8:=Lib.hid hw8
      clear hb8 hw8
      by_cases hSq:S = q
      · have hq1:((S:Int) == (q:Int)) = true:=by simp [hSq]
        have HEQ:Hid (itF (fwd (rs.map Prod.fst)) k R = q):=by
          show _ = _
          rw [← HI.out.2.1]
          exact itF_fix (by rw [← HS.out.1]; exact hSq) j
        clear hSq
        obtain ⟨_,p0,p1,r0,r1,z0,z1,lr⟩:=HCE.out w8 HF8.out
        have HFN:=Lib.hid (fun v0 v1 => (HFIN.out w8 v0 v1 HF8.out).drew)
        rw [HW8.out] at p0 p1 r0 r1 z0 z1 lr HFN
        clear y0 y1 lq
        by_cases hqR:q = R
        · have hq2:((q:Int) == (R:Int)) = true:=by simp [hqR]
          clear hqR
          go_wp2
          go_region
          all_goals go_wp2_with fail
          all_goals refine bodyPost_ret (v:=.tuple #[.agg #[.int .i64 (q:Nat),.int .i64 (C:Nat)],.bool false]) (by simp [results,Tryz.results162,go_sem, *]) rfl ?_
          all_goals exact ⟨⟨_,by rw [HEQ.out]⟩,HFN.out _ _⟩
        · have hq2:((q:Int) == (R:Int)) = false:=by
            rw [beq_eq_false_iff_ne]
            omega
          clear hqR
          go_wp2
          go_region
          all_goals go_wp2_with fail
          all_goals refine bodyPost_ret (v:=.tuple #[.agg #[.int .i64 (q:Nat),.int .i64 (C:Nat)],.bool true]) (by simp [results,Tryz.results162,go_sem, *]) rfl ?_
          all_goals exact ⟨⟨_,by rw [HEQ.out]⟩,HFN.out _ _⟩
      · have hq1:((S:Int) == (q:Int)) = false:=by
          rw [beq_eq_false_iff_ne]
          omega
        clear hSq
        have HNX:Hid (SetR (rs.map Prod.fst) S ∧ itF (fwd (rs.map Prod.fst)) (j - 1) S = itF (fwd (rs.map Prod.fst)) k R ∧ Blk ((w8.setCell ⟨QB,0,none⟩ (.int .i64 (S:Nat))).setCell ⟨QB,1,none⟩ (.int .i64 (C:Nat))) QB 45 #[.int .i64 (S:Nat),.int .i64 (C:Nat)] ∧ Fr [some QB] W5 ((w8.setCell ⟨QB,0,none⟩ (.int .i64 (S:Nat))).setCell ⟨QB,1,none⟩ (.int .i64 (C:Nat)))):=by
          obtain ⟨e1,e2,e3⟩:=HS.out
          refine ⟨by rw [e1]; exact fwd_set HI.out.1,?_,by simpa using (HB8.out.set_ 0 (.int .i64 (S:Nat))).set_ 1 (.int .i64 (C:Nat)),(HF8.out.setB (fun _ => by simp) _ _).setB (fun _ => by simp) _ _⟩
          rw [← HI.out.2.1,show j = (j - 1) + 1 by omega,Nat.add_sub_cancel,e1]
          rfl
        rw [HW8.out] at HNX
        go_wp2_with fail
        go_roundg (j - 1)
        case rel => exact ⟨j - 1,S,rfl,rfl,by have:=HS.out; omega,HNX.out⟩
        case measure => have:=HS.out; omega
    · obtain rfl:j = 0:=by omega
      have HEQ:Hid (itF (fwd (rs.map Prod.fst)) k R = q):=HI.out.2.1.symm
      have HFN:=Lib.hid (fun v0 v1 => (HFIN.out wr v0 v1 HI.out.2.2.2).drew)
      clear hj hjk t0 HCL HK
      by_cases hqR:q = R
      · have hq2:((q:Int) == (R:Int)) = true:=by simp [hqR]
        clear hqR
        go_wp2
        go_region
        all_goals go_wp2_with fail
        all_goals refine bodyPost_ret (v:=.tuple #[.agg #[.int .i64 (q:Nat),.int .i64 (C:Nat)],.bool false]) (by simp [results,Tryz.results162,go_sem, *]) rfl ?_
        all_goals exact ⟨⟨_,by rw [HEQ.out]⟩,HFN.out _ _⟩
      · have hq2:((q:Int) == (R:Int)) = false:=by
          rw [beq_eq_false_iff_ne]
          omega
        clear hqR
        go_wp2
        go_region
        all_goals go_wp2_with fail
        all_goals refine bodyPost_ret (v:=.tuple #[.agg #[.int .i64 (q:Nat),.int .i64 (C:Nat)],.bool true]) (by simp [results,Tryz.results162,go_sem, *]) rfl ?_
        all_goals exact ⟨⟨_,by rw [HEQ.out]⟩,HFN.out _ _⟩
set_option maxRecDepth 100000 in
set_option maxHeartbeats 3200000 in
theorem HG.move107 {s:List UInt8} {g:Nat} {p:Option Addr} {tl:Bool} {eo:Int} {rs:List RW} {x:GD} {w:World} (h:HG [] s g p tl eo rs x w) {pr pc:Int} {R C:Nat} (hs:Sett (rs.map Prod.fst) pr pc R C) (k:Nat) (h1:1 ≤ k) (h4:k ≤ 400) :
    Calls Tryz.prog 162 #[.agg #[.pointer p,.bool tl,.int .i64 eo],.pointer none,.agg #[.int .i64 pr,.int .i64 pc],.int .i64 107,.int .i64 (k:Nat)] w fun en w' => (∃ b,en = .returned (.tuple #[.agg #[.int .i64 (itF (bwd (rs.map Prod.fst)) k R:Nat),.int .i64 (C:Nat)],.bool b])) ∧ Fr [] w w':=by
  obtain ⟨W1,hW1⟩:∃ W1,W1 = ((w.alloc (.cells #[.pointer p,.bool tl,.int .i64 eo] TGr)).alloc (.cells #[.int .i64 pr,.int .i64 pc] 45)).alloc (.cells #[.int .i64 0,.int .i64 0] 45):=⟨_,rfl⟩
  obtain ⟨GB,hGB⟩:∃ GB,GB = w.heap.size:=⟨_,rfl⟩
  obtain ⟨PB,hPB⟩:∃ PB,PB = w.heap.size + 1:=⟨_,rfl⟩
  obtain ⟨RB,hRB⟩:∃ RB,RB = w.heap.size + 1 + 1:=⟨_,rfl⟩
  have HF:Hid (Fr [] w W1 ∧ Blk W1 GB TGr #[.pointer p,.bool tl,.int .i64 eo] ∧ Blk W1 PB 45 #[.int .i64 pr,.int .i64 pc] ∧ Blk W1 RB 45 #[.int .i64 0,.int .i64 0]):=by
    have b2:=Blk.new (w.alloc (.cells #[.pointer p,.bool tl,.int .i64 eo] TGr)) 45 #[.int .i64 pr,.int .i64 pc]
    have b3:=Blk.new ((w.alloc (.cells #[.pointer p,.bool tl,.int .i64 eo] TGr)).alloc (.cells #[.int .i64 pr,.int .i64 pc] 45)) 45 #[.int .i64 0,.int .i64 0]
    simp only [World.size_alloc] at b2 b3
    rw [hW1,hGB,hPB,hRB]
    exact ⟨(((Fr.refl [] w).alloc _).alloc _).alloc _,((Blk.new w _ _).alloc _).alloc _,b2.alloc _,b3⟩
  have HNB:Hid (GB = w.heap.size ∧ PB = w.heap.size + 1 ∧ RB = w.heap.size + 1 + 1):=⟨hGB,hPB,hRB⟩
  have HH:=Lib.hid h
  have HST:=Lib.hid ((h.fr0 HF.out.1).settle hs)
  have HSR:=Lib.hid hs.set_
  have HK:Hid (1 ≤ k ∧ k ≤ 400):=⟨h1,h4⟩
  have k1:¬ (k:Int) < 1:=by omega
  have k2:¬ (9999:Int) < (k:Int):=by omega
  have HW1:=Lib.hid hW1
  clear h hs hW1 h1 h4
  go_enter Tryz.func162,Tryz.ntmps162
  go_wp2_with fail
  rw [← HW1.out,← hRB,← hPB,← hGB]
  clear hRB hPB hGB
  have g0:W1.cell? ⟨GB,0,none⟩ = some (.pointer p):=HF.out.2.1.cell 0
  have g1:W1.cell? ⟨GB,1,none⟩ = some (.bool tl):=HF.out.2.1.cell 1
  have g2:W1.cell? ⟨GB,2,none⟩ = some (.int .i64 eo):=HF.out.2.1.cell 2
  have p0:W1.cell? ⟨PB,0,none⟩ = some (.int .i64 pr):=HF.out.2.2.1.cell 0
  have p1:W1.cell? ⟨PB,1,none⟩ = some (.int .i64 pc):=HF.out.2.2.1.cell 1
  go_wp2_with fail
  refine HST.out.mono ?_
  rintro en w2 ⟨rfl,hf2⟩
  have hb2:=HF.out.2.2.1.fr hf2 (by simp)
  have hg2:=HF.out.2.1.fr hf2 (by simp)
  have hr2:=HF.out.2.2.2.fr hf2 (by simp)
  have g0:w2.cell? ⟨GB,0,none⟩ = some (.pointer p):=hg2.cell 0
  have g1:w2.cell? ⟨GB,1,none⟩ = some (.bool tl):=hg2.cell 1
  have g2:w2.cell? ⟨GB,2,none⟩ = some (.int .i64 eo):=hg2.cell 2
  have p0:w2.cell? ⟨PB,0,none⟩ = some (.int .i64 pr):=hb2.cell 0
  have p1:w2.cell? ⟨PB,1,none⟩ = some (.int .i64 pc):=hb2.cell 1
  have y0:=hb2.frozen 0
  have y1:=hb2.frozen 1
  have lp:=hb2.lt
  have n1:¬ GB = PB:=by have:=HNB.out; omega
  obtain ⟨W3,hW3⟩:∃ W3,W3 = (w2.setCell ⟨PB,0,none⟩ (.int .i64 (R:Nat))).setCell ⟨PB,1,none⟩ (.int .i64 (C:Nat)):=⟨_,rfl⟩
  have HE3:Hid (Blk W3 PB 45 #[.int .i64 (R:Nat),.int .i64 (C:Nat)] ∧ Blk W3 RB 45 #[.int .i64 0,.int .i64 0] ∧ Fr [] w W3):=by
    have hn:=HNB.out
    rw [hW3]
    exact ⟨by simpa using (hb2.set_ 0 (.int .i64 (R:Nat))).set_ 1 (.int .i64 (C:Nat)),(hr2.far (fun e => by have e:RB = PB:=e; omega) _).far (fun e => by have e:RB = PB:=e; omega) _,((HF.out.1.trans hf2).setB (fun h => absurd h (by have h:PB < w.heap.size:=h; omega)) _ _).setB (fun h => absurd h (by have h:PB < w.heap.size:=h; omega)) _ _⟩
  clear hf2 hb2 hg2 hr2
  go_wp2_with fail
  rw [← hW3]
  clear hW3 g0 g1 g2 p0 p1 y0 y1 lp n1
  refine (steps107_any W3 p tl eo).mono ?_
  rintro en w4 ⟨SB,rfl,hsb,hsl,hf4⟩
  have HSB:Hid (Blk w4 SB TGr #[.pointer p,.bool tl,.int .i64 eo] ∧ Fr [] w w4 ∧ Blk w4 PB 45 #[.int .i64 (R:Nat),.int .i64 (C:Nat)] ∧ Blk w4 RB 45 #[.int .i64 0,.int .i64 0]):=⟨hsb,HE3.out.2.2.trans hf4,HE3.out.1.fr hf4 (by simp),HE3.out.2.1.fr hf4 (by simp)⟩
  clear hsb hsl hf4 HE3 HST
  obtain ⟨FV,hFV⟩:∃ FV,FV = Value.func (.func 222) #[] #[.pointer (some ⟨SB,0,none⟩)]:=⟨_,rfl⟩
  obtain ⟨W5,hW5⟩:∃ W5,W5 = (w4.alloc (.cells #[FV] 274)).alloc (.cells #[.int .i64 (R:Nat),.int .i64 (C:Nat)] 45):=⟨_,rfl⟩
  obtain ⟨TB,hTB⟩:∃ TB,TB = w4.heap.size:=⟨_,rfl⟩
  obtain ⟨QB,hQB⟩:∃ QB,QB = w4.heap.size + 1:=⟨_,rfl⟩
  have HE5:Hid (Fr [] w W5 ∧ Blk W5 SB TGr #[.pointer p,.bool tl,.int .i64 eo] ∧ Blk W5 PB 45 #[.int .i64 (R:Nat),.int .i64 (C:Nat)] ∧ Blk W5 RB 45 #[.int .i64 0,.int .i64 0] ∧ Blk W5 TB 274 #[FV] ∧ Blk W5 QB 45 #[.int .i64 (R:Nat),.int .i64 (C:Nat)]):=by
    have b1:=Blk.new (w4.alloc (.cells #[FV] 274)) 45 #[.int .i64 (R:Nat),.int .i64 (C:Nat)]
    simp only [World.size_alloc] at b1
    rw [hW5,hTB,hQB]
    exact ⟨(HSB.out.2.1.alloc _).alloc _,(HSB.out.1.alloc _).alloc _,(HSB.out.2.2.1.alloc _).alloc _,(HSB.out.2.2.2.alloc _).alloc _,(Blk.new w4 _ _).alloc _,b1⟩
  have HFVH:=Lib.hid hFV
  have HQN:Hid (w.heap.size ≤ QB ∧ QB ≠ PB ∧ QB ≠ RB ∧ QB ≠ TB ∧ QB ≠ SB ∧ PB ≠ RB):=by
    have h1:=HSB.out.2.1.size
    have h2:=HSB.out.2.2.1.lt
    have h3:=HSB.out.2.2.2.lt
    have h4:=HSB.out.1.lt
    have h5:=HNB.out
    exact ⟨by omega,by omega,by omega,by omega,by omega,by omega⟩
  have p0:(w4.alloc (.cells #[FV] 274)).cell? ⟨PB,0,none⟩ = some (.int .i64 (R:Nat)):=(HSB.out.2.2.1.alloc _).cell 0
  have p1:(w4.alloc (.cells #[FV] 274)).cell? ⟨PB,1,none⟩ = some (.int .i64 (C:Nat)):=(HSB.out.2.2.1.alloc _).cell 1
  rw [hFV] at p0 p1 hW5
  clear hFV
  go_wp2_with fail
  rw [← hW5,← hQB,← hTB]
  clear hW5 hQB hTB p0 p1
  have HFW:Hid (∀ w',Fr [some QB] W5 w' → Fr [] w w'):=by
    show ∀ _,_
    intro w' hf
    exact HE5.out.1.seq hf fun z hz => by rw [List.mem_singleton] at hz; exact .inr (.inr ⟨QB,HQN.out.1,hz⟩)
  have HCL:Hid (∀ w' (q:Nat),Fr [some QB] W5 w' → SetR (rs.map Prod.fst) q → Calls Tryz.prog 222 #[.agg #[.int .i64 (q:Nat),.int .i64 (C:Nat)],.pointer (some ⟨SB,0,none⟩)] w' fun en w'' => en = .returned (.agg #[.int .i64 (bwd (rs.map Prod.fst) q:Nat),.int .i64 (C:Nat)]) ∧ Fr [] w' w''):=by
    show ∀ _,_
    intro w' q hf hq
    exact (HH.out.fr0 (HFW.out w' hf)).clos2 SB q C (HE5.out.2.1.fr hf (by have:=HQN.out; simp; omega)) hq
  have HCE:Hid (∀ w',Fr [some QB] W5 w' → w'.cell? ⟨TB,0,none⟩ = some (.func (.func 222) #[] #[.pointer (some ⟨SB,0,none⟩)]) ∧ w'.cell? ⟨PB,0,none⟩ = some (.int .i64 (R:Nat)) ∧ w'.cell? ⟨PB,1,none⟩ = some (.int .i64 (C:Nat)) ∧ w'.cell? ⟨RB,0,none⟩ = some (.int .i64 0) ∧ w'.cell? ⟨RB,1,none⟩ = some (.int .i64 0) ∧ w'.frozen? ⟨RB,0,none⟩ = false ∧ w'.frozen? ⟨RB,1,none⟩ = false ∧ RB < w'.heap.size):=by
    show ∀ _,_
    intro w' hf
    have hn:=HQN.out
    have e1:=HE5.out.2.2.1.fr hf (by simp; omega)
    have e2:=HE5.out.2.2.2.1.fr hf (by simp; omega)
    have e3:=HE5.out.2.2.2.2.1.fr hf (by simp; omega)
    exact ⟨by rw [← HFVH.out]; exact e3.cell 0,e1.cell 0,e1.cell 1,e2.cell 0,e2.cell 1,e2.frozen 0,e2.frozen 1,e2.lt⟩
  have HFIN:Hid (∀ w' v0 v1,Fr [some QB] W5 w' → Fr [] w ((w'.setCell ⟨RB,0,none⟩ v0).setCell ⟨RB,1,none⟩ v1)):=by
    show ∀ _,_
    intro w' v0 v1 hf
    exact ((HFW.out w' hf).setB (fun h => absurd h (by have h:RB < w.heap.size:=h; have:=HNB.out; omega)) _ _).setB (fun h => absurd h (by have h:RB < w.heap.size:=h; have:=HNB.out; omega)) _ _
  have n5:¬ QB = RB:=HQN.out.2.2.1
  have n6:¬ PB = RB:=HQN.out.2.2.2.2.2
  have n7:¬ RB = QB:=fun e => n5 e.symm
  go_loopg [15] k (fun kk iv wr => ∃ (j q:Nat),kk = j ∧ iv = .int .i64 j ∧ j ≤ k ∧ Hid (SetR (rs.map Prod.fst) q ∧ itF (bwd (rs.map Prod.fst)) j q = itF (bwd (rs.map Prod.fst)) k R ∧ Blk wr QB 45 #[.int .i64 (q:Nat),.int .i64 (C:Nat)] ∧ Fr [some QB] W5 wr))
  case atStart => exact ⟨k,R,rfl,rfl,Nat.le_refl _,HSR.out,rfl,HE5.out.2.2.2.2.2,Fr.refl _ _⟩
  case round =>
    obtain ⟨j,q,hkj,rfl,hjk,HI⟩:=hrel
    obtain ⟨t0,p0,p1,r0,r1,z0,z1,lr⟩:=HCE.out wr HI.out.2.2.2
    have q0:wr.cell? ⟨QB,0,none⟩ = some (.int .i64 (q:Nat)):=HI.out.2.2.1.cell 0
    have q1:wr.cell? ⟨QB,1,none⟩ = some (.int .i64 (C:Nat)):=HI.out.2.2.1.cell 1
    by_cases hj:0 < j
    · have hj0:(0:Int) < (j:Int):=by omega
      have hjw:IntKind.i64.wrap ((j:Int) - 1) = ((j - 1:Nat):Int):=by rw [IntWalk.i64_in _ (by have:=HK.out; omega)]; omega
      have HST:=Lib.hid (HCL.out wr q HI.out.2.2.2 HI.out.1)
      obtain ⟨S,hS⟩:∃ S,S = bwd (rs.map Prod.fst) q:=⟨_,rfl⟩
      rw [← hS] at HST
      have HS:Hid (S = bwd (rs.map Prod.fst) q ∧ 0 < j ∧ j ≤ k):=⟨hS,hj,hjk⟩
      clear hS hj hjk p0 p1 r0 r1 z0 z1 lr
      go_wp2_with fail
      refine HST.out.mono ?_
      rintro en w7 ⟨rfl,hf7⟩
      have HB7:=Lib.hid (HI.out.2.2.1.fr hf7 (by simp))
      have HF7:=Lib.hid (HI.out.2.2.2.trans hf7.of_nil)
      clear hf7 q0 q1 t0 HST
      obtain ⟨w8,hw8⟩:∃ w8,w8 = w7.alloc (.cells #[.int .i64 (S:Nat),.int .i64 (C:Nat)] 45):=⟨_,rfl⟩
      have hb8:Blk w8 QB 45 #[.int .i64 (q:Nat),.int .i64 (C:Nat)]:=by rw [hw8]; exact HB7.out.alloc _
      have HF8:Hid (Fr [some QB] W5 w8):=by show Fr _ _ _; rw [hw8]; exact HF7.out.alloc _
      have q0:w8.cell? ⟨QB,0,none⟩ = some (.int .i64 (q:Nat)):=hb8.cell 0
      have q1:w8.cell? ⟨QB,1,none⟩ = some (.int .i64 (C:Nat)):=hb8.cell 1
      have y0:=hb8.frozen 0
      have y1:=hb8.frozen 1
      have lq:=hb8.lt
      have HB8:=Lib.hid hb8
      have o0:w8.cell? ⟨w7.heap.size,0,none⟩ = some (.int .i64 (S:Nat)):=by rw [hw8]; exact (Blk.new w7 45 #[.int .i64 (S:Nat),.int .i64 (C:Nat)]).cell 0
      have o1:w8.cell? ⟨w7.heap.size,1,none⟩ = some (.int .i64 (C:Nat)):=by rw [hw8]; exact (Blk.new w7 45 #[.int .i64 (S:Nat),.int .i64 (C:Nat)]).cell 1
      rw [hw8] at q0 q1 y0 y1 lq o0 o1
      have HW8:=Lib.hid hw8
      clear hb8 hw8
      by_cases hSq:S = q
      · have hq1:((S:Int) == (q:Int)) = true:=by simp [hSq]
        have HEQ:Hid (itF (bwd (rs.map Prod.fst)) k R = q):=by
          show _ = _
          rw [← HI.out.2.1]
          exact itF_fix (by rw [← HS.out.1]; exact hSq) j
        clear hSq
        obtain ⟨_,p0,p1,r0,r1,z0,z1,lr⟩:=HCE.out w8 HF8.out
        have HFN:=Lib.hid (fun v0 v1 => (HFIN.out w8 v0 v1 HF8.out).drew)
        rw [HW8.out] at p0 p1 r0 r1 z0 z1 lr HFN
        clear y0 y1 lq
        by_cases hqR:q = R
        · have hq2:((q:Int) == (R:Int)) = true:=by simp [hqR]
          clear hqR
          go_wp2
          go_region
          all_goals go_wp2_with fail
          all_goals refine bodyPost_ret (v:=.tuple #[.agg #[.int .i64 (q:Nat),.int .i64 (C:Nat)],.bool false]) (by simp [results,Tryz.results162,go_sem, *]) rfl ?_
          all_goals exact ⟨⟨_,by rw [HEQ.out]⟩,HFN.out _ _⟩
        · have hq2:((q:Int) == (R:Int)) = false:=by
            rw [beq_eq_false_iff_ne]
            omega
          clear hqR
          go_wp2
          go_region
          all_goals go_wp2_with fail
          all_goals refine bodyPost_ret (v:=.tuple #[.agg #[.int .i64 (q:Nat),.int .i64 (C:Nat)],.bool true]) (by simp [results,Tryz.results162,go_sem, *]) rfl ?_
          all_goals exact ⟨⟨_,by rw [HEQ.out]⟩,HFN.out _ _⟩
      · have hq1:((S:Int) == (q:Int)) = false:=by
          rw [beq_eq_false_iff_ne]
          omega
        clear hSq
        have HNX:Hid (SetR (rs.map Prod.fst) S ∧ itF (bwd (rs.map Prod.fst)) (j - 1) S = itF (bwd (rs.map Prod.fst)) k R ∧ Blk ((w8.setCell ⟨QB,0,none⟩ (.int .i64 (S:Nat))).setCell ⟨QB,1,none⟩ (.int .i64 (C:Nat))) QB 45 #[.int .i64 (S:Nat),.int .i64 (C:Nat)] ∧ Fr [some QB] W5 ((w8.setCell ⟨QB,0,none⟩ (.int .i64 (S:Nat))).setCell ⟨QB,1,none⟩ (.int .i64 (C:Nat)))):=by
          obtain ⟨e1,e2,e3⟩:=HS.out
          refine ⟨by rw [e1]; exact bwd_set HI.out.1,?_,by simpa using (HB8.out.set_ 0 (.int .i64 (S:Nat))).set_ 1 (.int .i64 (C:Nat)),(HF8.out.setB (fun _ => by simp) _ _).setB (fun _ => by simp) _ _⟩
          rw [← HI.out.2.1,show j = (j - 1) + 1 by omega,Nat.add_sub_cancel,e1]
          rfl
        rw [HW8.out] at HNX
        go_wp2_with fail
        go_roundg (j - 1)
        case rel => exact ⟨j - 1,S,rfl,rfl,by have:=HS.out; omega,HNX.out⟩
        case measure => have:=HS.out; omega
    · obtain rfl:j = 0:=by omega
      have HEQ:Hid (itF (bwd (rs.map Prod.fst)) k R = q):=HI.out.2.1.symm
      have HFN:=Lib.hid (fun v0 v1 => (HFIN.out wr v0 v1 HI.out.2.2.2).drew)
      clear hj hjk t0 HCL HK
      by_cases hqR:q = R
      · have hq2:((q:Int) == (R:Int)) = true:=by simp [hqR]
        clear hqR
        go_wp2
        go_region
        all_goals go_wp2_with fail
        all_goals refine bodyPost_ret (v:=.tuple #[.agg #[.int .i64 (q:Nat),.int .i64 (C:Nat)],.bool false]) (by simp [results,Tryz.results162,go_sem, *]) rfl ?_
        all_goals exact ⟨⟨_,by rw [HEQ.out]⟩,HFN.out _ _⟩
      · have hq2:((q:Int) == (R:Int)) = false:=by
          rw [beq_eq_false_iff_ne]
          omega
        clear hqR
        go_wp2
        go_region
        all_goals go_wp2_with fail
        all_goals refine bodyPost_ret (v:=.tuple #[.agg #[.int .i64 (q:Nat),.int .i64 (C:Nat)],.bool true]) (by simp [results,Tryz.results162,go_sem, *]) rfl ?_
        all_goals exact ⟨⟨_,by rw [HEQ.out]⟩,HFN.out _ _⟩
end Go.Proofs.YtblafakafgediaaGreat
