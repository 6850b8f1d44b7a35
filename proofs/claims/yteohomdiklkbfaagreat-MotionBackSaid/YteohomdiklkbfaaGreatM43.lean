import Derived.Test.YteohomdiklkbfaaGreatM42
import Derived.Test.YteohomdiklkbfaaGreatM41
import Derived.Test.YteohomdiklkbfaaGreatM30
namespace Go.Proofs.YteohomdiklkbfaaGreat
open Go.RowKit Go.Proofs.Dm

section
variable {s:List UInt8} {g:Nat} {p:Option Addr} {tl:Bool} {eo:Int} {rs:List RW} {x:GD} {w:World}
set_option maxRecDepth 100000 in
set_option maxHeartbeats 1600000 in
theorem HG.forth (h:HG [] s g p tl eo rs x w) (R C:Nat) (hR:SetR (rs.map Prod.fst) R) :
    Calls Tryz.prog 66 #[.agg #[.pointer p,.bool tl,.int .i64 eo],.agg #[.int .i64 (R:Nat),.int .i64 (C:Nat)]] w fun en w' => en = .returned (.agg #[.int .i64 (fwd (rs.map Prod.fst) R:Nat),.int .i64 (C:Nat)]) ∧ Fr [] w w':=by
  have hx:=h.xn
  obtain ⟨n,hn⟩:∃ n,n = rs.length:=⟨_,rfl⟩
  have hRn:R ≤ n:=by have:=hR.le; omega
  have hn4:n ≤ 400:=by omega
  obtain ⟨r,hr⟩:∃ r:Int,r = nextP (rs.map Prod.fst) (R + 1):=⟨_,rfl⟩
  obtain ⟨S,hS⟩:∃ S,S = fwd (rs.map Prod.fst) R:=⟨_,rfl⟩
  rw [← hS]
  have HS:Hid ((0 ≤ r ∧ (S:Int) = r ∧ (R:Int) + 1 < (n:Int)) ∨ (r < 0 ∧ S = R)):=by
    rcases next_cases (rs.map Prod.fst) (R + 1) with ⟨h1,_⟩ | ⟨k,h1,h2,h3,_⟩
    · exact .inr ⟨by omega,by rw [hS]; unfold fwd; rw [h1,if_neg (by omega)]⟩
    · refine .inl ⟨by omega,?_,by omega⟩
      rw [hS]
      unfold fwd
      rw [h1,if_pos (by omega)]
      omega
  have HNX:Hid (∀ w',Fr [] w w' → Calls Tryz.prog 34 #[.agg #[.pointer p,.bool tl,.int .i64 eo],.int .i64 ((R:Int) + 1)] w' fun en w'' => en = .returned (.int .i64 r) ∧ Fr [] w' w''):=by
    show ∀ _,_
    intro w' hf
    rw [hr]
    exact (by
      rcases Nat.lt_or_ge n (R + 1) with hlt | hge
      · have h1:=below_any w' p tl eo (rs.map Prod.fst) n n ((R:Int) + 1) (h.tr0.fr0 hf) (by omega) (by omega) (.inr (.inr ⟨by omega,rfl⟩))
        rw [next_end _ n (by omega),← next_end (rs.map Prod.fst) (R + 1) (by omega)] at h1
        exact h1
      · exact below_any w' p tl eo (rs.map Prod.fst) n (R + 1) ((R:Int) + 1) (h.tr0.fr0 hf) (by omega) (by omega) (.inr (.inl ⟨by omega,hge⟩)))
  have HLN:Hid (∀ w',Fr [] w w' → Calls Tryz.prog 27 #[.agg #[.pointer p,.bool tl,.int .i64 eo]] w' fun en w'' => en = .returned (.int .i64 (n:Nat)) ∧ Fr [] w' w''):=by
    show ∀ _,_
    intro w' hf
    have:=glen_any [] p (rs.map Prod.fst) tl eo w' (h.tr0.fr0 hf)
    rw [hx.1,← hn] at this
    exact this
  have hw1:IntKind.i64.wrap ((R:Int) + 1) = (R:Int) + 1:=IntWalk.i64_in _ (by omega)
  obtain ⟨W1,hW1⟩:∃ W1,W1 = ((w.alloc (.cells #[.pointer p,.bool tl,.int .i64 eo] TGr)).alloc (.cells #[.int .i64 (R:Nat),.int .i64 (C:Nat)] 43)).alloc (.cells #[.int .i64 0,.int .i64 0] 43):=⟨_,rfl⟩
  obtain ⟨GB,hGB⟩:∃ GB,GB = w.heap.size:=⟨_,rfl⟩
  obtain ⟨PB,hPB⟩:∃ PB,PB = w.heap.size + 1:=⟨_,rfl⟩
  obtain ⟨RB,hRB⟩:∃ RB,RB = w.heap.size + 1 + 1:=⟨_,rfl⟩
  have HF:Hid (Fr [] w W1 ∧ Blk W1 GB TGr #[.pointer p,.bool tl,.int .i64 eo] ∧ Blk W1 PB 43 #[.int .i64 (R:Nat),.int .i64 (C:Nat)] ∧ Blk W1 RB 43 #[.int .i64 0,.int .i64 0]):=by
    have b2:=Blk.new (w.alloc (.cells #[.pointer p,.bool tl,.int .i64 eo] TGr)) 43 #[.int .i64 (R:Nat),.int .i64 (C:Nat)]
    have b3:=Blk.new ((w.alloc (.cells #[.pointer p,.bool tl,.int .i64 eo] TGr)).alloc (.cells #[.int .i64 (R:Nat),.int .i64 (C:Nat)] 43)) 43 #[.int .i64 0,.int .i64 0]
    simp only [World.size_alloc] at b2 b3
    rw [hW1,hGB,hPB,hRB]
    exact ⟨(((Fr.refl [] w).alloc _).alloc _).alloc _,((Blk.new w _ _).alloc _).alloc _,b2.alloc _,b3⟩
  have HNB:Hid (GB = w.heap.size ∧ PB = w.heap.size + 1 ∧ RB = w.heap.size + 1 + 1):=⟨hGB,hPB,hRB⟩
  have HC:Hid (∀ w',Fr [] W1 w' → w'.cell? ⟨GB,0,none⟩ = some (.pointer p) ∧ w'.cell? ⟨GB,1,none⟩ = some (.bool tl) ∧ w'.cell? ⟨GB,2,none⟩ = some (.int .i64 eo) ∧ w'.cell? ⟨PB,0,none⟩ = some (.int .i64 (R:Nat)) ∧ w'.cell? ⟨PB,1,none⟩ = some (.int .i64 (C:Nat)) ∧ w'.frozen? ⟨PB,0,none⟩ = false ∧ PB < w'.heap.size ∧ w'.cell? ⟨RB,0,none⟩ = some (.int .i64 0) ∧ w'.cell? ⟨RB,1,none⟩ = some (.int .i64 0) ∧ w'.frozen? ⟨RB,0,none⟩ = false ∧ w'.frozen? ⟨RB,1,none⟩ = false ∧ RB < w'.heap.size):=by
    show ∀ _,_
    intro w' hf
    have h1:=HF.out.2.1.fr hf (by simp)
    have h2:=HF.out.2.2.1.fr hf (by simp)
    have h3:=HF.out.2.2.2.fr hf (by simp)
    exact ⟨h1.cell 0,h1.cell 1,h1.cell 2,h2.cell 0,h2.cell 1,h2.frozen 0,h2.lt,h3.cell 0,h3.cell 1,h3.frozen 0,h3.frozen 1,h3.lt⟩
  have HFA:Hid (∀ w2 v0 v1,Fr [] W1 w2 → Fr [] w ((w2.setCell ⟨RB,0,none⟩ v0).setCell ⟨RB,1,none⟩ v1)):=by
    show ∀ _,_
    intro w2 v0 v1 hf
    exact ((HF.out.1.trans hf).setB (fun h => absurd h (by have:=HNB.out; omega)) _ _).setB (fun h => absurd h (by have:=HNB.out; omega)) _ _
  have HFB:Hid (∀ w2 v v0 v1,Fr [] W1 w2 → Fr [] w (((w2.setCell ⟨PB,0,none⟩ v).setCell ⟨RB,0,none⟩ v0).setCell ⟨RB,1,none⟩ v1)):=by
    show ∀ _,_
    intro w2 v v0 v1 hf
    exact (((HF.out.1.trans hf).setB (fun h => absurd h (by have:=HNB.out; omega)) _ _).setB (fun h => absurd h (by have:=HNB.out; omega)) _ _).setB (fun h => absurd h (by have:=HNB.out; omega)) _ _
  have n3:¬ PB = RB:=by omega
  have n4:¬ RB = PB:=by omega
  have HW1:=Lib.hid hW1
  clear h hR hr hS hW1 hx hn
  go_enter Tryz.func66,Tryz.ntmps66
  go_wp2_with fail
  rw [← HW1.out,← hRB,← hPB,← hGB]
  clear hRB hPB hGB
  obtain ⟨g0,g1,g2,p0,p1,y0,lp,r0,r1,z0,z1,lr⟩:=HC.out W1 (Fr.refl _ _)
  clear r0 r1 z0 z1 lr y0 lp
  go_wp2_with fail
  refine (HNX.out W1 HF.out.1).mono ?_
  rintro en w2 ⟨rfl,hf2⟩
  have HF2:=Lib.hid hf2
  clear hf2 g0 g1 g2 p0 p1
  obtain ⟨g0,g1,g2,p0,p1,y0,lp,r0,r1,z0,z1,lr⟩:=HC.out w2 HF2.out
  rcases HS.out with ⟨hr0,hSr,hc⟩ | ⟨hr0,hSR⟩
  · have HSr:=Lib.hid hSr
    have hd:decide (0 ≤ r) = true:=decide_eq_true hr0
    clear hSr
    go_wp2
    go_region_held3 (fun w' => w'.cell? ⟨GB,0,none⟩ = some (.pointer p) ∧ w'.cell? ⟨GB,1,none⟩ = some (.bool tl) ∧ w'.cell? ⟨GB,2,none⟩ = some (.int .i64 eo) ∧ w'.cell? ⟨PB,0,none⟩ = some (.int .i64 (R:Nat))) (go_keep) ((first
      | (go_at_call 27; go_must (
           refine (HLN.out _ (HF.out.1.trans HF2.out.drew)).mono ?_
           rintro e w3 ⟨rfl,hf3⟩
           have HF3:=Lib.hid (HF2.out.drew.trans hf3)
           obtain ⟨g0',g1',g2',p0',p1',y0',lp',r0',r1',z0',z1',lr'⟩:=HC.out w3 HF3.out
           clear hf3))))
    all_goals go_wp2_with fail
    refine bodyPost_ret (v:=.agg #[.int .i64 r,.int .i64 (C:Nat)]) (by simp [results,Tryz.results66,go_sem, *]) rfl ?_
    exact ⟨by rw [HSr.out],HFB.out _ _ _ _ HF3.out⟩
  · have hd:decide (0 ≤ r) = false:=decide_eq_false (by omega)
    have hr1:¬ 0 ≤ r:=by omega
    have HSR:=Lib.hid hSR
    clear hSR hr0
    go_wp2
    go_region
    go_wp2_with fail
    refine bodyPost_ret (v:=.agg #[.int .i64 (R:Nat),.int .i64 (C:Nat)]) (by simp [results,Tryz.results66,go_sem, *]) rfl ?_
    exact ⟨by rw [HSR.out],(HFA.out _ _ _ HF2.out).drew⟩
set_option maxRecDepth 100000 in
set_option maxHeartbeats 1600000 in
theorem HG.back (h:HG [] s g p tl eo rs x w) (R C:Nat) (hR:SetR (rs.map Prod.fst) R) :
    Calls Tryz.prog 68 #[.agg #[.pointer p,.bool tl,.int .i64 eo],.agg #[.int .i64 (R:Nat),.int .i64 (C:Nat)]] w fun en w' => en = .returned (.agg #[.int .i64 (bwd (rs.map Prod.fst) R:Nat),.int .i64 (C:Nat)]) ∧ Fr [] w w':=by
  have hx:=h.xn
  obtain ⟨n,hn⟩:∃ n,n = rs.length:=⟨_,rfl⟩
  have hRn:R ≤ n:=by have:=hR.le; omega
  have hn4:n ≤ 400:=by omega
  obtain ⟨r,hr⟩:∃ r:Int,r = prevP (rs.map Prod.fst) R:=⟨_,rfl⟩
  obtain ⟨S,hS⟩:∃ S,S = bwd (rs.map Prod.fst) R:=⟨_,rfl⟩
  rw [← hS]
  have HS:Hid ((0 ≤ r ∧ (S:Int) = r ∧ (0:Int) < (R:Int)) ∨ (r < 0 ∧ S = R)):=by
    rcases prev_cases (rs.map Prod.fst) R (by omega) with ⟨h1,_⟩ | ⟨k,h1,h3,_⟩
    · exact .inr ⟨by omega,by rw [hS]; unfold bwd; rw [h1,if_neg (by omega)]⟩
    · refine .inl ⟨by omega,?_,?_⟩
      · rw [hS]
        unfold bwd
        rw [h1,if_pos (by omega)]
        omega
      · rcases Nat.eq_zero_or_pos R with h0 | h0
        · rw [h0,prev_zero] at h1; omega
        · omega
  have HNX:Hid (∀ w',Fr [] w w' → Calls Tryz.prog 35 #[.agg #[.pointer p,.bool tl,.int .i64 eo],.int .i64 ((R:Int) - 1)] w' fun en w'' => en = .returned (.int .i64 r) ∧ Fr [] w' w''):=by
    show ∀ _,_
    intro w' hf
    rw [hr]
    exact mabove_any w' p tl eo (rs.map Prod.fst) n R ((R:Int) - 1) (R:Int) (h.tr0.fr0 hf) (by omega) (by omega) (by omega) (by unfold EndAt; omega) (IntWalk.i64_in _ (by omega))
  have HLN:Hid (∀ w',Fr [] w w' → Calls Tryz.prog 27 #[.agg #[.pointer p,.bool tl,.int .i64 eo]] w' fun en w'' => en = .returned (.int .i64 (n:Nat)) ∧ Fr [] w' w''):=by
    show ∀ _,_
    intro w' hf
    have:=glen_any [] p (rs.map Prod.fst) tl eo w' (h.tr0.fr0 hf)
    rw [hx.1,← hn] at this
    exact this
  have hw1:IntKind.i64.wrap ((R:Int) - 1) = (R:Int) - 1:=IntWalk.i64_in _ (by omega)
  obtain ⟨W1,hW1⟩:∃ W1,W1 = ((w.alloc (.cells #[.pointer p,.bool tl,.int .i64 eo] TGr)).alloc (.cells #[.int .i64 (R:Nat),.int .i64 (C:Nat)] 43)).alloc (.cells #[.int .i64 0,.int .i64 0] 43):=⟨_,rfl⟩
  obtain ⟨GB,hGB⟩:∃ GB,GB = w.heap.size:=⟨_,rfl⟩
  obtain ⟨PB,hPB⟩:∃ PB,PB = w.heap.size + 1:=⟨_,rfl⟩
  obtain ⟨RB,hRB⟩:∃ RB,RB = w.heap.size + 1 + 1:=⟨_,rfl⟩
  have HF:Hid (Fr [] w W1 ∧ Blk W1 GB TGr #[.pointer p,.bool tl,.int .i64 eo] ∧ Blk W1 PB 43 #[.int .i64 (R:Nat),.int .i64 (C:Nat)] ∧ Blk W1 RB 43 #[.int .i64 0,.int .i64 0]):=by
    have b2:=Blk.new (w.alloc (.cells #[.pointer p,.bool tl,.int .i64 eo] TGr)) 43 #[.int .i64 (R:Nat),.int .i64 (C:Nat)]
    have b3:=Blk.new ((w.alloc (.cells #[.pointer p,.bool tl,.int .i64 eo] TGr)).alloc (.cells #[.int .i64 (R:Nat),.int .i64 (C:Nat)] 43)) 43 #[.int .i64 0,.int .i64 0]
    simp only [World.size_alloc] at b2 b3
    rw [hW1,hGB,hPB,hRB]
    exact ⟨(((Fr.refl [] w).alloc _).alloc _).alloc _,((Blk.new w _ _).alloc _).alloc _,b2.alloc _,b3⟩
  have HNB:Hid (GB = w.heap.size ∧ PB = w.heap.size + 1 ∧ RB = w.heap.size + 1 + 1):=⟨hGB,hPB,hRB⟩
  have HC:Hid (∀ w',Fr [] W1 w' → w'.cell? ⟨GB,0,none⟩ = some (.pointer p) ∧ w'.cell? ⟨GB,1,none⟩ = some (.bool tl) ∧ w'.cell? ⟨GB,2,none⟩ = some (.int .i64 eo) ∧ w'.cell? ⟨PB,0,none⟩ = some (.int .i64 (R:Nat)) ∧ w'.cell? ⟨PB,1,none⟩ = some (.int .i64 (C:Nat)) ∧ w'.frozen? ⟨PB,0,none⟩ = false ∧ PB < w'.heap.size ∧ w'.cell? ⟨RB,0,none⟩ = some (.int .i64 0) ∧ w'.cell? ⟨RB,1,none⟩ = some (.int .i64 0) ∧ w'.frozen? ⟨RB,0,none⟩ = false ∧ w'.frozen? ⟨RB,1,none⟩ = false ∧ RB < w'.heap.size):=by
    show ∀ _,_
    intro w' hf
    have h1:=HF.out.2.1.fr hf (by simp)
    have h2:=HF.out.2.2.1.fr hf (by simp)
    have h3:=HF.out.2.2.2.fr hf (by simp)
    exact ⟨h1.cell 0,h1.cell 1,h1.cell 2,h2.cell 0,h2.cell 1,h2.frozen 0,h2.lt,h3.cell 0,h3.cell 1,h3.frozen 0,h3.frozen 1,h3.lt⟩
  have HFA:Hid (∀ w2 v0 v1,Fr [] W1 w2 → Fr [] w ((w2.setCell ⟨RB,0,none⟩ v0).setCell ⟨RB,1,none⟩ v1)):=by
    show ∀ _,_
    intro w2 v0 v1 hf
    exact ((HF.out.1.trans hf).setB (fun h => absurd h (by have:=HNB.out; omega)) _ _).setB (fun h => absurd h (by have:=HNB.out; omega)) _ _
  have HFB:Hid (∀ w2 v v0 v1,Fr [] W1 w2 → Fr [] w (((w2.setCell ⟨PB,0,none⟩ v).setCell ⟨RB,0,none⟩ v0).setCell ⟨RB,1,none⟩ v1)):=by
    show ∀ _,_
    intro w2 v v0 v1 hf
    exact (((HF.out.1.trans hf).setB (fun h => absurd h (by have:=HNB.out; omega)) _ _).setB (fun h => absurd h (by have:=HNB.out; omega)) _ _).setB (fun h => absurd h (by have:=HNB.out; omega)) _ _
  have n3:¬ PB = RB:=by omega
  have n4:¬ RB = PB:=by omega
  have HW1:=Lib.hid hW1
  clear h hR hr hS hW1 hx hn
  go_enter Tryz.func68,Tryz.ntmps68
  go_wp2_with fail
  rw [← HW1.out,← hRB,← hPB,← hGB]
  clear hRB hPB hGB
  obtain ⟨g0,g1,g2,p0,p1,y0,lp,r0,r1,z0,z1,lr⟩:=HC.out W1 (Fr.refl _ _)
  clear r0 r1 z0 z1 lr y0 lp
  go_wp2_with fail
  refine (HNX.out W1 HF.out.1).mono ?_
  rintro en w2 ⟨rfl,hf2⟩
  have HF2:=Lib.hid hf2
  clear hf2 g0 g1 g2 p0 p1
  obtain ⟨g0,g1,g2,p0,p1,y0,lp,r0,r1,z0,z1,lr⟩:=HC.out w2 HF2.out
  rcases HS.out with ⟨hr0,hSr,hc⟩ | ⟨hr0,hSR⟩
  · have HSr:=Lib.hid hSr
    have hd:decide (0 ≤ r) = true:=decide_eq_true hr0
    clear hSr
    go_wp2_with fail
    refine bodyPost_ret (v:=.agg #[.int .i64 r,.int .i64 (C:Nat)]) (by simp [results,Tryz.results68,go_sem, *]) rfl ?_
    exact ⟨by rw [HSr.out],HFB.out _ _ _ _ HF2.out⟩
  · have hd:decide (0 ≤ r) = false:=decide_eq_false (by omega)
    have hr1:¬ 0 ≤ r:=by omega
    have HSR:=Lib.hid hSR
    clear hSR hr0
    go_wp2_with fail
    refine bodyPost_ret (v:=.agg #[.int .i64 (R:Nat),.int .i64 (C:Nat)]) (by simp [results,Tryz.results68,go_sem, *]) rfl ?_
    exact ⟨by rw [HSR.out],HFA.out _ _ _ HF2.out⟩
end
end Go.Proofs.YteohomdiklkbfaaGreat
namespace Go.Proofs.YteohomdiklkbfaaGreat
open Go.RowKit Go.Proofs.Dm

theorem run_store_func {P:Program} {w:World} {a:Addr} {m:Mode} (f:Fn) (x y:Array Value):(store a (.func f x y) m).run P w = stored P w a (.func f x y) m:=run_store P w a _ m rfl
attribute [local go_sem] run_store_func
def StepsA1 (w:World) (p:Option Addr) (tl:Bool) (eo:Int) (en:Ending) (w':World):Prop :=
  ∃ B:Nat,en = .returned (.agg #[.func (.func 65) #[] #[.pointer (some ⟨B,0,none⟩)]]) ∧ Blk w' B TGr #[.pointer p,.bool tl,.int .i64 eo] ∧ w.heap.size ≤ B ∧ Fr [] w w'
set_option maxHeartbeats 800000 in
theorem steps106_any (w:World) (p:Option Addr) (tl:Bool) (eo:Int):Calls Tryz.prog 36 #[.agg #[.pointer p,.bool tl,.int .i64 eo],.int .i64 106] w (StepsA1 w p tl eo):=by
  go_enter Tryz.func36,Tryz.ntmps36
  go_wp2_with fail
  refine bodyPost_ret (v:=.agg #[.func (.func 65) #[] #[.pointer (some ⟨w.heap.size,0,none⟩)]]) (by simp [results,Tryz.results36,go_sem, *]) rfl ?_
  exact ⟨w.heap.size,rfl,(Blk.new w TGr _).alloc _,Nat.le_refl _,((Fr.refl [] w).alloc _).alloc _⟩
set_option maxHeartbeats 800000 in
theorem HG.clos1 {s:List UInt8} {g:Nat} {p:Option Addr} {tl:Bool} {eo:Int} {rs:List RW} {x:GD} {w:World} (h:HG [] s g p tl eo rs x w) (B R C:Nat) (hb:Blk w B TGr #[.pointer p,.bool tl,.int .i64 eo]) (hR:SetR (rs.map Prod.fst) R) :
    Calls Tryz.prog 65 #[.agg #[.int .i64 (R:Nat),.int .i64 (C:Nat)],.pointer (some ⟨B,0,none⟩)] w fun en w' => en = .returned (.agg #[.int .i64 (fwd (rs.map Prod.fst) R:Nat),.int .i64 (C:Nat)]) ∧ Fr [] w w':=by
  obtain ⟨W1,hW1⟩:∃ W1,W1 = (w.alloc (.cells #[.int .i64 (R:Nat),.int .i64 (C:Nat)] 43)).alloc (.cells #[.int .i64 0,.int .i64 0] 43):=⟨_,rfl⟩
  obtain ⟨PB,hPB⟩:∃ PB,PB = w.heap.size:=⟨_,rfl⟩
  obtain ⟨RB,hRB⟩:∃ RB,RB = w.heap.size + 1:=⟨_,rfl⟩
  have HF:Hid (Fr [] w W1 ∧ Blk W1 B TGr #[.pointer p,.bool tl,.int .i64 eo] ∧ Blk W1 PB 43 #[.int .i64 (R:Nat),.int .i64 (C:Nat)] ∧ Blk W1 RB 43 #[.int .i64 0,.int .i64 0] ∧ RB = w.heap.size + 1):=by
    have b2:=Blk.new (w.alloc (.cells #[.int .i64 (R:Nat),.int .i64 (C:Nat)] 43)) 43 #[.int .i64 0,.int .i64 0]
    simp only [World.size_alloc] at b2
    rw [hW1,hPB,hRB]
    exact ⟨((Fr.refl [] w).alloc _).alloc _,(hb.alloc _).alloc _,(Blk.new w _ _).alloc _,b2,rfl⟩
  have HST:=Lib.hid ((h.fr0 HF.out.1).forth R C hR)
  obtain ⟨S,hS⟩:∃ S,S = fwd (rs.map Prod.fst) R:=⟨_,rfl⟩
  rw [← hS] at HST ⊢
  have g0:W1.cell? ⟨B,0,none⟩ = some (.pointer p):=HF.out.2.1.cell 0
  have g1:W1.cell? ⟨B,1,none⟩ = some (.bool tl):=HF.out.2.1.cell 1
  have g2:W1.cell? ⟨B,2,none⟩ = some (.int .i64 eo):=HF.out.2.1.cell 2
  have p0:W1.cell? ⟨PB,0,none⟩ = some (.int .i64 (R:Nat)):=HF.out.2.2.1.cell 0
  have p1:W1.cell? ⟨PB,1,none⟩ = some (.int .i64 (C:Nat)):=HF.out.2.2.1.cell 1
  rw [hW1] at g0 g1 g2 p0 p1
  rw [hPB] at p0 p1
  have HW1:=Lib.hid hW1
  clear h hb hR hS hW1 hPB
  go_enter Tryz.func65,Tryz.ntmps65
  go_wp2_with fail
  rw [← HW1.out,← hRB]
  clear hRB g0 g1 g2 p0 p1
  refine HST.out.mono ?_
  rintro en w2 ⟨rfl,hf2⟩
  have hb2:=HF.out.2.2.2.1.fr hf2 (by simp)
  have r0:w2.cell? ⟨RB,0,none⟩ = some (.int .i64 0):=hb2.cell 0
  have r1:w2.cell? ⟨RB,1,none⟩ = some (.int .i64 0):=hb2.cell 1
  have z0:=hb2.frozen 0
  have z1:=hb2.frozen 1
  have lr:=hb2.lt
  have HFE:Hid (∀ v0 v1,Fr [] w ((w2.setCell ⟨RB,0,none⟩ v0).setCell ⟨RB,1,none⟩ v1)):=by
    show ∀ _,_
    intro v0 v1
    exact ((HF.out.1.trans hf2).setB (fun h => absurd h (by have:=HF.out.2.2.2.2; omega)) _ _).setB (fun h => absurd h (by have:=HF.out.2.2.2.2; omega)) _ _
  clear hb2 hf2
  go_wp2_with fail
  refine bodyPost_ret (v:=.agg #[.int .i64 (S:Nat),.int .i64 (C:Nat)]) (by simp [results,Tryz.results65,go_sem, *]) rfl ?_
  exact ⟨rfl,HFE.out _ _⟩
def StepsA2 (w:World) (p:Option Addr) (tl:Bool) (eo:Int) (en:Ending) (w':World):Prop :=
  ∃ B:Nat,en = .returned (.agg #[.func (.func 67) #[] #[.pointer (some ⟨B,0,none⟩)]]) ∧ Blk w' B TGr #[.pointer p,.bool tl,.int .i64 eo] ∧ w.heap.size ≤ B ∧ Fr [] w w'
set_option maxHeartbeats 800000 in
theorem steps107_any (w:World) (p:Option Addr) (tl:Bool) (eo:Int):Calls Tryz.prog 36 #[.agg #[.pointer p,.bool tl,.int .i64 eo],.int .i64 107] w (StepsA2 w p tl eo):=by
  go_enter Tryz.func36,Tryz.ntmps36
  go_wp2_with fail
  refine bodyPost_ret (v:=.agg #[.func (.func 67) #[] #[.pointer (some ⟨w.heap.size,0,none⟩)]]) (by simp [results,Tryz.results36,go_sem, *]) rfl ?_
  exact ⟨w.heap.size,rfl,(Blk.new w TGr _).alloc _,Nat.le_refl _,((Fr.refl [] w).alloc _).alloc _⟩
set_option maxHeartbeats 800000 in
theorem HG.clos2 {s:List UInt8} {g:Nat} {p:Option Addr} {tl:Bool} {eo:Int} {rs:List RW} {x:GD} {w:World} (h:HG [] s g p tl eo rs x w) (B R C:Nat) (hb:Blk w B TGr #[.pointer p,.bool tl,.int .i64 eo]) (hR:SetR (rs.map Prod.fst) R) :
    Calls Tryz.prog 67 #[.agg #[.int .i64 (R:Nat),.int .i64 (C:Nat)],.pointer (some ⟨B,0,none⟩)] w fun en w' => en = .returned (.agg #[.int .i64 (bwd (rs.map Prod.fst) R:Nat),.int .i64 (C:Nat)]) ∧ Fr [] w w':=by
  obtain ⟨W1,hW1⟩:∃ W1,W1 = (w.alloc (.cells #[.int .i64 (R:Nat),.int .i64 (C:Nat)] 43)).alloc (.cells #[.int .i64 0,.int .i64 0] 43):=⟨_,rfl⟩
  obtain ⟨PB,hPB⟩:∃ PB,PB = w.heap.size:=⟨_,rfl⟩
  obtain ⟨RB,hRB⟩:∃ RB,RB = w.heap.size + 1:=⟨_,rfl⟩
  have HF:Hid (Fr [] w W1 ∧ Blk W1 B TGr #[.pointer p,.bool tl,.int .i64 eo] ∧ Blk W1 PB 43 #[.int .i64 (R:Nat),.int .i64 (C:Nat)] ∧ Blk W1 RB 43 #[.int .i64 0,.int .i64 0] ∧ RB = w.heap.size + 1):=by
    have b2:=Blk.new (w.alloc (.cells #[.int .i64 (R:Nat),.int .i64 (C:Nat)] 43)) 43 #[.int .i64 0,.int .i64 0]
    simp only [World.size_alloc] at b2
    rw [hW1,hPB,hRB]
    exact ⟨((Fr.refl [] w).alloc _).alloc _,(hb.alloc _).alloc _,(Blk.new w _ _).alloc _,b2,rfl⟩
  have HST:=Lib.hid ((h.fr0 HF.out.1).back R C hR)
  obtain ⟨S,hS⟩:∃ S,S = bwd (rs.map Prod.fst) R:=⟨_,rfl⟩
  rw [← hS] at HST ⊢
  have g0:W1.cell? ⟨B,0,none⟩ = some (.pointer p):=HF.out.2.1.cell 0
  have g1:W1.cell? ⟨B,1,none⟩ = some (.bool tl):=HF.out.2.1.cell 1
  have g2:W1.cell? ⟨B,2,none⟩ = some (.int .i64 eo):=HF.out.2.1.cell 2
  have p0:W1.cell? ⟨PB,0,none⟩ = some (.int .i64 (R:Nat)):=HF.out.2.2.1.cell 0
  have p1:W1.cell? ⟨PB,1,none⟩ = some (.int .i64 (C:Nat)):=HF.out.2.2.1.cell 1
  rw [hW1] at g0 g1 g2 p0 p1
  rw [hPB] at p0 p1
  have HW1:=Lib.hid hW1
  clear h hb hR hS hW1 hPB
  go_enter Tryz.func67,Tryz.ntmps67
  go_wp2_with fail
  rw [← HW1.out,← hRB]
  clear hRB g0 g1 g2 p0 p1
  refine HST.out.mono ?_
  rintro en w2 ⟨rfl,hf2⟩
  have hb2:=HF.out.2.2.2.1.fr hf2 (by simp)
  have r0:w2.cell? ⟨RB,0,none⟩ = some (.int .i64 0):=hb2.cell 0
  have r1:w2.cell? ⟨RB,1,none⟩ = some (.int .i64 0):=hb2.cell 1
  have z0:=hb2.frozen 0
  have z1:=hb2.frozen 1
  have lr:=hb2.lt
  have HFE:Hid (∀ v0 v1,Fr [] w ((w2.setCell ⟨RB,0,none⟩ v0).setCell ⟨RB,1,none⟩ v1)):=by
    show ∀ _,_
    intro v0 v1
    exact ((HF.out.1.trans hf2).setB (fun h => absurd h (by have:=HF.out.2.2.2.2; omega)) _ _).setB (fun h => absurd h (by have:=HF.out.2.2.2.2; omega)) _ _
  clear hb2 hf2
  go_wp2_with fail
  refine bodyPost_ret (v:=.agg #[.int .i64 (S:Nat),.int .i64 (C:Nat)]) (by simp [results,Tryz.results67,go_sem, *]) rfl ?_
  exact ⟨rfl,HFE.out _ _⟩
end Go.Proofs.YteohomdiklkbfaaGreat
namespace Go.Proofs.YteohomdiklkbfaaGreat
open Go.RowKit Go.Proofs.Dm
attribute [local go_sem] run_store_func
theorem run_eql_func_nil (w:World) (f:Fn) (x y:Array Value):(binOp .eql 97 (.func f x y) .nilFunc).run Tryz.prog w = .ok (.bool false) w:=by
  have h:∀ d:Nat,(Op.equalIn (d + 1) 97 (.func f x y) .nilFunc).run Tryz.prog w = .ok false w:=fun d => by simp [Op.equalIn,run_underlying Tryz.underlying97]
  simp only [binOp]
  simp [Op.equal,Op.maxDepth,h 9999]
attribute [local go_sem] run_eql_func_nil

end Go.Proofs.YteohomdiklkbfaaGreat
