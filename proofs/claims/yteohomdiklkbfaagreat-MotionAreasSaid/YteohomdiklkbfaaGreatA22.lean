import Derived.Test.YteohomdiklkbfaaGreatA17
import Derived.Test.YteohomdiklkbfaaGreatA21
namespace Go.Proofs.Dm
end Go.Proofs.Dm
namespace Go.Proofs.YteohomdiklkbfaaGreat
open Go.RowKit Go.Proofs.Dm

theorem glen_any (E:List (Option Nat)) (p:Option Addr) (xs:List RV) (tl:Bool) (e:Int) (w:World) (ht:TreeAt TN E w p xs) :
    Calls Tryz.prog 27 #[.agg #[.pointer p,.bool tl,.int .i64 e]] w fun en w' => en = .returned (.int .i64 (xs.length:Nat)) ∧ Fr [] w w':=by
  have HL:Hid (∀ w',Fr [] w w' → Calls Tryz.prog 49 #[.agg #[.pointer p]] w' fun en w'' => en = .returned (.int .i64 (xs.length:Nat)) ∧ Fr [] w' w''):=by
    show ∀ _,_
    intro w' hf
    exact len_any E p xs w' (ht.fr0 hf)
  have HF:Hid (Fr [] w (w.alloc (.cells #[.pointer p,.bool tl,.int .i64 e] TGr))):=(Fr.refl [] w).alloc _
  clear ht
  go_enter Tryz.func27,Tryz.ntmps27
  go_wp2_with fail
  refine (HL.out _ HF.out).mono ?_
  rintro en w1 ⟨rfl,hf⟩
  have HF1:=Lib.hid (HF.out.trans hf)
  clear hf
  go_wp2_with fail
  go_ret
  exact ⟨rfl,HF1.out⟩
set_option maxHeartbeats 800000 in
theorem stretch_all (E:List (Option Nat)) (p:Option Addr) (xs:List RV) (w:World) (ht:TreeAt TN E w p xs) (hn:xs.length ≤ 100000) :
    Calls Tryz.prog 76 #[.agg #[.pointer p],.int .i64 0,.int .i64 (xs.length:Nat)] w fun en w' => en = .returned (.tuple #[.int .i64 0,.int .i64 (xs.length:Nat)]) ∧ Fr [] w w':=by
  obtain ⟨n,hnn⟩:∃ n,n = xs.length:=⟨_,rfl⟩
  have HL:Hid (∀ w',Fr [] w w' → Calls Tryz.prog 49 #[.agg #[.pointer p]] w' fun en w'' => en = .returned (.int .i64 (n:Nat)) ∧ Fr [] w' w''):=by
    show ∀ _,_
    intro w' hf
    rw [hnn]
    exact len_any E p xs w' (ht.fr0 hf)
  have HF:Hid (Fr [] w (w.alloc (.cells #[.pointer p] 29)) ∧ Blk (w.alloc (.cells #[.pointer p] 29)) w.heap.size 29 #[.pointer p]):=⟨(Fr.refl [] w).alloc _,Blk.new w _ _⟩
  have n1:(0:Int) ≤ (n:Int):=by omega
  rw [← hnn]
  clear ht hn hnn
  go_enter Tryz.func76,Tryz.ntmps76
  go_wp2_with fail
  refine (HL.out _ HF.out.1).mono ?_
  rintro en w1 ⟨rfl,hf⟩
  have HF1:=Lib.hid (HF.out.1.trans hf)
  have c0:w1.cell? ⟨w.heap.size,0,none⟩ = some (.pointer p):=(HF.out.2.fr hf (by simp)).cell 0
  clear hf
  go_wp2_with fail
  refine (HL.out _ HF1.out).mono ?_
  rintro en w2 ⟨rfl,hf⟩
  have HF2:=Lib.hid (HF1.out.trans hf)
  clear hf
  go_wp2_with fail
  refine bodyPost_ret (v:=.tuple #[.int .i64 0,.int .i64 (n:Nat)]) (by simp [results,Tryz.results76,go_sem]) rfl ⟨rfl,HF2.out⟩
theorem allR_at (xs:List RV) (n:Nat) (pre:List (Nat × RV)) (a:Nat) (r:RV) (h:pre ++ [(a,r)] <+: allR xs 0 n):a = pre.length ∧ pre.length < n ∧ r = xs.getD a RV.none:=by
  obtain ⟨t,ht⟩:=h
  have hl:(allR xs 0 n).length = n:=by rw [allR_len]; omega
  have h1:(allR xs 0 n)[pre.length]? = some (a,r):=by rw [← ht]; simp
  have h2:pre.length < n:=by
    rcases Nat.lt_or_ge pre.length n with h | h
    · exact h
    · rw [List.getElem?_eq_none (by omega)] at h1; cases h1
  unfold allR at h1
  rw [List.getElem?_map,List.getElem?_range' (by omega)] at h1
  simp only [Option.map_some,Option.some.injEq,Prod.mk.injEq] at h1
  obtain ⟨h3,h4⟩:=h1
  refine ⟨by omega,h2,?_⟩
  rw [← h4,← h3]
end Go.Proofs.YteohomdiklkbfaaGreat
namespace Go.Proofs.Dm
open Go.RowKit
section
variable {P:Program} {l n:Nat} {o:Oper} {a:Act} {w w':World} {K:Act → World → Prop} {Q:Exit → Act → World → Prop}
theorem wpIn_call (hd:∀ c,o.op ≠ .defer c) {f:FuncId} {vs:Array Value} (hr:(execOp a.eval o).run P w = .ok (.enter f vs) w) {R:Ending → World → Prop} (hc:Calls P f vs w R) (hv:∀ e w',R e w' → ∃ v,e = .returned v)
    (h:∀ v w',R (.returned v) w' → K (a.put o.dst v) w'):o.wpIn (Fence.wide.inRound l) n P a w K Q:=by
  refine ⟨fun _ _ => trivial,?_⟩
  rw [show (o.semAt (Fence.wide.inRound l).round a.eval) = execOp a.eval o from Oper.semAt_some l _ _ hd,hr,Oper.uponIn_enter]
  refine ⟨fun h => by simp [Fence.inRound,Fence.wide] at h,?_⟩
  refine CallsIn.inRound l ((callsIn_wide.2 hc).mono fun e w' hr => ?_)
  obtain ⟨v,rfl⟩:=hv e w' hr
  exact h v w' hr
end
end Go.Proofs.Dm
