import Derived.Test.YtblafakafgediaaGreatF40
import Derived.BigRegion
import Derived.Test.YtblafakafgediaaGreatF43
import Derived.Test.YtblafakafgediaaGreatF32
namespace Go.Proofs.YtblafakafgediaaGreat
open Go.RowKit Go.Proofs.Dm

def RightV (t l h x:Int):Prop:=1 ≤ h ∧ h ≤ 400 ∧ 1 ≤ x ∧ x ≤ 40 ∧ 0 ≤ t ∧ t ≤ 1099511627776 ∧ 0 ≤ l ∧ l ≤ 1099511627776
instance (t l h x:Int):Decidable (RightV t l h x):=by unfold RightV; infer_instance
theorem of_firstV {t l h x:Int} (hn:¬ RightV t l h x):¬ 1 ≤ h ∨ (1 ≤ h ∧ ¬ h ≤ 400) ∨ (1 ≤ h ∧ h ≤ 400 ∧ ¬ 1 ≤ x) ∨ (1 ≤ h ∧ h ≤ 400 ∧ 1 ≤ x ∧ ¬ x ≤ 40) ∨ (1 ≤ h ∧ h ≤ 400 ∧ 1 ≤ x ∧ x ≤ 40 ∧ ¬ 0 ≤ t) ∨ (1 ≤ h ∧ h ≤ 400 ∧ 1 ≤ x ∧ x ≤ 40 ∧ 0 ≤ t ∧ ¬ t ≤ 1099511627776) ∨ (1 ≤ h ∧ h ≤ 400 ∧ 1 ≤ x ∧ x ≤ 40 ∧ 0 ≤ t ∧ t ≤ 1099511627776 ∧ ¬ 0 ≤ l) ∨ (1 ≤ h ∧ h ≤ 400 ∧ 1 ≤ x ∧ x ≤ 40 ∧ 0 ≤ t ∧ t ≤ 1099511627776 ∧ 0 ≤ l ∧ ¬ l ≤ 1099511627776):=by
  unfold RightV at hn
  omega
set_option maxRecDepth 100000 in
set_option maxHeartbeats 6400000 in
theorem right29_a (w:World) (t l h x:Int) (b:Bool) (hr:(1 ≤ h ∧ h ≤ 400 ∧ 1 ≤ x ∧ x ≤ 40 ∧ 0 ≤ t ∧ t ≤ 1099511627776 ∧ 0 ≤ l ∧ l ≤ 1099511627776 ∧ b = true) ∨ (decide (1 ≤ h) = false ∧ b = false) ∨ (1 ≤ h ∧ decide (h ≤ 400) = false ∧ b = false) ∨ (1 ≤ h ∧ h ≤ 400 ∧ decide (1 ≤ x) = false ∧ b = false)) :
    Calls Tryz.prog 12 #[.agg #[.int .i64 t,.int .i64 l,.int .i64 h,.int .i64 x]] w fun e w' => e = .returned (.tuple #[.agg #[.int .i64 t,.int .i64 l,.int .i64 h,.int .i64 x],.agg #[.int .i64 t,.int .i64 l,.int .i64 h,.int .i64 x],.bool b]) ∧ Fr [] w w':=by
  obtain ⟨W1,hW1⟩:∃ W1,W1 = (((w.alloc (.cells #[.int .i64 t,.int .i64 l,.int .i64 h,.int .i64 x] 24)).alloc (.cells #[.int .i64 0,.int .i64 0,.int .i64 0,.int .i64 0] 40)).alloc (.cells #[.int .i64 0,.int .i64 0,.int .i64 0,.int .i64 0] 24)).alloc (.cells #[.int .i64 t,.int .i64 l,.int .i64 h,.int .i64 x] 40):=⟨_,rfl⟩
  have HW:Hid (Fr [] w W1 ∧ Blk W1 w.heap.size 24 #[.int .i64 t,.int .i64 l,.int .i64 h,.int .i64 x] ∧ Blk W1 (w.heap.size + 1) 40 #[.int .i64 0,.int .i64 0,.int .i64 0,.int .i64 0] ∧ Blk W1 (w.heap.size + 1 + 1) 24 #[.int .i64 0,.int .i64 0,.int .i64 0,.int .i64 0] ∧ Blk W1 (w.heap.size + 1 + 1 + 1) 40 #[.int .i64 t,.int .i64 l,.int .i64 h,.int .i64 x]):=by
    have b1:=((Blk.new (w.alloc (.cells #[.int .i64 t,.int .i64 l,.int .i64 h,.int .i64 x] 24)) 40 #[.int .i64 0,.int .i64 0,.int .i64 0,.int .i64 0]).alloc (.cells #[.int .i64 0,.int .i64 0,.int .i64 0,.int .i64 0] 24)).alloc (.cells #[.int .i64 t,.int .i64 l,.int .i64 h,.int .i64 x] 40)
    have b2:=(Blk.new ((w.alloc (.cells #[.int .i64 t,.int .i64 l,.int .i64 h,.int .i64 x] 24)).alloc (.cells #[.int .i64 0,.int .i64 0,.int .i64 0,.int .i64 0] 40)) 24 #[.int .i64 0,.int .i64 0,.int .i64 0,.int .i64 0]).alloc (.cells #[.int .i64 t,.int .i64 l,.int .i64 h,.int .i64 x] 40)
    have b3:=Blk.new (((w.alloc (.cells #[.int .i64 t,.int .i64 l,.int .i64 h,.int .i64 x] 24)).alloc (.cells #[.int .i64 0,.int .i64 0,.int .i64 0,.int .i64 0] 40)).alloc (.cells #[.int .i64 0,.int .i64 0,.int .i64 0,.int .i64 0] 24)) 40 #[.int .i64 t,.int .i64 l,.int .i64 h,.int .i64 x]
    simp only [World.size_alloc] at b1 b2 b3
    rw [← hW1] at b1 b2 b3
    exact ⟨by rw [hW1]; exact ((((Fr.refl [] w).alloc _).alloc _).alloc _).alloc _,by rw [hW1]; exact (((Blk.new w _ _).alloc _).alloc _).alloc _,b1,b2,b3⟩
  obtain ⟨V5,hV5⟩:∃ V5,V5 = w.heap.size + 1 + 1 + 1:=⟨_,rfl⟩
  obtain ⟨R3,hR3⟩:∃ R3,R3 = w.heap.size + 1 + 1:=⟨_,rfl⟩
  obtain ⟨R2,hR2⟩:∃ R2,R2 = w.heap.size + 1:=⟨_,rfl⟩
  obtain ⟨X1,hX1⟩:∃ X1,X1 = w.heap.size:=⟨_,rfl⟩
  have HNB:Hid (V5 = w.heap.size + 1 + 1 + 1 ∧ R3 = w.heap.size + 1 + 1 ∧ R2 = w.heap.size + 1 ∧ X1 = w.heap.size):=⟨hV5,hR3,hR2,hX1⟩
  rw [← hV5] at HW
  rw [← hR3] at HW
  rw [← hR2] at HW
  rw [← hX1] at HW
  have HW1:=Lib.hid hW1
  clear hW1
  go_enter Tryz.func12,Tryz.ntmps12
  go_wp2_with fail
  rw [← HW1.out,← hV5,← hR3,← hR2,← hX1]
  clear hV5 hR3 hR2 hX1
  obtain ⟨_,k1,k2,k3,k4⟩:=HW.out
  have a0:W1.cell? ⟨X1,0,none⟩ = some (.int .i64 t):=k1.cell 0
  have a1:W1.cell? ⟨X1,1,none⟩ = some (.int .i64 l):=k1.cell 1
  have a2:W1.cell? ⟨X1,2,none⟩ = some (.int .i64 h):=k1.cell 2
  have a3:W1.cell? ⟨X1,3,none⟩ = some (.int .i64 x):=k1.cell 3
  have v0:W1.cell? ⟨V5,0,none⟩ = some (.int .i64 t):=k4.cell 0
  have v1:W1.cell? ⟨V5,1,none⟩ = some (.int .i64 l):=k4.cell 1
  have v2:W1.cell? ⟨V5,2,none⟩ = some (.int .i64 h):=k4.cell 2
  have v3:W1.cell? ⟨V5,3,none⟩ = some (.int .i64 x):=k4.cell 3
  have p0:W1.cell? ⟨R2,0,none⟩ = some (.int .i64 0):=k2.cell 0
  have pz0:=k2.frozen 0
  have p1:W1.cell? ⟨R2,1,none⟩ = some (.int .i64 0):=k2.cell 1
  have pz1:=k2.frozen 1
  have p2:W1.cell? ⟨R2,2,none⟩ = some (.int .i64 0):=k2.cell 2
  have pz2:=k2.frozen 2
  have p3:W1.cell? ⟨R2,3,none⟩ = some (.int .i64 0):=k2.cell 3
  have pz3:=k2.frozen 3
  have q0:W1.cell? ⟨R3,0,none⟩ = some (.int .i64 0):=k3.cell 0
  have qz0:=k3.frozen 0
  have q1:W1.cell? ⟨R3,1,none⟩ = some (.int .i64 0):=k3.cell 1
  have qz1:=k3.frozen 1
  have q2:W1.cell? ⟨R3,2,none⟩ = some (.int .i64 0):=k3.cell 2
  have qz2:=k3.frozen 2
  have q3:W1.cell? ⟨R3,3,none⟩ = some (.int .i64 0):=k3.cell 3
  have qz3:=k3.frozen 3
  have lp:=k2.lt
  have lq:=k3.lt
  clear k1 k2 k3 k4
  have n1:¬ R2 = R3:=by have:=HNB.out; omega
  have n2:¬ R3 = R2:=fun e => n1 e.symm
  have n3:¬ X1 = R2:=by have:=HNB.out; omega
  have n4:¬ X1 = R3:=by have:=HNB.out; omega
  have n5:¬ V5 = R2:=by have:=HNB.out; omega
  have n6:¬ V5 = R3:=by have:=HNB.out; omega
  have HX:Hid ((R2 < w.heap.size → some R2 ∈ ([]:List (Option Nat))) ∧ (R3 < w.heap.size → some R3 ∈ ([]:List (Option Nat))) ∧ Fr [] w W1):=⟨fun h => absurd h (by have:=HNB.out; omega),fun h => absurd h (by have:=HNB.out; omega),HW.out.1⟩
  rcases hr with ⟨c0,c1,c2,c3,c4,c5,c6,c7,rfl⟩ | ⟨c0,rfl⟩ | ⟨c0,c1,rfl⟩ | ⟨c0,c1,c2,rfl⟩
  all_goals go_region
  all_goals go_wp2_with fail
  all_goals (refine bodyPost_ret (v:=.tuple #[.agg #[.int .i64 t,.int .i64 l,.int .i64 h,.int .i64 x],.agg #[.int .i64 t,.int .i64 l,.int .i64 h,.int .i64 x],.bool _]) (by simp [results,Tryz.results12,go_sem, *] <;> rfl) rfl ?_)
  all_goals exact ⟨rfl,((((((((HX.out.2.2.setB HX.out.1 _ _).setB HX.out.1 _ _).setB HX.out.1 _ _).setB HX.out.1 _ _).setB HX.out.2.1 _ _).setB HX.out.2.1 _ _).setB HX.out.2.1 _ _).setB HX.out.2.1 _ _).drew⟩
end Go.Proofs.YtblafakafgediaaGreat
namespace Go.Proofs.YtblafakafgediaaGreat
open Go.RowKit Go.Proofs.Dm

set_option maxRecDepth 100000 in
set_option maxHeartbeats 6400000 in
theorem right29_b (w:World) (t l h x:Int) (b:Bool) (hr:(1 ≤ h ∧ h ≤ 400 ∧ 1 ≤ x ∧ decide (x ≤ 40) = false ∧ b = false) ∨ (1 ≤ h ∧ h ≤ 400 ∧ 1 ≤ x ∧ x ≤ 40 ∧ decide (0 ≤ t) = false ∧ b = false) ∨ (1 ≤ h ∧ h ≤ 400 ∧ 1 ≤ x ∧ x ≤ 40 ∧ 0 ≤ t ∧ decide (t ≤ 1099511627776) = false ∧ b = false) ∨ (1 ≤ h ∧ h ≤ 400 ∧ 1 ≤ x ∧ x ≤ 40 ∧ 0 ≤ t ∧ t ≤ 1099511627776 ∧ decide (0 ≤ l) = false ∧ b = false) ∨ (1 ≤ h ∧ h ≤ 400 ∧ 1 ≤ x ∧ x ≤ 40 ∧ 0 ≤ t ∧ t ≤ 1099511627776 ∧ 0 ≤ l ∧ decide (l ≤ 1099511627776) = false ∧ b = false)) :
    Calls Tryz.prog 12 #[.agg #[.int .i64 t,.int .i64 l,.int .i64 h,.int .i64 x]] w fun e w' => e = .returned (.tuple #[.agg #[.int .i64 t,.int .i64 l,.int .i64 h,.int .i64 x],.agg #[.int .i64 t,.int .i64 l,.int .i64 h,.int .i64 x],.bool b]) ∧ Fr [] w w':=by
  obtain ⟨W1,hW1⟩:∃ W1,W1 = (((w.alloc (.cells #[.int .i64 t,.int .i64 l,.int .i64 h,.int .i64 x] 24)).alloc (.cells #[.int .i64 0,.int .i64 0,.int .i64 0,.int .i64 0] 40)).alloc (.cells #[.int .i64 0,.int .i64 0,.int .i64 0,.int .i64 0] 24)).alloc (.cells #[.int .i64 t,.int .i64 l,.int .i64 h,.int .i64 x] 40):=⟨_,rfl⟩
  have HW:Hid (Fr [] w W1 ∧ Blk W1 w.heap.size 24 #[.int .i64 t,.int .i64 l,.int .i64 h,.int .i64 x] ∧ Blk W1 (w.heap.size + 1) 40 #[.int .i64 0,.int .i64 0,.int .i64 0,.int .i64 0] ∧ Blk W1 (w.heap.size + 1 + 1) 24 #[.int .i64 0,.int .i64 0,.int .i64 0,.int .i64 0] ∧ Blk W1 (w.heap.size + 1 + 1 + 1) 40 #[.int .i64 t,.int .i64 l,.int .i64 h,.int .i64 x]):=by
    have b1:=((Blk.new (w.alloc (.cells #[.int .i64 t,.int .i64 l,.int .i64 h,.int .i64 x] 24)) 40 #[.int .i64 0,.int .i64 0,.int .i64 0,.int .i64 0]).alloc (.cells #[.int .i64 0,.int .i64 0,.int .i64 0,.int .i64 0] 24)).alloc (.cells #[.int .i64 t,.int .i64 l,.int .i64 h,.int .i64 x] 40)
    have b2:=(Blk.new ((w.alloc (.cells #[.int .i64 t,.int .i64 l,.int .i64 h,.int .i64 x] 24)).alloc (.cells #[.int .i64 0,.int .i64 0,.int .i64 0,.int .i64 0] 40)) 24 #[.int .i64 0,.int .i64 0,.int .i64 0,.int .i64 0]).alloc (.cells #[.int .i64 t,.int .i64 l,.int .i64 h,.int .i64 x] 40)
    have b3:=Blk.new (((w.alloc (.cells #[.int .i64 t,.int .i64 l,.int .i64 h,.int .i64 x] 24)).alloc (.cells #[.int .i64 0,.int .i64 0,.int .i64 0,.int .i64 0] 40)).alloc (.cells #[.int .i64 0,.int .i64 0,.int .i64 0,.int .i64 0] 24)) 40 #[.int .i64 t,.int .i64 l,.int .i64 h,.int .i64 x]
    simp only [World.size_alloc] at b1 b2 b3
    rw [← hW1] at b1 b2 b3
    exact ⟨by rw [hW1]; exact ((((Fr.refl [] w).alloc _).alloc _).alloc _).alloc _,by rw [hW1]; exact (((Blk.new w _ _).alloc _).alloc _).alloc _,b1,b2,b3⟩
  obtain ⟨V5,hV5⟩:∃ V5,V5 = w.heap.size + 1 + 1 + 1:=⟨_,rfl⟩
  obtain ⟨R3,hR3⟩:∃ R3,R3 = w.heap.size + 1 + 1:=⟨_,rfl⟩
  obtain ⟨R2,hR2⟩:∃ R2,R2 = w.heap.size + 1:=⟨_,rfl⟩
  obtain ⟨X1,hX1⟩:∃ X1,X1 = w.heap.size:=⟨_,rfl⟩
  have HNB:Hid (V5 = w.heap.size + 1 + 1 + 1 ∧ R3 = w.heap.size + 1 + 1 ∧ R2 = w.heap.size + 1 ∧ X1 = w.heap.size):=⟨hV5,hR3,hR2,hX1⟩
  rw [← hV5] at HW
  rw [← hR3] at HW
  rw [← hR2] at HW
  rw [← hX1] at HW
  have HW1:=Lib.hid hW1
  clear hW1
  go_enter Tryz.func12,Tryz.ntmps12
  go_wp2_with fail
  rw [← HW1.out,← hV5,← hR3,← hR2,← hX1]
  clear hV5 hR3 hR2 hX1
  obtain ⟨_,k1,k2,k3,k4⟩:=HW.out
  have a0:W1.cell? ⟨X1,0,none⟩ = some (.int .i64 t):=k1.cell 0
  have a1:W1.cell? ⟨X1,1,none⟩ = some (.int .i64 l):=k1.cell 1
  have a2:W1.cell? ⟨X1,2,none⟩ = some (.int .i64 h):=k1.cell 2
  have a3:W1.cell? ⟨X1,3,none⟩ = some (.int .i64 x):=k1.cell 3
  have v0:W1.cell? ⟨V5,0,none⟩ = some (.int .i64 t):=k4.cell 0
  have v1:W1.cell? ⟨V5,1,none⟩ = some (.int .i64 l):=k4.cell 1
  have v2:W1.cell? ⟨V5,2,none⟩ = some (.int .i64 h):=k4.cell 2
  have v3:W1.cell? ⟨V5,3,none⟩ = some (.int .i64 x):=k4.cell 3
  have p0:W1.cell? ⟨R2,0,none⟩ = some (.int .i64 0):=k2.cell 0
  have pz0:=k2.frozen 0
  have p1:W1.cell? ⟨R2,1,none⟩ = some (.int .i64 0):=k2.cell 1
  have pz1:=k2.frozen 1
  have p2:W1.cell? ⟨R2,2,none⟩ = some (.int .i64 0):=k2.cell 2
  have pz2:=k2.frozen 2
  have p3:W1.cell? ⟨R2,3,none⟩ = some (.int .i64 0):=k2.cell 3
  have pz3:=k2.frozen 3
  have q0:W1.cell? ⟨R3,0,none⟩ = some (.int .i64 0):=k3.cell 0
  have qz0:=k3.frozen 0
  have q1:W1.cell? ⟨R3,1,none⟩ = some (.int .i64 0):=k3.cell 1
  have qz1:=k3.frozen 1
  have q2:W1.cell? ⟨R3,2,none⟩ = some (.int .i64 0):=k3.cell 2
  have qz2:=k3.frozen 2
  have q3:W1.cell? ⟨R3,3,none⟩ = some (.int .i64 0):=k3.cell 3
  have qz3:=k3.frozen 3
  have lp:=k2.lt
  have lq:=k3.lt
  clear k1 k2 k3 k4
  have n1:¬ R2 = R3:=by have:=HNB.out; omega
  have n2:¬ R3 = R2:=fun e => n1 e.symm
  have n3:¬ X1 = R2:=by have:=HNB.out; omega
  have n4:¬ X1 = R3:=by have:=HNB.out; omega
  have n5:¬ V5 = R2:=by have:=HNB.out; omega
  have n6:¬ V5 = R3:=by have:=HNB.out; omega
  have HX:Hid ((R2 < w.heap.size → some R2 ∈ ([]:List (Option Nat))) ∧ (R3 < w.heap.size → some R3 ∈ ([]:List (Option Nat))) ∧ Fr [] w W1):=⟨fun h => absurd h (by have:=HNB.out; omega),fun h => absurd h (by have:=HNB.out; omega),HW.out.1⟩
  rcases hr with ⟨c0,c1,c2,c3,rfl⟩ | ⟨c0,c1,c2,c3,c4,rfl⟩ | ⟨c0,c1,c2,c3,c4,c5,rfl⟩ | ⟨c0,c1,c2,c3,c4,c5,c6,rfl⟩ | ⟨c0,c1,c2,c3,c4,c5,c6,c7,rfl⟩
  all_goals go_region
  all_goals go_wp2_with fail
  all_goals (refine bodyPost_ret (v:=.tuple #[.agg #[.int .i64 t,.int .i64 l,.int .i64 h,.int .i64 x],.agg #[.int .i64 t,.int .i64 l,.int .i64 h,.int .i64 x],.bool _]) (by simp [results,Tryz.results12,go_sem, *] <;> rfl) rfl ?_)
  all_goals exact ⟨rfl,((((((((HX.out.2.2.setB HX.out.1 _ _).setB HX.out.1 _ _).setB HX.out.1 _ _).setB HX.out.1 _ _).setB HX.out.2.1 _ _).setB HX.out.2.1 _ _).setB HX.out.2.1 _ _).setB HX.out.2.1 _ _).drew⟩
theorem right29_any (w:World) (t l h x:Int) :
    Calls Tryz.prog 12 #[.agg #[.int .i64 t,.int .i64 l,.int .i64 h,.int .i64 x]] w fun e w' => e = .returned (.tuple #[.agg #[.int .i64 t,.int .i64 l,.int .i64 h,.int .i64 x],.agg #[.int .i64 t,.int .i64 l,.int .i64 h,.int .i64 x],.bool (decide (RightV t l h x))]) ∧ Fr [] w w':=by
  by_cases hr:RightV t l h x
  · rw [decide_eq_true hr]
    obtain ⟨c1,c2,c3,c4,c5,c6,c7,c8⟩:=hr
    exact right29_a w t l h x true (.inl ⟨c1,c2,c3,c4,c5,c6,c7,c8,rfl⟩)
  · rw [decide_eq_false hr]
    rcases of_firstV hr with h1 | ⟨h1,h2⟩ | ⟨h1,h2,h3⟩ | ⟨h1,h2,h3,h4⟩ | ⟨h1,h2,h3,h4,h5⟩ | ⟨h1,h2,h3,h4,h5,h6⟩ | ⟨h1,h2,h3,h4,h5,h6,h7⟩ | ⟨h1,h2,h3,h4,h5,h6,h7,h8⟩
    · exact right29_a w t l h x false (.inr (.inl ⟨decide_eq_false h1,rfl⟩))
    · exact right29_a w t l h x false (.inr (.inr (.inl ⟨h1,decide_eq_false h2,rfl⟩)))
    · exact right29_a w t l h x false (.inr (.inr (.inr ⟨h1,h2,decide_eq_false h3,rfl⟩)))
    · exact right29_b w t l h x false (.inl ⟨h1,h2,h3,decide_eq_false h4,rfl⟩)
    · exact right29_b w t l h x false (.inr (.inl ⟨h1,h2,h3,h4,decide_eq_false h5,rfl⟩))
    · exact right29_b w t l h x false (.inr (.inr (.inl ⟨h1,h2,h3,h4,h5,decide_eq_false h6,rfl⟩)))
    · exact right29_b w t l h x false (.inr (.inr (.inr (.inl ⟨h1,h2,h3,h4,h5,h6,decide_eq_false h7,rfl⟩))))
    · exact right29_b w t l h x false (.inr (.inr (.inr (.inr ⟨h1,h2,h3,h4,h5,h6,h7,decide_eq_false h8,rfl⟩))))
def SmallP (r c:Int):Prop:=-1099511627776 ≤ r ∧ r ≤ 1099511627776 ∧ -1099511627776 ≤ c ∧ c ≤ 1099511627776
instance (r c:Int):Decidable (SmallP r c):=by unfold SmallP; infer_instance
set_option maxHeartbeats 1600000 in
theorem small29_any (w:World) (r c:Int) :
    Calls Tryz.prog 13 #[.agg #[.int .i64 r,.int .i64 c]] w fun e w' => e = .returned (.bool (decide (SmallP r c))) ∧ Fr [] w w':=by
  have HF:Hid (∀ o:Obj,Fr [] w (w.alloc o)):=fun o => (Fr.refl [] w).alloc _
  have key:SmallP r c ∨ ¬ -1099511627776 ≤ r ∨ (-1099511627776 ≤ r ∧ ¬ r ≤ 1099511627776) ∨ (-1099511627776 ≤ r ∧ r ≤ 1099511627776 ∧ ¬ -1099511627776 ≤ c) ∨ (-1099511627776 ≤ r ∧ r ≤ 1099511627776 ∧ -1099511627776 ≤ c ∧ ¬ c ≤ 1099511627776):=by
    unfold SmallP
    omega
  rcases key with hs | h1 | ⟨h1,h2⟩ | ⟨h1,h2,h3⟩ | ⟨h1,h2,h3,h4⟩
  · rw [decide_eq_true hs]
    obtain ⟨h1,h2,h3,h4⟩:=hs
    go_enter Tryz.func13,Tryz.ntmps13
    go_wp2_with fail
    go_ret
    exact ⟨rfl,HF.out _⟩
  all_goals rw [decide_eq_false (by unfold SmallP; omega)]
  all_goals go_enter Tryz.func13,Tryz.ntmps13
  all_goals go_wp2_with fail
  all_goals go_ret
  all_goals exact ⟨rfl,HF.out _⟩
end Go.Proofs.YtblafakafgediaaGreat
namespace Go.Proofs.YtblafakafgediaaGreat
open Go.RowKit Go.Proofs.Dm

theorem allR_nil (xs:List RV) (a b:Nat) (h:b ≤ a):allR xs a b = []:=by unfold allR; rw [show b - a = 0 by omega]; rfl
theorem allR_upto (xs:List RV) (b:Nat):allR xs 0 (b + 1) = allR xs 0 b ++ [(b,xs.getD b RV.none)]:=by
  rw [allR_cut xs 0 b (b + 1) (Nat.zero_le _) (by omega),allR_cons xs b (b + 1) (by omega),allR_nil xs (b + 1) (b + 1) (Nat.le_refl _)]
theorem next_end (xs:List RV) (a:Nat) (h:xs.length ≤ a):nextP xs a = -1:=by
  unfold nextP
  rw [allR_nil xs a _ h]
  rfl
theorem next_rec (xs:List RV) (a:Nat) (h:a < xs.length):nextP xs a = if hidAt xs a then nextP xs (a + 1) else (a:Int):=by
  unfold hidAt nextP
  rw [allR_cons xs a _ h]
  cases h2:(xs.getD a RV.none).h <;> simp only [List.find?_cons,h2] <;> rfl
theorem prev_zero (xs:List RV):prevP xs 0 = -1:=by
  unfold prevP downR
  rw [allR_nil xs 0 0 (Nat.le_refl _)]
  rfl
theorem prev_rec (xs:List RV) (b:Nat):prevP xs (b + 1) = if hidAt xs b then prevP xs b else (b:Int):=by
  unfold hidAt prevP downR
  rw [allR_upto,List.reverse_append]
  cases h2:(xs.getD b RV.none).h <;> simp only [List.reverse_cons,List.reverse_nil,List.nil_append,List.cons_append,List.find?_cons,h2] <;> rfl
def visI (xs:List RV) (j:Nat):List Int:=(shownR (allR xs 0 j)).map fun x => (x.1:Int)
theorem visI_snoc (xs:List RV) (j:Nat):visI xs (j + 1) = visI xs j ++ if hidAt xs j then [] else [(j:Int)]:=by
  unfold visI hidAt
  rw [allR_upto,shownR_snoc,List.map_append]
  cases (xs.getD j RV.none).h <;> simp
theorem visI_len (xs:List RV) (j:Nat):(visI xs j).length ≤ j:=by
  induction j with
  | zero => unfold visI; rw [allR_nil xs 0 0 (Nat.le_refl _)]; exact Nat.le_refl _
  | succ j ih =>
    rw [visI_snoc,List.length_append]
    split <;> simp <;> omega
def rowsD (l:List Int) (t:Int) (h:Nat):List Int:=(l.filter fun r => decide (t ≤ r)).take h
theorem rowsD_snoc (l:List Int) (r t:Int) (h:Nat):rowsD (l ++ [r]) t h = rowsD l t h ++ if t ≤ r ∧ (rowsD l t h).length < h then [r] else []:=by
  unfold rowsD
  rw [List.filter_append,List.take_append]
  congr 1
  by_cases h1:t ≤ r
  · rw [List.filter_cons_of_pos (by simpa using h1),List.filter_nil,List.length_take]
    by_cases h2:(l.filter fun r => decide (t ≤ r)).length < h
    · rw [if_pos ⟨h1,by omega⟩,List.take_of_length_le (by simp; omega)]
    · rw [if_neg (by omega),show h - (l.filter fun r => decide (t ≤ r)).length = 0 by omega]
      rfl
  · rw [List.filter_cons_of_neg (by simpa using h1),List.filter_nil,if_neg (fun h => h1 h.1)]
    simp
theorem rowsD_len (l:List Int) (t:Int) (h:Nat):(rowsD l t h).length ≤ h:=by unfold rowsD; rw [List.length_take]; omega
theorem rowsD_is (xs:List RV) (t h:Nat):rowsD (visI xs xs.length) (t:Nat) h = RowsI xs (min t xs.length) h:=by
  obtain ⟨a,ha⟩:∃ a,a = min t xs.length:=⟨_,rfl⟩
  unfold rowsD visI RowsI rowsP
  rw [← ha,List.map_take,allR_cut xs 0 a xs.length (Nat.zero_le _) (by omega),shownR_app,List.map_append,List.filter_append]
  congr 1
  rw [List.filter_eq_nil_iff.2,List.nil_append,List.filter_eq_self.2]
  · intro r hr
    obtain ⟨x,hx,rfl⟩:=List.mem_map.1 hr
    have:=mem_sh.1 hx
    simp
    omega
  · intro r hr
    obtain ⟨x,hx,rfl⟩:=List.mem_map.1 hr
    have:=mem_sh.1 hx
    simp
    omega
end Go.Proofs.YtblafakafgediaaGreat
namespace Go.Proofs.YtblafakafgediaaGreat
open Go.RowKit Go.Proofs.Dm

structure DGr (x:GD) (xs:List RV) (w:World):Prop where
  gd:GDAt x w
  len:x.m = xs.length
  row:∀ (k:Nat) (y:RD),x.rs[k]? = some y → y.h = hidAt xs k ∧ y.m = (xs.getD k RV.none).n
  n4:x.m ≤ 400
  r4:∀ r ∈ x.rs,r.m ≤ 40
  wid:dwidP x.rs = widthP xs
theorem DGr.fr0 {x:GD} {xs:List RV} {w w':World} (h:DGr x xs w) (hf:Fr [] w w'):DGr x xs w':=⟨h.gd.fr0 hf,h.len,h.row,h.n4,h.r4,h.wid⟩
section
variable {s:List UInt8} {g:Nat} {p:Option Addr} {tl:Bool} {eo:Int} {rs:List RW} {x:GD} {w:World}
theorem HG.pair (h:HG [] s g p tl eo rs x w) (k:Nat) (y:RD) (hy:x.rs[k]? = some y):∃ r,rs[k]? = some r ∧ r ∈ rs ∧ y.cs = r.2.map (ccell s) ∧ y.h = r.1.h:=by
  have hp:rs.map (rpic s) = x.rs.map RD.pic:=congrArg Prod.fst h.pic
  have h1:(rs.map (rpic s))[k]? = (x.rs.map RD.pic)[k]?:=by rw [hp]
  rw [List.getElem?_map,List.getElem?_map,hy] at h1
  cases hr:rs[k]? with
  | none => rw [hr] at h1; cases h1
  | some r =>
    rw [hr] at h1
    injection h1 with h2
    exact ⟨r,rfl,List.mem_of_getElem? hr,(congrArg Prod.fst h2).symm,(congrArg (fun z => z.2.2) h2).symm⟩
theorem HG.dgr (h:HG [] s g p tl eo rs x w):DGr x (rs.map Prod.fst) w:=by
  have hl:=h.xl
  have key:∀ (k:Nat) (y:RD),x.rs[k]? = some y → y.m = y.cs.length:=fun k y hy => (h.gd.now.2.2 y (List.mem_of_getElem? hy)).2
  have hg:∀ (k:Nat) (r:RW),rs[k]? = some r → (rs.map Prod.fst).getD k RV.none = r.1:=fun k r hr => by
    rw [List.getD_eq_getElem?_getD,List.getElem?_map,hr]
    rfl
  refine ⟨h.gd.now,by rw [List.length_map]; exact hl.1,fun k y hy => ?_,by rw [hl.1]; exact h.len,fun y hy => ?_,?_⟩
  · obtain ⟨r,hr,hm,hc,hh⟩:=h.pair k y hy
    unfold hidAt
    rw [hg k r hr]
    exact ⟨hh,by rw [key k y hy,hc,List.length_map]; exact (h.ok r hm).1.symm⟩
  · obtain ⟨k,hk⟩:=List.mem_iff_getElem?.1 hy
    obtain ⟨r,hr,hm,hc,hh⟩:=h.pair k y hk
    rw [key k y hk,hc,List.length_map]
    exact (h.bd r hm).1
  · unfold dwidP widthP
    congr 1
    have hp:rs.map (rpic s) = x.rs.map RD.pic:=congrArg Prod.fst h.pic
    have h1:x.rs.map (·.cs.length) = (x.rs.map RD.pic).map (·.1.length):=by rw [List.map_map]; rfl
    rw [h1,← hp,List.map_map,List.map_map]
    apply List.map_congr_left
    intro r hr
    show (r.2.map (ccell s)).length = r.1.n
    rw [List.length_map]
    exact (h.ok r hr).1.symm
end
end Go.Proofs.YtblafakafgediaaGreat
