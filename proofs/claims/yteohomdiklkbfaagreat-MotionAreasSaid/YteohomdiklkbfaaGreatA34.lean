import Derived.Test.YteohomdiklkbfaaGreatA33
namespace Go.Proofs.YteohomdiklkbfaaGreat
open Go.RowKit Go.Shelf Go.Proofs.Dm
attribute [local go_sem] Oper.semAt_some

def BegAt (n:Nat) (i:Int) (a:Nat):Prop:=(i < 0 ∧ a = 0) ∨ (i = (a:Int) ∧ a ≤ n) ∨ ((n:Int) < i ∧ a = n)
def EndAt (n a:Nat) (j:Int) (b:Nat):Prop:=(j < (a:Int) ∧ b = a) ∨ (j = (b:Int) ∧ a ≤ b ∧ b ≤ n) ∨ ((n:Int) < j ∧ b = n)
theorem BegAt.le {n a:Nat} {i:Int} (h:BegAt n i a):a ≤ n:=by unfold BegAt at h; omega
theorem EndAt.le {n a b:Nat} {j:Int} (h:EndAt n a j b) (ha:a ≤ n):a ≤ b ∧ b ≤ n:=by unfold EndAt at h; omega
set_option maxHeartbeats 1600000 in
theorem stretch_any (E:List (Option Nat)) (p:Option Addr) (xs:List RV) (w:World) (i j:Int) (a b:Nat) (ht:TreeAt TN E w p xs) (hn:xs.length ≤ 100000) (hA:BegAt xs.length i a) (hB:EndAt xs.length a j b) :
    Calls Tryz.prog 76 #[.agg #[.pointer p],.int .i64 i,.int .i64 j] w fun en w' => en = .returned (.tuple #[.int .i64 (a:Nat),.int .i64 (b:Nat)]) ∧ Fr [] w w':=by
  obtain ⟨n,hnn⟩:∃ n,n = xs.length:=⟨_,rfl⟩
  have HL:Hid (∀ w',Fr [] w w' → Calls Tryz.prog 49 #[.agg #[.pointer p]] w' fun en w'' => en = .returned (.int .i64 (n:Nat)) ∧ Fr [] w' w''):=by
    show ∀ _,_
    intro w' hf
    rw [hnn]
    exact len_any E p xs w' (ht.fr0 hf)
  have HF:Hid (Fr [] w (w.alloc (.cells #[.pointer p] 29)) ∧ Blk (w.alloc (.cells #[.pointer p] 29)) w.heap.size 29 #[.pointer p]):=⟨(Fr.refl [] w).alloc _,Blk.new w _ _⟩
  have n1:¬ (n:Int) < 0:=by omega
  rw [← hnn] at hA hB
  have han:=hA.le
  have hbn:=(hB.le han).2
  unfold BegAt at hA
  unfold EndAt at hB
  clear ht hn hnn
  rcases hA with ⟨x1,ea⟩ | ⟨rfl,x1⟩ | ⟨x1,ea⟩
  · rcases hB with ⟨y1,eb⟩ | ⟨rfl,y1,y2⟩ | ⟨y1,eb⟩
    · have x0:i < 0:=x1
      have z0:j < (0:Int):=by omega
      have HEB:=Lib.hid eb
      clear eb
      have HEA:=Lib.hid ea
      clear ea
      clear han hbn
      go_enter Tryz.func76,Tryz.ntmps76
      go_wp2_with fail
      refine (HL.out _ HF.out.1).mono ?_
      rintro en w1 ⟨rfl,hf⟩
      have HF1:=Lib.hid (HF.out.1.trans hf)
      have c0:w1.cell? ⟨w.heap.size,0,none⟩ = some (.pointer p):=(HF.out.2.fr hf (by simp)).cell 0
      clear hf
      go_wp2_with fail
      refine (HL.out _ HF1.out).mono ?_
      rintro en w2 ⟨rfl,hf⟩
      have HF2:=Lib.hid (HF1.out.trans hf)
      clear hf
      go_wp2_with fail
      exact bodyPost_ret (v:=.tuple #[.int .i64 (0:Int),.int .i64 (0:Int)]) (by simp [results,Tryz.results76,go_sem]) rfl ⟨by first | (rw [HEB.out,HEA.out]; done) | (rw [HEB.out,HEA.out]; rfl),HF2.out⟩
    · have x0:i < 0:=x1
      have z0:¬ (b:Int) < (0:Int):=by omega
      have z1:¬ (n:Int) < (b:Int):=by omega
      have HEA:=Lib.hid ea
      clear ea
      clear han hbn
      go_enter Tryz.func76,Tryz.ntmps76
      go_wp2_with fail
      refine (HL.out _ HF.out.1).mono ?_
      rintro en w1 ⟨rfl,hf⟩
      have HF1:=Lib.hid (HF.out.1.trans hf)
      have c0:w1.cell? ⟨w.heap.size,0,none⟩ = some (.pointer p):=(HF.out.2.fr hf (by simp)).cell 0
      clear hf
      go_wp2_with fail
      refine (HL.out _ HF1.out).mono ?_
      rintro en w2 ⟨rfl,hf⟩
      have HF2:=Lib.hid (HF1.out.trans hf)
      clear hf
      go_wp2_with fail
      exact bodyPost_ret (v:=.tuple #[.int .i64 (0:Int),.int .i64 (b:Int)]) (by simp [results,Tryz.results76,go_sem]) rfl ⟨by first | (rw [HEA.out]; done) | (rw [HEA.out]; rfl),HF2.out⟩
    · have x0:i < 0:=x1
      have z0:¬ j < (0:Int):=by omega
      have z1:(n:Int) < j:=y1
      have HEB:=Lib.hid eb
      clear eb
      have HEA:=Lib.hid ea
      clear ea
      clear han hbn
      go_enter Tryz.func76,Tryz.ntmps76
      go_wp2_with fail
      refine (HL.out _ HF.out.1).mono ?_
      rintro en w1 ⟨rfl,hf⟩
      have HF1:=Lib.hid (HF.out.1.trans hf)
      have c0:w1.cell? ⟨w.heap.size,0,none⟩ = some (.pointer p):=(HF.out.2.fr hf (by simp)).cell 0
      clear hf
      go_wp2_with fail
      refine (HL.out _ HF1.out).mono ?_
      rintro en w2 ⟨rfl,hf⟩
      have HF2:=Lib.hid (HF1.out.trans hf)
      clear hf
      go_wp2_with fail
      exact bodyPost_ret (v:=.tuple #[.int .i64 (0:Int),.int .i64 (n:Int)]) (by simp [results,Tryz.results76,go_sem]) rfl ⟨by first | (rw [HEB.out,HEA.out]; done) | (rw [HEB.out,HEA.out]; rfl),HF2.out⟩
  · rcases hB with ⟨y1,eb⟩ | ⟨rfl,y1,y2⟩ | ⟨y1,eb⟩
    · have x0:¬ (a:Int) < 0:=by omega
      have x2:¬ (n:Int) < (a:Int):=by omega
      have z0:j < (a:Int):=by omega
      have HEB:=Lib.hid eb
      clear eb
      clear han hbn
      go_enter Tryz.func76,Tryz.ntmps76
      go_wp2_with fail
      refine (HL.out _ HF.out.1).mono ?_
      rintro en w1 ⟨rfl,hf⟩
      have HF1:=Lib.hid (HF.out.1.trans hf)
      have c0:w1.cell? ⟨w.heap.size,0,none⟩ = some (.pointer p):=(HF.out.2.fr hf (by simp)).cell 0
      clear hf
      go_wp2_with fail
      refine (HL.out _ HF1.out).mono ?_
      rintro en w2 ⟨rfl,hf⟩
      have HF2:=Lib.hid (HF1.out.trans hf)
      clear hf
      go_wp2_with fail
      exact bodyPost_ret (v:=.tuple #[.int .i64 (a:Int),.int .i64 (a:Int)]) (by simp [results,Tryz.results76,go_sem]) rfl ⟨by first | (rw [HEB.out]; done) | (rw [HEB.out]; rfl),HF2.out⟩
    · have x0:¬ (a:Int) < 0:=by omega
      have x2:¬ (n:Int) < (a:Int):=by omega
      have z0:¬ (b:Int) < (a:Int):=by omega
      have z1:¬ (n:Int) < (b:Int):=by omega
      clear han hbn
      go_enter Tryz.func76,Tryz.ntmps76
      go_wp2_with fail
      refine (HL.out _ HF.out.1).mono ?_
      rintro en w1 ⟨rfl,hf⟩
      have HF1:=Lib.hid (HF.out.1.trans hf)
      have c0:w1.cell? ⟨w.heap.size,0,none⟩ = some (.pointer p):=(HF.out.2.fr hf (by simp)).cell 0
      clear hf
      go_wp2_with fail
      refine (HL.out _ HF1.out).mono ?_
      rintro en w2 ⟨rfl,hf⟩
      have HF2:=Lib.hid (HF1.out.trans hf)
      clear hf
      go_wp2_with fail
      exact bodyPost_ret (v:=.tuple #[.int .i64 (a:Int),.int .i64 (b:Int)]) (by simp [results,Tryz.results76,go_sem]) rfl ⟨rfl,HF2.out⟩
    · have x0:¬ (a:Int) < 0:=by omega
      have x2:¬ (n:Int) < (a:Int):=by omega
      have z0:¬ j < (a:Int):=by omega
      have z1:(n:Int) < j:=y1
      have HEB:=Lib.hid eb
      clear eb
      clear han hbn
      go_enter Tryz.func76,Tryz.ntmps76
      go_wp2_with fail
      refine (HL.out _ HF.out.1).mono ?_
      rintro en w1 ⟨rfl,hf⟩
      have HF1:=Lib.hid (HF.out.1.trans hf)
      have c0:w1.cell? ⟨w.heap.size,0,none⟩ = some (.pointer p):=(HF.out.2.fr hf (by simp)).cell 0
      clear hf
      go_wp2_with fail
      refine (HL.out _ HF1.out).mono ?_
      rintro en w2 ⟨rfl,hf⟩
      have HF2:=Lib.hid (HF1.out.trans hf)
      clear hf
      go_wp2_with fail
      exact bodyPost_ret (v:=.tuple #[.int .i64 (a:Int),.int .i64 (n:Int)]) (by simp [results,Tryz.results76,go_sem]) rfl ⟨by first | (rw [HEB.out]; done) | (rw [HEB.out]; rfl),HF2.out⟩
  · rcases hB with ⟨y1,eb⟩ | ⟨rfl,y1,y2⟩ | ⟨y1,eb⟩
    · have x0:¬ i < 0:=by omega
      have x2:(n:Int) < i:=x1
      have x3:¬ (n:Int) < (n:Int):=by omega
      have z0:j < (n:Int):=by omega
      have HEB:=Lib.hid eb
      clear eb
      have HEA:=Lib.hid ea
      clear ea
      clear han hbn
      go_enter Tryz.func76,Tryz.ntmps76
      go_wp2_with fail
      refine (HL.out _ HF.out.1).mono ?_
      rintro en w1 ⟨rfl,hf⟩
      have HF1:=Lib.hid (HF.out.1.trans hf)
      have c0:w1.cell? ⟨w.heap.size,0,none⟩ = some (.pointer p):=(HF.out.2.fr hf (by simp)).cell 0
      clear hf
      go_wp2_with fail
      refine (HL.out _ HF1.out).mono ?_
      rintro en w2 ⟨rfl,hf⟩
      have HF2:=Lib.hid (HF1.out.trans hf)
      clear hf
      go_wp2_with fail
      exact bodyPost_ret (v:=.tuple #[.int .i64 (n:Int),.int .i64 (n:Int)]) (by simp [results,Tryz.results76,go_sem]) rfl ⟨by first | (rw [HEB.out,HEA.out]; done) | (rw [HEB.out,HEA.out]; rfl),HF2.out⟩
    · have x0:¬ i < 0:=by omega
      have x2:(n:Int) < i:=x1
      have x3:¬ (n:Int) < (n:Int):=by omega
      have z0:¬ (b:Int) < (n:Int):=by omega
      have z1:¬ (n:Int) < (b:Int):=by omega
      have HEA:=Lib.hid ea
      clear ea
      clear han hbn
      go_enter Tryz.func76,Tryz.ntmps76
      go_wp2_with fail
      refine (HL.out _ HF.out.1).mono ?_
      rintro en w1 ⟨rfl,hf⟩
      have HF1:=Lib.hid (HF.out.1.trans hf)
      have c0:w1.cell? ⟨w.heap.size,0,none⟩ = some (.pointer p):=(HF.out.2.fr hf (by simp)).cell 0
      clear hf
      go_wp2_with fail
      refine (HL.out _ HF1.out).mono ?_
      rintro en w2 ⟨rfl,hf⟩
      have HF2:=Lib.hid (HF1.out.trans hf)
      clear hf
      go_wp2_with fail
      exact bodyPost_ret (v:=.tuple #[.int .i64 (n:Int),.int .i64 (b:Int)]) (by simp [results,Tryz.results76,go_sem]) rfl ⟨by first | (rw [HEA.out]; done) | (rw [HEA.out]; rfl),HF2.out⟩
    · have x0:¬ i < 0:=by omega
      have x2:(n:Int) < i:=x1
      have x3:¬ (n:Int) < (n:Int):=by omega
      have z0:¬ j < (n:Int):=by omega
      have z1:(n:Int) < j:=y1
      have HEB:=Lib.hid eb
      clear eb
      have HEA:=Lib.hid ea
      clear ea
      clear han hbn
      go_enter Tryz.func76,Tryz.ntmps76
      go_wp2_with fail
      refine (HL.out _ HF.out.1).mono ?_
      rintro en w1 ⟨rfl,hf⟩
      have HF1:=Lib.hid (HF.out.1.trans hf)
      have c0:w1.cell? ⟨w.heap.size,0,none⟩ = some (.pointer p):=(HF.out.2.fr hf (by simp)).cell 0
      clear hf
      go_wp2_with fail
      refine (HL.out _ HF1.out).mono ?_
      rintro en w2 ⟨rfl,hf⟩
      have HF2:=Lib.hid (HF1.out.trans hf)
      clear hf
      go_wp2_with fail
      exact bodyPost_ret (v:=.tuple #[.int .i64 (n:Int),.int .i64 (n:Int)]) (by simp [results,Tryz.results76,go_sem]) rfl ⟨by first | (rw [HEB.out,HEA.out]; done) | (rw [HEB.out,HEA.out]; rfl),HF2.out⟩
set_option maxHeartbeats 800000 in
theorem range_gen (E:List (Option Nat)) (p:Option Addr) (xs:List RV) (w:World) (i j:Int) (a b:Nat) (ht:TreeAt TN E w p xs) (hn:xs.length ≤ 100000) (hA:BegAt xs.length i a) (hB:EndAt xs.length a j b) :
    Calls Tryz.prog 38 #[.agg #[.pointer p],.int .i64 i,.int .i64 j] w (FuncNew w p a b):=by
  have HW:Hid (∀ W0,W0 = ((w.alloc (.cells #[.pointer p] 29)).alloc (.cells #[.int .i64 i] 3)).alloc (.cells #[.int .i64 j] 3) → Fr [] w W0 ∧ Blk W0 w.heap.size 29 #[.pointer p] ∧ Blk W0 (w.heap.size + 1) 3 #[.int .i64 i] ∧ Blk W0 (w.heap.size + 1 + 1) 3 #[.int .i64 j] ∧
      Calls Tryz.prog 76 #[.agg #[.pointer p],.int .i64 i,.int .i64 j] W0 fun en w' => en = .returned (.tuple #[.int .i64 (a:Nat),.int .i64 (b:Nat)]) ∧ Fr [] W0 w'):=by
    show ∀ _,_
    rintro W0 rfl
    have hf:Fr [] w (((w.alloc (.cells #[.pointer p] 29)).alloc (.cells #[.int .i64 i] 3)).alloc (.cells #[.int .i64 j] 3)):=(((Fr.refl [] w).alloc _).alloc _).alloc _
    have b1:=Blk.new (w.alloc (.cells #[.pointer p] 29)) 3 #[.int .i64 i]
    have b2:=Blk.new ((w.alloc (.cells #[.pointer p] 29)).alloc (.cells #[.int .i64 i] 3)) 3 #[.int .i64 j]
    refine ⟨hf,((Blk.new w _ _).alloc _).alloc _,?_,?_,?_⟩
    · have:=b1.alloc (.cells #[.int .i64 j] 3)
      simpa using this
    · simpa using b2
    · exact stretch_any E p xs _ i j a b (ht.fr0 hf) hn hA hB
  clear ht hn hA hB
  go_enter Tryz.func38,Tryz.ntmps38
  go_wp2_with fail
  obtain ⟨W0,hW0⟩:∃ W0,W0 = ((w.alloc (.cells #[.pointer p] 29)).alloc (.cells #[.int .i64 i] 3)).alloc (.cells #[.int .i64 j] 3):=⟨_,rfl⟩
  obtain ⟨k1,k2,k3,k4,k5⟩:=HW.out W0 hW0
  rw [← hW0]
  refine k5.mono ?_
  rintro en w1 ⟨rfl,hf⟩
  have c2:=k2.fr hf (by simp)
  have c3:=k3.fr hf (by simp)
  have c4:=k4.fr hf (by simp)
  have HF:=Lib.hid (k1.trans hf)
  have HB:Hid (Blk w1 w.heap.size 29 #[.pointer p] ∧ Blk w1 (w.heap.size + 1) 3 #[.int .i64 i] ∧ Blk w1 (w.heap.size + 1 + 1) 3 #[.int .i64 j]):=⟨c2,c3,c4⟩
  have d3:w1.cell? ⟨w.heap.size + 1,0,none⟩ = some (.int .i64 i):=c3.cell 0
  have d4:w1.cell? ⟨w.heap.size + 1 + 1,0,none⟩ = some (.int .i64 j):=c4.cell 0
  have z3:=c3.frozen 0
  have z4:=c4.frozen 0
  have l3:=c3.lt
  have l4:=c4.lt
  clear hW0 k1 k2 k3 k4 k5 hf c2 c3 c4 HW
  go_wp2_with fail
  go_ret
  obtain ⟨b2,b3,b4⟩:=HB.out
  have e3:=(b3.set_ 0 (.int .i64 (a:Nat))).far (p:=⟨w.heap.size + 1 + 1,0,none⟩) (by simp) (.int .i64 (b:Nat))
  have e4:=(b4.far (p:=⟨w.heap.size + 1,0,none⟩) (by simp) (.int .i64 (a:Nat))).set_ 0 (.int .i64 (b:Nat))
  have e2:=(b2.far (p:=⟨w.heap.size + 1,0,none⟩) (by simp) (.int .i64 (a:Nat))).far (p:=⟨w.heap.size + 1 + 1,0,none⟩) (by simp; omega) (.int .i64 (b:Nat))
  exact ⟨_,_,_,rfl,e3.cell 0,e4.cell 0,e2.cell 0,(HF.out.setB (fun h => by omega) _ _).setB (fun h => by omega) _ _,by omega,by omega,Nat.le_refl _⟩
set_option maxHeartbeats 800000 in
theorem back_gen (E:List (Option Nat)) (p:Option Addr) (xs:List RV) (w:World) (i j:Int) (a b:Nat) (ht:TreeAt TN E w p xs) (hn:xs.length ≤ 100000) (hA:BegAt xs.length i a) (hB:EndAt xs.length a j b) :
    Calls Tryz.prog 64 #[.agg #[.pointer p],.int .i64 i,.int .i64 j] w (FuncNewB w p a b):=by
  have HW:Hid (∀ W0,W0 = ((w.alloc (.cells #[.pointer p] 29)).alloc (.cells #[.int .i64 i] 3)).alloc (.cells #[.int .i64 j] 3) → Fr [] w W0 ∧ Blk W0 w.heap.size 29 #[.pointer p] ∧ Blk W0 (w.heap.size + 1) 3 #[.int .i64 i] ∧ Blk W0 (w.heap.size + 1 + 1) 3 #[.int .i64 j] ∧
      Calls Tryz.prog 76 #[.agg #[.pointer p],.int .i64 i,.int .i64 j] W0 fun en w' => en = .returned (.tuple #[.int .i64 (a:Nat),.int .i64 (b:Nat)]) ∧ Fr [] W0 w'):=by
    show ∀ _,_
    rintro W0 rfl
    have hf:Fr [] w (((w.alloc (.cells #[.pointer p] 29)).alloc (.cells #[.int .i64 i] 3)).alloc (.cells #[.int .i64 j] 3)):=(((Fr.refl [] w).alloc _).alloc _).alloc _
    have b1:=Blk.new (w.alloc (.cells #[.pointer p] 29)) 3 #[.int .i64 i]
    have b2:=Blk.new ((w.alloc (.cells #[.pointer p] 29)).alloc (.cells #[.int .i64 i] 3)) 3 #[.int .i64 j]
    refine ⟨hf,((Blk.new w _ _).alloc _).alloc _,?_,?_,?_⟩
    · have:=b1.alloc (.cells #[.int .i64 j] 3)
      simpa using this
    · simpa using b2
    · exact stretch_any E p xs _ i j a b (ht.fr0 hf) hn hA hB
  clear ht hn hA hB
  go_enter Tryz.func64,Tryz.ntmps64
  go_wp2_with fail
  obtain ⟨W0,hW0⟩:∃ W0,W0 = ((w.alloc (.cells #[.pointer p] 29)).alloc (.cells #[.int .i64 i] 3)).alloc (.cells #[.int .i64 j] 3):=⟨_,rfl⟩
  obtain ⟨k1,k2,k3,k4,k5⟩:=HW.out W0 hW0
  rw [← hW0]
  refine k5.mono ?_
  rintro en w1 ⟨rfl,hf⟩
  have c2:=k2.fr hf (by simp)
  have c3:=k3.fr hf (by simp)
  have c4:=k4.fr hf (by simp)
  have HF:=Lib.hid (k1.trans hf)
  have HB:Hid (Blk w1 w.heap.size 29 #[.pointer p] ∧ Blk w1 (w.heap.size + 1) 3 #[.int .i64 i] ∧ Blk w1 (w.heap.size + 1 + 1) 3 #[.int .i64 j]):=⟨c2,c3,c4⟩
  have d3:w1.cell? ⟨w.heap.size + 1,0,none⟩ = some (.int .i64 i):=c3.cell 0
  have d4:w1.cell? ⟨w.heap.size + 1 + 1,0,none⟩ = some (.int .i64 j):=c4.cell 0
  have z3:=c3.frozen 0
  have z4:=c4.frozen 0
  have l3:=c3.lt
  have l4:=c4.lt
  clear hW0 k1 k2 k3 k4 k5 hf c2 c3 c4 HW
  go_wp2_with fail
  go_ret
  obtain ⟨b2,b3,b4⟩:=HB.out
  have e3:=(b3.set_ 0 (.int .i64 (a:Nat))).far (p:=⟨w.heap.size + 1 + 1,0,none⟩) (by simp) (.int .i64 (b:Nat))
  have e4:=(b4.far (p:=⟨w.heap.size + 1,0,none⟩) (by simp) (.int .i64 (a:Nat))).set_ 0 (.int .i64 (b:Nat))
  have e2:=(b2.far (p:=⟨w.heap.size + 1,0,none⟩) (by simp) (.int .i64 (a:Nat))).far (p:=⟨w.heap.size + 1 + 1,0,none⟩) (by simp; omega) (.int .i64 (b:Nat))
  exact ⟨_,_,_,rfl,e3.cell 0,e4.cell 0,e2.cell 0,(HF.out.setB (fun h => by omega) _ _).setB (fun h => by omega) _ _,by omega,by omega,Nat.le_refl _⟩
end Go.Proofs.YteohomdiklkbfaaGreat
namespace Go.Proofs.YteohomdiklkbfaaGreat
open Go.RowKit Go.Shelf Go.Proofs.Dm
attribute [local go_sem] Oper.semAt_some

set_option maxHeartbeats 400000 in
theorem shown_any (w:World) (A:Option Addr) (n c:Nat) (e:Int) (h:Bool):Calls Tryz.prog 63 #[.agg #[.slice A n c,.int .i64 e,.bool h]] w fun en w' => en = .returned (.bool (!h)) ∧ Fr [] w w':=by
  go_enter Tryz.func63,Tryz.ntmps63
  go_wp2_with fail
  go_ret
  exact ⟨rfl,(Fr.refl [] w).alloc _⟩
structure WI (w2 W:World) (OB:Nat) (v:Int):Prop where
  box:Blk W OB 3 #[.int .i64 v]
  fr:Fr [some OB] w2 W
  ob:OB < w2.heap.size
section
variable {w2 W W':World} {OB:Nat} {v:Int}
theorem WI.fr0 (h:WI w2 W OB v) (hf:Fr [] W W'):WI w2 W' OB v:=⟨h.box.fr hf (by simp),h.fr.trans hf.of_nil,h.ob⟩
theorem fr_ch {S:List (Option Nat)} (h:Fr S w2 W) (hc:ChI w2.heap.size W W'):Fr S w2 W':=by
  refine ⟨hc.os.trans h.os,hc.tape.trans h.tape,hc.output.trans h.output,Nat.le_trans h.size hc.size,fun k hk hn => ?_⟩
  have hold:=h.block k hk hn
  have hget:w2.heap[k]? = some w2.heap[k]:=Array.getElem?_eq_getElem hk
  rw [hget] at hold ⊢
  exact hc.block k _ hold (.inl hk)
theorem WI.ch (h:WI w2 W OB v) (hc:ChI w2.heap.size W W'):WI w2 W' OB v:=⟨hc.block _ _ h.box (.inl h.ob),fr_ch h.fr hc,h.ob⟩
theorem WI.put (h:WI w2 W OB v) (v':Int):WI w2 (W.setCell ⟨OB,0,none⟩ (.int .i64 v')) OB v' :=
  ⟨h.box.set_ 0 _,h.fr.setB (fun _ => by simp) 0 _,h.ob⟩
theorem WI.keeps {b:Nat} {E:List (Option Nat)} (h:WI w2 W OB v) (hf:Fr [some OB] W W') (hb:b = w2.heap.size) (hE:some OB ∈ E):KeepsI E b W W':=by
  subst hb
  refine KeepsI.of_frS hf fun k hk hlt => ?_
  rw [List.mem_singleton] at hk
  injection hk with e
  subst e
  exact ⟨.inr hE,_,h.box,by simp [itT]; decide⟩
end
def nextP (xs:List RV) (a:Nat):Int:=(((allR xs a xs.length).find? fun x => !x.2.h).map fun x => (x.1:Int)).getD (-1)
theorem nextP_no (xs:List RV) (a:Nat) (h:∀ x ∈ allR xs a xs.length,x.2.h = true):nextP xs a = -1:=by
  unfold nextP
  rw [List.find?_eq_none.2 fun x hx => by rw [h x hx]; simp]
  rfl
theorem nextP_yes (xs:List RV) (a:Nat) (pre:List (Nat × RV)) (x:Nat × RV) (hp:pre ++ [x] <+: allR xs a xs.length) (h:∀ y ∈ pre,y.2.h = true) (hx:x.2.h = false):nextP xs a = x.1:=by
  obtain ⟨t,ht⟩:=hp
  unfold nextP
  rw [← ht,List.append_assoc,List.find?_append,List.find?_eq_none.2 fun y hy => by rw [h y hy]; simp]
  simp [hx]
set_option maxRecDepth 100000 in
set_option maxHeartbeats 1600000 in
theorem index_any (w:World) (p:Option Addr) (xs:List RV) (n a:Nat) (i:Int) (ht:TreeAt TN [] w p xs) (hn:n = xs.length) (hn7:n ≤ 700) (hA:BegAt n i a) :
    Calls Tryz.prog 62 #[.agg #[.pointer p],.int .i64 i,.func (.func 63) #[] #[]] w fun en w' => en = .returned (.int .i64 (nextP xs a)) ∧ Fr [] w w':=by
  have HLN:Hid (∀ w',Fr [] w w' → Calls Tryz.prog 49 #[.agg #[.pointer p]] w' fun en w'' => en = .returned (.int .i64 (n:Nat)) ∧ Fr [] w' w''):=by
    show ∀ _,_
    intro w' hf
    have:=len_any [] p xs w' (ht.fr0 hf)
    rw [← hn] at this
    exact this
  have HRG:Hid (∀ w',Fr [] w w' → Calls Tryz.prog 38 #[.agg #[.pointer p],.int .i64 i,.int .i64 (n:Nat)] w' (FuncNew w' p a n)):=by
    show ∀ _,_
    intro w' hf
    have hA2:=hA
    rw [hn] at hA2
    have:=range_gen [] p xs w' i (n:Nat) a n (ht.fr0 hf) (by omega) hA2 (by rw [← hn]; have:=hA.le; unfold EndAt; omega)
    exact this
  have HW:Hid (∀ W0,W0 = ((w.alloc (.cells #[.pointer p] 29)).alloc (.cells #[.func (.func 63) #[] #[]] 144)).alloc (.cells #[.int .i64 0] 3) →
      Fr [] w W0 ∧ Blk W0 w.heap.size 29 #[.pointer p] ∧ Blk W0 (w.heap.size + 1) 144 #[.func (.func 63) #[] #[]] ∧ Blk W0 (w.heap.size + 1 + 1) 3 #[.int .i64 0]):=by
    show ∀ _,_
    rintro W0 rfl
    have b1:=Blk.new (w.alloc (.cells #[.pointer p] 29)) 144 #[.func (.func 63) #[] #[]]
    have b2:=Blk.new ((w.alloc (.cells #[.pointer p] 29)).alloc (.cells #[.func (.func 63) #[] #[]] 144)) 3 #[.int .i64 0]
    refine ⟨(((Fr.refl [] w).alloc _).alloc _).alloc _,((Blk.new w _ _).alloc _).alloc _,?_,by simpa using b2⟩
    have:=b1.alloc (.cells #[.int .i64 0] 3)
    simpa using this
  have HIN:Hid (TreeAt TN [] w p xs):=ht
  have HN:Hid (n = xs.length ∧ n ≤ 700 ∧ a ≤ n):=⟨hn,hn7,hA.le⟩
  clear ht hn hn7 hA
  refine callsIn_wide.1 (callsIn_of_wp_marks (n:=3) Tryz.func62 rfl trivial (wpIn_wide.2 ?_))
  simp only [Tryz.ntmps62,List.size_toArray,List.length_cons,List.length_nil,Nat.reduceAdd,Nat.reduceSub,Array.replicate_succ,Array.replicate_zero,List.push_toArray,List.append_toArray,List.nil_append,List.cons_append]
  go_wp2_with fail
  obtain ⟨W0,hW0⟩:∃ W0,W0 = ((w.alloc (.cells #[.pointer p] 29)).alloc (.cells #[.func (.func 63) #[] #[]] 144)).alloc (.cells #[.int .i64 0] 3):=⟨_,rfl⟩
  obtain ⟨k1,k2,k3,k4⟩:=HW.out W0 hW0
  rw [← hW0]
  obtain ⟨OB,hOB⟩:∃ OB,OB = w.heap.size + 1 + 1:=⟨_,rfl⟩
  obtain ⟨FB,hFB⟩:∃ FB,FB = w.heap.size + 1:=⟨_,rfl⟩
  obtain ⟨GB,hGB⟩:∃ GB,GB = w.heap.size:=⟨_,rfl⟩
  rw [← hOB] at k4 ⊢
  rw [← hFB] at k3 ⊢
  rw [← hGB] at k2 ⊢
  have HB0:Hid (Fr [] w W0 ∧ Blk W0 GB 29 #[.pointer p] ∧ Blk W0 FB 144 #[.func (.func 63) #[] #[]] ∧ Blk W0 OB 3 #[.int .i64 0]):=⟨k1,k2,k3,k4⟩
  have HNB:Hid (GB = w.heap.size ∧ FB = w.heap.size + 1 ∧ OB = w.heap.size + 1 + 1):=⟨hGB,hFB,hOB⟩
  have g0:W0.cell? ⟨GB,0,none⟩ = some (.pointer p):=k2.cell 0
  clear hW0 k1 k2 k3 k4 hOB hFB hGB HW
  go_region_held3 (fun w' => w'.cell? ⟨GB,0,none⟩ = some (.pointer p)) (go_keep) ((first
    | (go_at_call 49; go_must (
         refine (HLN.out _ (HB0.out.1.drew)).mono ?_
         rintro e w4 ⟨rfl,hf4⟩
         have HF4:Hid (Fr [] W0 w4):=(Fr.refl [] W0).drew.trans hf4
         have g0':w4.cell? ⟨GB,0,none⟩ = some (.pointer p):=(HB0.out.2.1.fr HF4.out (by simp)).cell 0
         clear hf4))
    | (go_at_call 38; go_must (
         refine (HRG.out _ (HB0.out.1.trans HF4.out)).mono ?_
         rintro e w5 ⟨bi,bj,bt,rfl,hbi,hbj,hbt,hf5,hx1,hx2,hx3⟩
         have HF5:Hid (Fr [] W0 w5):=HF4.out.trans hf5
         have g0'':w5.cell? ⟨GB,0,none⟩ = some (.pointer p):=(HB0.out.2.1.fr HF5.out (by simp)).cell 0
         have HBB:Hid (w5.cell? ⟨bi,0,none⟩ = some (.int .i64 (a:Nat)) ∧ w5.cell? ⟨bj,0,none⟩ = some (.int .i64 (n:Nat)) ∧ w5.cell? ⟨bt,0,none⟩ = some (.pointer p)):=⟨hbi,hbj,hbt⟩
         have HBX:Hid (W0.heap.size ≤ bi ∧ W0.heap.size ≤ bj ∧ W0.heap.size ≤ bt):=by have:=HF4.out.size; exact ⟨by omega,by omega,by omega⟩
         clear hbi hbj hbt hf5 hx1 hx2 hx3))))
  all_goals go_wp2_with fail
  have HTR:Hid (TreeAt TN [some OB] w5 p xs):=by
    have:=HIN.out
    refine this.grow (E':=[some OB]) (HB0.out.1.trans HF5.out) fun k hk => ?_
    rw [List.mem_singleton] at hk
    injection hk with hk
    exact .inr (by have:=HNB.out; omega)
  have HWI0:Hid (WI w5 w5 OB 0):=⟨HB0.out.2.2.2.fr HF5.out (by simp),Fr.refl _ _,(HB0.out.2.2.2.fr HF5.out (by simp)).lt⟩
  have HFB:Hid (Blk w5 FB 144 #[.func (.func 63) #[] #[]] ∧ FB ≠ OB):=⟨HB0.out.2.2.1.fr HF5.out (by simp),by have:=HNB.out; omega⟩
  rw [← wpIn_wide (n:=3)]
  refine range_law (E:=[some OB]) (F:=Fence.wide) rfl (by omega) (gf:=77) rfl trivial (enters_of Tryz.func77 (by kernel_rfl) rfl)
    (range_stops (3 - 1) bi bj bt a n w5 p xs HN.out.2.2 (by rw [← HN.out.1]; exact Nat.le_refl _) (by have:=HN.out; omega) HTR.out HBB.out.1 HBB.out.2.1 HBB.out.2.2 ?hne) (Fr.refl _ _) (fun _ => rfl)
    (fun pre W => Hid (WI w5 W OB 0 ∧ ∀ x ∈ pre,x.2.h = true)) (fun c _ W => c = .ret ∧ Hid (WI w5 W OB (nextP xs a))) ?hI ?hIx ?h0
    (fun x a₁ W => ∃ b,a₁ = { tmps:=#[.agg #[.pointer p],.int .i64 i,.func (.func 63) #[] #[],.pointer (some ⟨GB,0,none⟩),undef,.pointer (some ⟨FB,0,none⟩),.pointer (some ⟨OB,0,none⟩),.int .i64 (x.1:Nat),.pointer (some ⟨b,0,none⟩),.agg #[.pointer p],.int .i64 i,.agg #[.pointer p],.int .i64 (n:Nat),.func (.func 77) #[] #[.pointer (some ⟨bi,0,none⟩),.pointer (some ⟨bj,0,none⟩),.pointer (some ⟨bt,0,none⟩)],.int .i64 (x.1:Nat),x.2.val,undef,undef,undef,undef],defers:=[] } ∧ Blk W b TRow #[.slice x.2.A x.2.n x.2.c,.int .i64 x.2.e,.bool x.2.h]) ?hAx ?assign ?body ?done ?stop
  case hne =>
    have key:∀ (x:Nat),W0.heap.size ≤ x → some x ∉ [some OB]:=fun x hx e => by
      rw [List.mem_singleton] at e
      injection e with e
      have:=HB0.out.2.2.2.lt
      omega
    exact ⟨key bi HBX.out.1,key bj HBX.out.2.1,key bt HBX.out.2.2⟩
  case hI =>
    rintro pre W W' h hc
    exact ⟨h.out.1.ch hc,h.out.2⟩
  case hIx =>
    rintro c pre W W' ⟨h1,h2⟩ hc
    exact ⟨h1,h2.out.ch hc⟩
  case h0 => exact ⟨HWI0.out,fun x hx => by simp at hx⟩
  case hAx =>
    rintro x a₁ W l o o' hl ho ⟨b,rfl,hb⟩
    refine ⟨b,rfl,?_⟩
    unfold Blk at hb ⊢
    rw [World.putObj_heap_other]
    · exact hb
    · intro e; subst e; rw [hb] at hl; injection hl with hl; subst hl; cases ho
  case assign =>
    intro l x W K hK
    obtain ⟨xq,⟨rA,rn,rc,re,rh⟩⟩:=x
    simp only [encR,RV.val]
    gi_wp2
    refine hK _ _ ((Fr.refl [] W).alloc _) ⟨W.heap.size,rfl,Blk.new W TRow _⟩
  case body =>
    rintro l pre x a₁ W HI hpx ⟨b,rfl,hb⟩
    obtain ⟨xq,⟨rA,rn,rc,re,rh⟩⟩:=x
    simp only [RV.val] at hb ⊢
    have hfb:=HFB.out.1.fr HI.out.1.fr (fun e => by rw [List.mem_singleton] at e; injection e with e; exact HFB.out.2 e)
    have f0:W.cell? ⟨FB,0,none⟩ = some (.func (.func 63) #[] #[]):=hfb.cell 0
    have b0:W.cell? ⟨b,0,none⟩ = some (.slice rA rn rc):=hb.cell 0
    have b1:W.cell? ⟨b,1,none⟩ = some (.int .i64 re):=hb.cell 1
    have b2:W.cell? ⟨b,2,none⟩ = some (.bool rh):=hb.cell 2
    have HNP:Hid (rh = false → nextP xs a = (xq:Nat)):=by
      show _ → _
      intro h
      rw [HN.out.1] at hpx
      exact nextP_yes xs a pre _ hpx HI.out.2 h
    clear hfb hb hpx
    gi_wp2
    refine ⟨trivial,(CallsIn.inRound l (callsIn_wide.2 (shown_any W rA rn rc re rh))).mono ?_⟩
    rintro en w8 ⟨rfl,hf8⟩
    have HW8:=Lib.hid (HI.out.1.fr0 hf8)
    have HF8:=Lib.hid hf8
    have o0:w8.cell? ⟨OB,0,none⟩ = some (.int .i64 0):=HW8.out.box.cell 0
    have oz:=HW8.out.box.frozen 0
    have ol:=HW8.out.box.lt
    clear hf8 f0 b0 b1 b2
    cases rh with
    | true =>
      gi_wp2
      refine ⟨KeepsI.of_fr HF8.out,HW8.out,fun y hy => ?_⟩
      rcases List.mem_append.1 hy with h | h
      · exact HI.out.2 y h
      · rw [List.mem_singleton] at h; rw [h]
    | false =>
      gi_wp2
      have hfs:Fr [some OB] w8 (w8.setCell ⟨OB,0,none⟩ (.int .i64 (xq:Nat))):=(Fr.refl _ _).setB (fun _ => by simp) 0 _
      refine ⟨(KeepsI.of_fr HF8.out).trans (HW8.out.keeps hfs rfl (List.mem_singleton.2 rfl)),rfl,?_⟩
      show WI _ _ _ _
      rw [HNP.out (by first | trivial | rfl)]
      exact HW8.out.put _
  case done =>
    rintro D W hD HI hK
    have HNO:Hid (nextP xs a = -1):=nextP_no xs a fun x hx => HI.out.2 x (by rw [HN.out.1]; exact hx)
    have o0:W.cell? ⟨OB,0,none⟩ = some (.int .i64 0):=HI.out.1.box.cell 0
    have oz:=HI.out.1.box.frozen 0
    have ol:=HI.out.1.box.lt
    have HDD:=Lib.hid hD
    have HK0:=Lib.hid hK
    clear hD hK
    go_wp2_with fail
    obtain ⟨W9,hW9⟩:∃ W9,W9 = W.setCell ⟨OB,0,none⟩ (.int .i64 (-1)):=⟨_,rfl⟩
    rw [← hW9]
    have HWD:Hid (WI w5 W9 OB (-1)):=by show WI _ _ _ _; rw [hW9]; exact HI.out.1.put (-1)
    have HKD:Hid (W9.heap[D]? = some (.deferred (some []))):=by
      show _ = _
      rw [hW9]
      refine (Below.heap_setCell W ⟨OB,0,none⟩ _ D ?_).trans HK0.out
      have:=HI.out.1.ob
      have:=HDD.out
      show D ≠ OB
      omega
    clear hW9 o0 oz ol
    refine ⟨by simp,.inl ⟨_,_,rfl,run_takeDeferred HKD.out,?_⟩⟩
    have hc:=HWD.out.ch (ChI.put (o':=.deferred none) HKD.out rfl HDD.out)
    obtain ⟨W10,hW10⟩:∃ W10,W10 = World.putObj W9 D (.deferred none):=⟨_,rfl⟩
    rw [← hW10] at hc ⊢
    have l0:W10.cell? ⟨OB,0,none⟩ = some (.int .i64 (-1)):=hc.box.cell 0
    clear hW10
    refine ⟨.int .i64 (-1),by simp [results,Tryz.results62,go_sem, *],by rw [HNO.out],(HB0.out.1.trans HF5.out).seq hc.fr fun x hx => ?_⟩
    rw [List.mem_singleton] at hx
    exact .inr (.inr ⟨OB,by have:=HNB.out; omega,hx⟩)
  case stop =>
    rintro D c pre W hD ⟨rfl,HI⟩ hK
    have HDD:=Lib.hid hD
    have HKD:=Lib.hid hK
    have HWD:=HI
    clear hD hK
    rw [wpIn_wide]
    go_wp2_with fail
    refine ⟨by simp,.inl ⟨_,_,rfl,run_takeDeferred HKD.out,?_⟩⟩
    have hc:=HWD.out.ch (ChI.put (o':=.deferred none) HKD.out rfl HDD.out)
    obtain ⟨W10,hW10⟩:∃ W10,W10 = World.putObj W D (.deferred none):=⟨_,rfl⟩
    rw [← hW10] at hc ⊢
    have l0:W10.cell? ⟨OB,0,none⟩ = some (.int .i64 (nextP xs a)):=hc.box.cell 0
    clear hW10
    refine ⟨.int .i64 (nextP xs a),by simp [results,Tryz.results62,go_sem, *],rfl,(HB0.out.1.trans HF5.out).seq hc.fr fun x hx => ?_⟩
    rw [List.mem_singleton] at hx
    exact .inr (.inr ⟨OB,by have:=HNB.out; omega,hx⟩)
end Go.Proofs.YteohomdiklkbfaaGreat
