import Derived.Test.YteohomdiklkbfaaGreatA29
import Derived.Test.YteohomdiklkbfaaGreatA48
namespace Go.Proofs.Dm

structure RInvS (S:List (Option Nat)) (F:Nat → Value → Prop) (Bx:(Nat → Bool) → World → Prop) (W0:World) (f:Nat → Bool) (u:Nat → Value) (w:World):Prop where
  fr:Fr S W0 w
  v:∀ i,f i = true → F i (u i)
  b:Bx f w
section
variable {S:List (Option Nat)} {F F':Nat → Value → Prop} {Bx:(Nat → Bool) → World → Prop} {W0 w w2:World} {i:Nat} {f:Nat → Bool} {u:Nat → Value} {v:Value}
theorem RInvS.start (u:Nat → Value) (hb:Bx (fun _ => false) W0.drew):RInvS S F Bx W0 (fun _ => false) u W0.drew :=
  ⟨(Fr.refl _ _).drew,fun _ h => Bool.noConfusion h,hb⟩
theorem RInvS.val (h:RInvS S F Bx W0 f u w) (hv:F i v) (hb:Bx (addB f i) w):RInvS S F Bx W0 (addB f i) (updU u i v) w:=by
  refine ⟨h.fr,fun j hj => ?_,hb⟩
  by_cases e:j = i
  · subst e; rw [updU_self]; exact hv
  · rw [updU_ne u v e]; exact h.v j (by rwa [addB_ne e] at hj)
theorem RInvS.call (h:RInvS S F Bx W0 f u w) (hf:Fr [] w w2) (hv:F i v) (hb:Bx (addB f i) w2):RInvS S F Bx W0 (addB f i) (updU u i v) w2:=by
  refine ⟨h.fr.trans hf.of_nil,fun j hj => ?_,hb⟩
  by_cases e:j = i
  · subst e; rw [updU_self]; exact hv
  · rw [updU_ne u v e]; exact h.v j (by rwa [addB_ne e] at hj)
theorem RInvS.put (h:RInvS S F Bx W0 f u w) (hf:Fr S w w2) (hv:F i (u i)) (hb:Bx (addB f i) w2):RInvS S F Bx W0 (addB f i) u w2:=by
  refine ⟨h.fr.trans hf,fun j hj => ?_,hb⟩
  by_cases e:j = i
  · subst e; exact hv
  · exact h.v j (by rwa [addB_ne e] at hj)
theorem RInvS.get (h:RInvS S F Bx W0 f u w) (hF:F = F') (hi:f i = true):F' i (u i):=by
  subst hF
  exact h.v i hi
end
end Go.Proofs.Dm
namespace Go.Proofs.YteohomdiklkbfaaGreat
open Go.RowKit Go.Proofs.Dm

def SmallP (r c:Int):Prop:=-1099511627776 ≤ r ∧ r ≤ 1099511627776 ∧ -1099511627776 ≤ c ∧ c ≤ 1099511627776
instance (r c:Int):Decidable (SmallP r c):=by unfold SmallP; infer_instance
set_option maxHeartbeats 1600000 in
theorem small26_any (w:World) (r c:Int) :
    Calls Tryz.prog 8 #[.agg #[.int .i64 r,.int .i64 c]] w fun e w' => e = .returned (.bool (decide (SmallP r c))) ∧ Fr [] w w':=by
  have HF:Hid (∀ o:Obj,Fr [] w (w.alloc o)):=fun o => (Fr.refl [] w).alloc _
  have key:SmallP r c ∨ ¬ -1099511627776 ≤ r ∨ (-1099511627776 ≤ r ∧ ¬ r ≤ 1099511627776) ∨ (-1099511627776 ≤ r ∧ r ≤ 1099511627776 ∧ ¬ -1099511627776 ≤ c) ∨ (-1099511627776 ≤ r ∧ r ≤ 1099511627776 ∧ -1099511627776 ≤ c ∧ ¬ c ≤ 1099511627776):=by
    unfold SmallP
    omega
  rcases key with hs | h1 | ⟨h1,h2⟩ | ⟨h1,h2,h3⟩ | ⟨h1,h2,h3,h4⟩
  · rw [decide_eq_true hs]
    obtain ⟨h1,h2,h3,h4⟩:=hs
    go_enter Tryz.func8,Tryz.ntmps8
    go_wp2_with fail
    go_ret
    exact ⟨rfl,HF.out _⟩
  all_goals rw [decide_eq_false (by unfold SmallP; omega)]
  all_goals go_enter Tryz.func8,Tryz.ntmps8
  all_goals go_wp2_with fail
  all_goals go_ret
  all_goals exact ⟨rfl,HF.out _⟩
def rowsV (v:Int):Bool:=decide (v = 106 ∨ v = 107 ∨ v = 71 ∨ v = 26471 ∨ v = 123 ∨ v = 125)
theorem rowsV_cases (v:Int):(rowsV v = true ∧ (v = 106 ∨ v = 107 ∨ v = 71 ∨ v = 26471 ∨ v = 123 ∨ v = 125)) ∨ (rowsV v = false ∧ (v == 106) = false ∧ (v == 107) = false ∧ (v == 71) = false ∧ (v == 26471) = false ∧ (v == 123) = false ∧ (v == 125) = false):=by
  by_cases h:v = 106 ∨ v = 107 ∨ v = 71 ∨ v = 26471 ∨ v = 123 ∨ v = 125
  · exact .inl ⟨decide_eq_true h,h⟩
  · refine .inr ⟨decide_eq_false h,?_⟩
    simp only [beq_eq_false_iff_ne]
    exact ⟨fun e => h (by omega),fun e => h (by omega),fun e => h (by omega),fun e => h (by omega),fun e => h (by omega),fun e => h (by omega)⟩
theorem kind_any (w:World) (v:Int):Calls Tryz.prog 13 #[.int .i64 v] w fun e w' => e = .returned (.int .i64 (cond (rowsV v) 1 0)) ∧ Fr [] w w':=by
  rcases rowsV_cases v with ⟨h,hv⟩ | ⟨h,h1,h2,h3,h4,h5,h6⟩
  · rw [h]
    rcases hv with rfl | rfl | rfl | rfl | rfl | rfl
    all_goals go_enter Tryz.func13,Tryz.ntmps13
    all_goals go_wp2_with fail
    all_goals go_ret
    all_goals exact ⟨rfl,Fr.refl _ _⟩
  · rw [h]
    clear h
    go_enter Tryz.func13,Tryz.ntmps13
    go_wp2_with fail
    go_ret
    exact ⟨rfl,Fr.refl _ _⟩
theorem mine26_any (w:World) (r c:Int) :
    Calls Tryz.prog 11 #[.agg #[.int .i64 r,.int .i64 c]] w fun e w' => e = .returned (.agg #[.int .i64 r,.int .i64 c]) ∧ Fr [] w w':=by
  go_enter Tryz.func11,Tryz.ntmps11
  obtain ⟨W1,hW1⟩:∃ Wx,Wx = ((w.alloc (.cells #[.int .i64 r,.int .i64 c] 24)).alloc (.cells #[.int .i64 r,.int .i64 c] 43)):=⟨_,rfl⟩
  obtain ⟨B1,hB1⟩:∃ Bx,Bx = w.heap.size:=⟨_,rfl⟩
  obtain ⟨B2,hB2⟩:∃ Bx,Bx = w.heap.size + 1:=⟨_,rfl⟩
  have HNB1:Hid (w.heap.size ≤ B1):=by
    show _ ≤ _
    omega
  have HNB2:Hid (w.heap.size ≤ B2 ∧ B2 ≠ B1):=by
    exact ⟨by omega,by omega⟩
  have HS1:Hid (Fr [] w W1 ∧ Blk W1 B1 24 #[.int .i64 r,.int .i64 c] ∧ Blk W1 B2 43 #[.int .i64 r,.int .i64 c]):=by
    have mB1:=Blk.new w 24 #[.int .i64 r,.int .i64 c]
    rw [← hB1] at mB1
    replace mB1:=mB1.alloc (.cells #[.int .i64 r,.int .i64 c] 43)
    have mB2:=Blk.new (w.alloc (.cells #[.int .i64 r,.int .i64 c] 24)) 43 #[.int .i64 r,.int .i64 c]
    simp only [World.size_alloc,World.size_setCell] at mB2
    rw [← hB2] at mB2
    rw [hW1]
    exact ⟨(((Fr.refl [] w).alloc _).alloc _),mB1,mB2⟩
  go_wp2_with fail
  try rw [← hW1]
  try rw [← hB2]
  try rw [← hB1]
  clear hW1 hB1 hB2
  have r0B2:=HS1.out.2.2.cell 0
  have r1B2:=HS1.out.2.2.cell 1
  refine bodyPost_ret (v:=.agg #[.int .i64 r,.int .i64 c]) (by simp [results,Tryz.results11,go_sem, *]) rfl ?_
  exact ⟨rfl,HS1.out.1⟩
set_option maxHeartbeats 1600000 in
theorem area_none (w:World) (p:Option Addr) (tl:Bool) (eo pr pc qr qc v:Int) (n:Nat)
    (HLN:Hid (∀ w',Fr [] w w' → Calls Tryz.prog 27 #[.agg #[.pointer p,.bool tl,.int .i64 eo]] w' fun en w'' => en = .returned (.int .i64 (n:Nat)) ∧ Fr [] w' w'')) (hn:n = 0) :
    Calls Tryz.prog 10 #[.agg #[.pointer p,.bool tl,.int .i64 eo],.agg #[.int .i64 pr,.int .i64 pc],.agg #[.int .i64 qr,.int .i64 qc],.int .i64 v] w fun e w' => e = .returned (.agg #[.int .i64 0,.int .i64 0,.int .i64 0,.int .i64 0]) ∧ Fr [] w w':=by
  subst hn
  go_enter Tryz.func10,Tryz.ntmps10
  obtain ⟨W1,hW1⟩:∃ Wx,Wx = ((((w.alloc (.cells #[.pointer p,.bool tl,.int .i64 eo] 31)).alloc (.cells #[.int .i64 pr,.int .i64 pc] 43)).alloc (.cells #[.int .i64 qr,.int .i64 qc] 43)).alloc (.cells #[.int .i64 0,.int .i64 0,.int .i64 0,.int .i64 0] 41)):=⟨_,rfl⟩
  obtain ⟨B1,hB1⟩:∃ Bx,Bx = w.heap.size:=⟨_,rfl⟩
  obtain ⟨B2,hB2⟩:∃ Bx,Bx = w.heap.size + 1:=⟨_,rfl⟩
  obtain ⟨B3,hB3⟩:∃ Bx,Bx = w.heap.size + 1 + 1:=⟨_,rfl⟩
  obtain ⟨B4,hB4⟩:∃ Bx,Bx = w.heap.size + 1 + 1 + 1:=⟨_,rfl⟩
  have HNB1:Hid (w.heap.size ≤ B1):=by
    show _ ≤ _
    omega
  have HNB2:Hid (w.heap.size ≤ B2 ∧ B2 ≠ B1):=by
    exact ⟨by omega,by omega⟩
  have HNB3:Hid (w.heap.size ≤ B3 ∧ B3 ≠ B1 ∧ B3 ≠ B2):=by
    exact ⟨by omega,by omega,by omega⟩
  have HNB4:Hid (w.heap.size ≤ B4 ∧ B4 ≠ B1 ∧ B4 ≠ B2 ∧ B4 ≠ B3):=by
    exact ⟨by omega,by omega,by omega,by omega⟩
  have HS1:Hid (Fr [] w W1 ∧ Blk W1 B1 31 #[.pointer p,.bool tl,.int .i64 eo] ∧ Blk W1 B2 43 #[.int .i64 pr,.int .i64 pc] ∧ Blk W1 B3 43 #[.int .i64 qr,.int .i64 qc] ∧ Blk W1 B4 41 #[.int .i64 0,.int .i64 0,.int .i64 0,.int .i64 0]):=by
    have mB1:=Blk.new w 31 #[.pointer p,.bool tl,.int .i64 eo]
    rw [← hB1] at mB1
    replace mB1:=mB1.alloc (.cells #[.int .i64 pr,.int .i64 pc] 43)
    replace mB1:=mB1.alloc (.cells #[.int .i64 qr,.int .i64 qc] 43)
    replace mB1:=mB1.alloc (.cells #[.int .i64 0,.int .i64 0,.int .i64 0,.int .i64 0] 41)
    have mB2:=Blk.new (w.alloc (.cells #[.pointer p,.bool tl,.int .i64 eo] 31)) 43 #[.int .i64 pr,.int .i64 pc]
    simp only [World.size_alloc,World.size_setCell] at mB2
    rw [← hB2] at mB2
    replace mB2:=mB2.alloc (.cells #[.int .i64 qr,.int .i64 qc] 43)
    replace mB2:=mB2.alloc (.cells #[.int .i64 0,.int .i64 0,.int .i64 0,.int .i64 0] 41)
    have mB3:=Blk.new ((w.alloc (.cells #[.pointer p,.bool tl,.int .i64 eo] 31)).alloc (.cells #[.int .i64 pr,.int .i64 pc] 43)) 43 #[.int .i64 qr,.int .i64 qc]
    simp only [World.size_alloc,World.size_setCell] at mB3
    rw [← hB3] at mB3
    replace mB3:=mB3.alloc (.cells #[.int .i64 0,.int .i64 0,.int .i64 0,.int .i64 0] 41)
    have mB4:=Blk.new (((w.alloc (.cells #[.pointer p,.bool tl,.int .i64 eo] 31)).alloc (.cells #[.int .i64 pr,.int .i64 pc] 43)).alloc (.cells #[.int .i64 qr,.int .i64 qc] 43)) 41 #[.int .i64 0,.int .i64 0,.int .i64 0,.int .i64 0]
    simp only [World.size_alloc,World.size_setCell] at mB4
    rw [← hB4] at mB4
    rw [hW1]
    exact ⟨(((((Fr.refl [] w).alloc _).alloc _).alloc _).alloc _),mB1,mB2,mB3,mB4⟩
  go_wp2_with fail
  try rw [← hW1]
  try rw [← hB4]
  try rw [← hB3]
  try rw [← hB2]
  try rw [← hB1]
  clear hW1 hB1 hB2 hB3 hB4
  refine (HLN.out W1 HS1.out.1).mono ?_
  rintro en w1 ⟨rfl,hf1⟩
  have HS2:Hid (Fr [] w w1 ∧ Blk w1 B1 31 #[.pointer p,.bool tl,.int .i64 eo] ∧ Blk w1 B2 43 #[.int .i64 pr,.int .i64 pc] ∧ Blk w1 B3 43 #[.int .i64 qr,.int .i64 qc] ∧ Blk w1 B4 41 #[.int .i64 0,.int .i64 0,.int .i64 0,.int .i64 0]):=⟨HS1.out.1.trans hf1,HS1.out.2.1.fr hf1 (by simp),HS1.out.2.2.1.fr hf1 (by simp),HS1.out.2.2.2.1.fr hf1 (by simp),HS1.out.2.2.2.2.fr hf1 (by simp)⟩
  clear hf1
  obtain ⟨W3,hW3⟩:∃ Wx,Wx = ((((w1.setCell ⟨B4,0,none⟩ (.int .i64 0)).setCell ⟨B4,1,none⟩ (.int .i64 0)).setCell ⟨B4,2,none⟩ (.int .i64 0)).setCell ⟨B4,3,none⟩ (.int .i64 0)):=⟨_,rfl⟩
  have HS3:Hid (Fr [] w W3 ∧ Blk W3 B1 31 #[.pointer p,.bool tl,.int .i64 eo] ∧ Blk W3 B2 43 #[.int .i64 pr,.int .i64 pc] ∧ Blk W3 B3 43 #[.int .i64 qr,.int .i64 qc] ∧ Blk W3 B4 41 #[.int .i64 0,.int .i64 0,.int .i64 0,.int .i64 0]):=by
    have mB1:=HS2.out.2.1
    replace mB1:=mB1.far (p:=⟨B4,0,none⟩) (fun e => by have e:B1 = B4:=e; have:=HNB4.out; omega) (.int .i64 0)
    replace mB1:=mB1.far (p:=⟨B4,1,none⟩) (fun e => by have e:B1 = B4:=e; have:=HNB4.out; omega) (.int .i64 0)
    replace mB1:=mB1.far (p:=⟨B4,2,none⟩) (fun e => by have e:B1 = B4:=e; have:=HNB4.out; omega) (.int .i64 0)
    replace mB1:=mB1.far (p:=⟨B4,3,none⟩) (fun e => by have e:B1 = B4:=e; have:=HNB4.out; omega) (.int .i64 0)
    have mB2:=HS2.out.2.2.1
    replace mB2:=mB2.far (p:=⟨B4,0,none⟩) (fun e => by have e:B2 = B4:=e; have:=HNB4.out; omega) (.int .i64 0)
    replace mB2:=mB2.far (p:=⟨B4,1,none⟩) (fun e => by have e:B2 = B4:=e; have:=HNB4.out; omega) (.int .i64 0)
    replace mB2:=mB2.far (p:=⟨B4,2,none⟩) (fun e => by have e:B2 = B4:=e; have:=HNB4.out; omega) (.int .i64 0)
    replace mB2:=mB2.far (p:=⟨B4,3,none⟩) (fun e => by have e:B2 = B4:=e; have:=HNB4.out; omega) (.int .i64 0)
    have mB3:=HS2.out.2.2.2.1
    replace mB3:=mB3.far (p:=⟨B4,0,none⟩) (fun e => by have e:B3 = B4:=e; have:=HNB4.out; omega) (.int .i64 0)
    replace mB3:=mB3.far (p:=⟨B4,1,none⟩) (fun e => by have e:B3 = B4:=e; have:=HNB4.out; omega) (.int .i64 0)
    replace mB3:=mB3.far (p:=⟨B4,2,none⟩) (fun e => by have e:B3 = B4:=e; have:=HNB4.out; omega) (.int .i64 0)
    replace mB3:=mB3.far (p:=⟨B4,3,none⟩) (fun e => by have e:B3 = B4:=e; have:=HNB4.out; omega) (.int .i64 0)
    have mB4:=HS2.out.2.2.2.2
    replace mB4:Blk (w1.setCell ⟨B4,0,none⟩ (.int .i64 0)) B4 41 #[.int .i64 0,.int .i64 0,.int .i64 0,.int .i64 0]:=by simpa using mB4.set_ 0 (.int .i64 0)
    replace mB4:Blk ((w1.setCell ⟨B4,0,none⟩ (.int .i64 0)).setCell ⟨B4,1,none⟩ (.int .i64 0)) B4 41 #[.int .i64 0,.int .i64 0,.int .i64 0,.int .i64 0]:=by simpa using mB4.set_ 1 (.int .i64 0)
    replace mB4:Blk (((w1.setCell ⟨B4,0,none⟩ (.int .i64 0)).setCell ⟨B4,1,none⟩ (.int .i64 0)).setCell ⟨B4,2,none⟩ (.int .i64 0)) B4 41 #[.int .i64 0,.int .i64 0,.int .i64 0,.int .i64 0]:=by simpa using mB4.set_ 2 (.int .i64 0)
    replace mB4:Blk ((((w1.setCell ⟨B4,0,none⟩ (.int .i64 0)).setCell ⟨B4,1,none⟩ (.int .i64 0)).setCell ⟨B4,2,none⟩ (.int .i64 0)).setCell ⟨B4,3,none⟩ (.int .i64 0)) B4 41 #[.int .i64 0,.int .i64 0,.int .i64 0,.int .i64 0]:=by simpa using mB4.set_ 3 (.int .i64 0)
    rw [hW3]
    exact ⟨((((HS2.out.1.setB (fun h => absurd h (by have:=HNB4.out; omega)) _ _).setB (fun h => absurd h (by have:=HNB4.out; omega)) _ _).setB (fun h => absurd h (by have:=HNB4.out; omega)) _ _).setB (fun h => absurd h (by have:=HNB4.out; omega)) _ _),mB1,mB2,mB3,mB4⟩
  have fc1:w1.cell? ⟨B4,0,none⟩ = some (.int .i64 0):=HS2.out.2.2.2.2.cell 0
  have fc2:=HS2.out.2.2.2.2.frozen 0
  have fc3:=HS2.out.2.2.2.2.lt
  have fc4:w1.cell? ⟨B4,1,none⟩ = some (.int .i64 0):=HS2.out.2.2.2.2.cell 1
  have fc5:=HS2.out.2.2.2.2.frozen 1
  have fc6:w1.cell? ⟨B4,2,none⟩ = some (.int .i64 0):=HS2.out.2.2.2.2.cell 2
  have fc7:=HS2.out.2.2.2.2.frozen 2
  have fc8:w1.cell? ⟨B4,3,none⟩ = some (.int .i64 0):=HS2.out.2.2.2.2.cell 3
  have fc9:=HS2.out.2.2.2.2.frozen 3
  go_wp2_with fail
  try rw [← hW3]
  clear fc1 fc2 fc3 fc4 fc5 fc6 fc7 fc8 fc9 hW3
  have r0B4:=HS3.out.2.2.2.2.cell 0
  have r1B4:=HS3.out.2.2.2.2.cell 1
  have r2B4:=HS3.out.2.2.2.2.cell 2
  have r3B4:=HS3.out.2.2.2.2.cell 3
  refine bodyPost_ret (v:=.agg #[.int .i64 0,.int .i64 0,.int .i64 0,.int .i64 0]) (by simp [results,Tryz.results10,go_sem, *]) rfl ?_
  exact ⟨rfl,HS3.out.1⟩
def areaV (b:Bool) (a1 c1 a2 c2:Int) (m:Nat):Array Value:=cond b #[.int .i64 (min a1 a2),.int .i64 0,.int .i64 (max a1 a2 - min a1 a2 + 1),.int .i64 (m:Nat)] #[.int .i64 (min a1 a2),.int .i64 (min c1 c2),.int .i64 (max a1 a2 - min a1 a2 + 1),.int .i64 (max c1 c2 - min c1 c2 + 1)]
set_option maxRecDepth 100000 in
set_option maxHeartbeats 3200000 in
theorem area_some (w:World) (p:Option Addr) (tl:Bool) (eo pr pc qr qc v a1 c1 a2 c2:Int) (n m:Nat)
    (HLN:Hid (∀ w',Fr [] w w' → Calls Tryz.prog 27 #[.agg #[.pointer p,.bool tl,.int .i64 eo]] w' fun en w'' => en = .returned (.int .i64 (n:Nat)) ∧ Fr [] w' w''))
    (HWD:Hid (∀ w',Fr [] w w' → Calls Tryz.prog 19 #[.agg #[.pointer p,.bool tl,.int .i64 eo]] w' fun en w'' => en = .returned (.int .i64 (m:Nat)) ∧ Fr [] w' w''))
    (HT1:Hid (∀ w',Fr [] w w' → Calls Tryz.prog 15 #[.agg #[.pointer p,.bool tl,.int .i64 eo],.agg #[.int .i64 pr,.int .i64 pc]] w' fun en w'' => en = .returned (.agg #[.int .i64 a1,.int .i64 c1]) ∧ Fr [] w' w''))
    (HT2:Hid (∀ w',Fr [] w w' → Calls Tryz.prog 15 #[.agg #[.pointer p,.bool tl,.int .i64 eo],.agg #[.int .i64 qr,.int .i64 qc]] w' fun en w'' => en = .returned (.agg #[.int .i64 a2,.int .i64 c2]) ∧ Fr [] w' w''))
    (hb:0 ≤ a1 ∧ a1 ≤ 1000 ∧ 0 ≤ a2 ∧ a2 ≤ 1000 ∧ 0 ≤ c1 ∧ c1 ≤ 1000 ∧ 0 ≤ c2 ∧ c2 ≤ 1000) (hn:0 < n) :
    Calls Tryz.prog 10 #[.agg #[.pointer p,.bool tl,.int .i64 eo],.agg #[.int .i64 pr,.int .i64 pc],.agg #[.int .i64 qr,.int .i64 qc],.int .i64 v] w fun e w' => e = .returned (.agg (areaV (rowsV v) a1 c1 a2 c2 m)) ∧ Fr [] w w':=by
  unfold areaV
  obtain ⟨mr,hmr⟩:∃ mr,mr = min a1 a2:=⟨_,rfl⟩
  obtain ⟨mc,hmc⟩:∃ mc,mc = min c1 c2:=⟨_,rfl⟩
  obtain ⟨Mr,hMr⟩:∃ Mr,Mr = max a1 a2:=⟨_,rfl⟩
  obtain ⟨Mc,hMc⟩:∃ Mc,Mc = max c1 c2:=⟨_,rfl⟩
  have k1:(if a2 < a1 then a2 else a1) = mr:=by rw [hmr]; split <;> omega
  have k2:(if c2 < c1 then c2 else c1) = mc:=by rw [hmc]; split <;> omega
  have k3:(if a1 < a2 then a2 else a1) = Mr:=by rw [hMr]; split <;> omega
  have k4:(if c1 < c2 then c2 else c1) = Mc:=by rw [hMc]; split <;> omega
  have hw1:IntKind.i64.wrap (Mr - mr) = Mr - mr:=IntWalk.i64_in _ (by omega)
  have hw2:IntKind.i64.wrap (Mr - mr + 1) = Mr - mr + 1:=IntWalk.i64_in _ (by omega)
  have hw3:IntKind.i64.wrap (Mc - mc) = Mc - mc:=IntWalk.i64_in _ (by omega)
  have hw4:IntKind.i64.wrap (Mc - mc + 1) = Mc - mc + 1:=IntWalk.i64_in _ (by omega)
  have hn0:((n:Int) == 0) = false:=by rw [beq_eq_false_iff_ne]; omega
  obtain ⟨rb,hrb⟩:∃ rb,rb = rowsV v:=⟨_,rfl⟩
  have HKV:Hid (∀ w',Calls Tryz.prog 13 #[.int .i64 v] w' fun en w'' => en = .returned (.int .i64 (cond rb 1 0)) ∧ Fr [] w' w''):=by
    show ∀ _,_
    intro w'
    rw [hrb]
    exact kind_any w' v
  rw [← hmr,← hMr,← hmc,← hMc,← hrb]
  clear hmr hmc hMr hMc hb hn hrb
  go_enter Tryz.func10,Tryz.ntmps10
  obtain ⟨W1,hW1⟩:∃ Wx,Wx = ((((w.alloc (.cells #[.pointer p,.bool tl,.int .i64 eo] 31)).alloc (.cells #[.int .i64 pr,.int .i64 pc] 43)).alloc (.cells #[.int .i64 qr,.int .i64 qc] 43)).alloc (.cells #[.int .i64 0,.int .i64 0,.int .i64 0,.int .i64 0] 41)):=⟨_,rfl⟩
  obtain ⟨B1,hB1⟩:∃ Bx,Bx = w.heap.size:=⟨_,rfl⟩
  obtain ⟨B2,hB2⟩:∃ Bx,Bx = w.heap.size + 1:=⟨_,rfl⟩
  obtain ⟨B3,hB3⟩:∃ Bx,Bx = w.heap.size + 1 + 1:=⟨_,rfl⟩
  obtain ⟨B4,hB4⟩:∃ Bx,Bx = w.heap.size + 1 + 1 + 1:=⟨_,rfl⟩
  have HNB1:Hid (w.heap.size ≤ B1):=by
    show _ ≤ _
    omega
  have HNB2:Hid (w.heap.size ≤ B2 ∧ B2 ≠ B1):=by
    exact ⟨by omega,by omega⟩
  have HNB3:Hid (w.heap.size ≤ B3 ∧ B3 ≠ B1 ∧ B3 ≠ B2):=by
    exact ⟨by omega,by omega,by omega⟩
  have HNB4:Hid (w.heap.size ≤ B4 ∧ B4 ≠ B1 ∧ B4 ≠ B2 ∧ B4 ≠ B3):=by
    exact ⟨by omega,by omega,by omega,by omega⟩
  have HS1:Hid (Fr [] w W1 ∧ Blk W1 B1 31 #[.pointer p,.bool tl,.int .i64 eo] ∧ Blk W1 B2 43 #[.int .i64 pr,.int .i64 pc] ∧ Blk W1 B3 43 #[.int .i64 qr,.int .i64 qc] ∧ Blk W1 B4 41 #[.int .i64 0,.int .i64 0,.int .i64 0,.int .i64 0]):=by
    have mB1:=Blk.new w 31 #[.pointer p,.bool tl,.int .i64 eo]
    rw [← hB1] at mB1
    replace mB1:=mB1.alloc (.cells #[.int .i64 pr,.int .i64 pc] 43)
    replace mB1:=mB1.alloc (.cells #[.int .i64 qr,.int .i64 qc] 43)
    replace mB1:=mB1.alloc (.cells #[.int .i64 0,.int .i64 0,.int .i64 0,.int .i64 0] 41)
    have mB2:=Blk.new (w.alloc (.cells #[.pointer p,.bool tl,.int .i64 eo] 31)) 43 #[.int .i64 pr,.int .i64 pc]
    simp only [World.size_alloc,World.size_setCell] at mB2
    rw [← hB2] at mB2
    replace mB2:=mB2.alloc (.cells #[.int .i64 qr,.int .i64 qc] 43)
    replace mB2:=mB2.alloc (.cells #[.int .i64 0,.int .i64 0,.int .i64 0,.int .i64 0] 41)
    have mB3:=Blk.new ((w.alloc (.cells #[.pointer p,.bool tl,.int .i64 eo] 31)).alloc (.cells #[.int .i64 pr,.int .i64 pc] 43)) 43 #[.int .i64 qr,.int .i64 qc]
    simp only [World.size_alloc,World.size_setCell] at mB3
    rw [← hB3] at mB3
    replace mB3:=mB3.alloc (.cells #[.int .i64 0,.int .i64 0,.int .i64 0,.int .i64 0] 41)
    have mB4:=Blk.new (((w.alloc (.cells #[.pointer p,.bool tl,.int .i64 eo] 31)).alloc (.cells #[.int .i64 pr,.int .i64 pc] 43)).alloc (.cells #[.int .i64 qr,.int .i64 qc] 43)) 41 #[.int .i64 0,.int .i64 0,.int .i64 0,.int .i64 0]
    simp only [World.size_alloc,World.size_setCell] at mB4
    rw [← hB4] at mB4
    rw [hW1]
    exact ⟨(((((Fr.refl [] w).alloc _).alloc _).alloc _).alloc _),mB1,mB2,mB3,mB4⟩
  go_wp2_with fail
  try rw [← hW1]
  try rw [← hB4]
  try rw [← hB3]
  try rw [← hB2]
  try rw [← hB1]
  clear hW1 hB1 hB2 hB3 hB4
  refine (HLN.out W1 HS1.out.1).mono ?_
  rintro en w1 ⟨rfl,hf1⟩
  have HS2:Hid (Fr [] w w1 ∧ Blk w1 B1 31 #[.pointer p,.bool tl,.int .i64 eo] ∧ Blk w1 B2 43 #[.int .i64 pr,.int .i64 pc] ∧ Blk w1 B3 43 #[.int .i64 qr,.int .i64 qc] ∧ Blk w1 B4 41 #[.int .i64 0,.int .i64 0,.int .i64 0,.int .i64 0]):=⟨HS1.out.1.trans hf1,HS1.out.2.1.fr hf1 (by simp),HS1.out.2.2.1.fr hf1 (by simp),HS1.out.2.2.2.1.fr hf1 (by simp),HS1.out.2.2.2.2.fr hf1 (by simp)⟩
  clear hf1
  go_wp2_with fail
  obtain ⟨F,hF⟩:∃ F:Nat → Value → Prop,F = (fun (i:Nat) (v:Value) => match i with | 0 => v = .agg #[.pointer p,.bool tl,.int .i64 eo] | 1 => v = .agg #[.int .i64 pr,.int .i64 pc] | 2 => v = .agg #[.int .i64 a1,.int .i64 c1] | 3 => v = .agg #[.pointer p,.bool tl,.int .i64 eo] | 4 => v = .agg #[.int .i64 qr,.int .i64 qc] | 5 => v = .agg #[.int .i64 a2,.int .i64 c2] | _ => True):=⟨_,rfl⟩
  obtain ⟨Bx,hBx⟩:∃ Bx:(Nat → Bool) → World → Prop,Bx = (fun f w => Blk w B2 43 #[cond (f 6) (.int .i64 a1) (.int .i64 pr),cond (f 6) (.int .i64 c1) (.int .i64 pc)] ∧ Blk w B3 43 #[cond (f 7) (.int .i64 a2) (.int .i64 qr),cond (f 7) (.int .i64 c2) (.int .i64 qc)]):=⟨_,rfl⟩
  have HB0:Hid (∀ f w1 w2,Fr [] w1 w2 → Bx f w1 → Bx f w2):=by
    show ∀ _,_
    intro f w1 w2 hf h
    subst hBx
    exact ⟨h.1.fr hf (by simp),h.2.fr hf (by simp)⟩
  have HB1:Hid (∀ f i w,6 ≠ i → 7 ≠ i → Bx f w → Bx (addB f i) w):=by
    show ∀ _,_
    intro f i w n6 n7 h
    subst hBx
    simpa only [addB_ne n6,addB_ne n7] using h
  have HFG:=Lib.hid (And.intro hF hBx)
  clear hF hBx
  have HC4:Hid (∀ w',Fr [some B2,some B3] w1 w' → (w'.cell? ⟨B1,0,none⟩ = some (.pointer p) ∧ w'.cell? ⟨B1,1,none⟩ = some (.bool tl) ∧ w'.cell? ⟨B1,2,none⟩ = some (.int .i64 eo))):=by
    show ∀ _,_
    intro w' hf
    have h0:=HS2.out.2.1.fr hf (by
      intro hx
      simp only [List.mem_cons,List.not_mem_nil,or_false,Option.some.injEq] at hx
      rcases hx with e | e
      · exact (fun e => by have e:B1 = B2:=e; have:=HNB2.out; omega) e
      · exact (fun e => by have e:B1 = B3:=e; have:=HNB3.out; omega) e)
    exact ⟨h0.cell 0,h0.cell 1,h0.cell 2⟩
  have HOW:Hid (∀ w',Fr [some B2,some B3] w1 w' → Fr [] w w'):=by
    show ∀ _,_
    intro w' hf
    exact HS2.out.1.seq hf fun z hz => by
      simp only [List.mem_cons,List.not_mem_nil,or_false] at hz
      rcases hz with e | e
      · exact .inr (.inr ⟨_,HNB2.out.1,e⟩)
      · exact .inr (.inr ⟨_,HNB3.out.1,e⟩)
  refine wp_region_invc (by kernel_rfl) (fun f a w' => ∃ u:Nat → Value,a = { tmps:=#[.agg #[.pointer p,.bool tl,.int .i64 eo],.agg #[.int .i64 pr,.int .i64 pc],.agg #[.int .i64 qr,.int .i64 qc],.int .i64 v,.pointer (some ⟨B1,0,none⟩),.pointer (some ⟨B2,0,none⟩),.pointer (some ⟨B3,0,none⟩),undef,.pointer (some ⟨B4,0,none⟩),undef,.agg #[.pointer p,.bool tl,.int .i64 eo],.int .i64 (n:Nat),.bool false,undef,u 0,u 1,u 2,u 3,u 4,u 5,undef,undef,undef,undef,undef,undef,undef,undef,undef,undef,undef,undef,undef,undef,undef,undef,undef,undef,undef,undef,undef,undef,undef,undef,undef,undef,undef,undef,undef,undef,undef,undef,undef,undef,undef,undef,undef,undef,undef],defers:=[] } ∧ Hid (RInvS [some B2,some B3] F Bx w1 f u w')) (by kernel_rfl) ?_ ?_ ?_
  · exact ⟨fun _ => undef,rfl,RInvS.start _ (by rw [HFG.out.2]; exact ⟨HS2.out.2.2.1.drew,HS2.out.2.2.2.1.drew⟩)⟩
  · simp only [EachOp]
    refine ⟨?_,?_,?_,?_,?_,?_,?_,?_,trivial⟩
    all_goals rintro f a w' hfi hdep hcl ⟨u,rfl,HI⟩ K hK
    · obtain ⟨q0_0,q0_1,q0_2⟩:=HC4.out w' HI.out.fr
      go_simp
      exact hK _ _ ⟨updU u 0 (.agg #[.pointer p,.bool tl,.int .i64 eo]),rfl,HI.out.val (by rw [HFG.out.1]; exact rfl) (HB1.out _ _ _ (by decide) (by decide) HI.out.b)⟩
    · have hbx:=HI.out.b
      rw [HFG.out.2] at hbx
      have hL6:f 6 = false:=by
        cases g6:f 6 with
        | false => rfl
        | true =>
          have g1:=hcl 6 _ rfl g6 ⟨1,.phase⟩ (by simp) rfl
          exact Bool.noConfusion (g1.symm.trans hfi)
      have t0:w'.cell? ⟨B2,0,none⟩ = some (.int .i64 pr):=by
        have:=(hbx.1).cell 0
        simpa [hL6] using this
      have t1:w'.cell? ⟨B2,1,none⟩ = some (.int .i64 pc):=by
        have:=(hbx.1).cell 1
        simpa [hL6] using this
      clear hbx
      go_simp
      exact hK _ _ ⟨updU u 1 (.agg #[.int .i64 pr,.int .i64 pc]),rfl,HI.out.val (by rw [HFG.out.1]; exact rfl) (HB1.out _ _ _ (by decide) (by decide) HI.out.b)⟩
    · have e0:u 0 = .agg #[.pointer p,.bool tl,.int .i64 eo]:=HI.out.get HFG.out.1 (i:=0) (hdep ⟨0,.data⟩ (by simp) rfl)
      have e1:u 1 = .agg #[.int .i64 pr,.int .i64 pc]:=HI.out.get HFG.out.1 (i:=1) (hdep ⟨1,.data⟩ (by simp) rfl)
      refine step_call _ (by rfl) 15 #[.agg #[.pointer p,.bool tl,.int .i64 eo],.agg #[.int .i64 pr,.int .i64 pc]] (by go_simp) _ (HT1.out w' (HOW.out _ HI.out.fr)) (by rintro e w' ⟨he,_⟩; exact ⟨_,he⟩) ?_
      rintro v4 w4 ⟨hv4,hf4⟩
      injection hv4 with hv4
      subst hv4
      try go_simp
      exact hK _ _ ⟨updU u 2 (.agg #[.int .i64 a1,.int .i64 c1]),(by simp [updU,e0,e1] <;> (repeat' apply And.intro) <;> rfl),HI.out.call hf4 (by rw [HFG.out.1]; exact rfl) (HB1.out _ _ _ (by decide) (by decide) (HB0.out _ _ _ hf4 HI.out.b))⟩
    · obtain ⟨q0_0,q0_1,q0_2⟩:=HC4.out w' HI.out.fr
      go_simp
      exact hK _ _ ⟨updU u 3 (.agg #[.pointer p,.bool tl,.int .i64 eo]),rfl,HI.out.val (by rw [HFG.out.1]; exact rfl) (HB1.out _ _ _ (by decide) (by decide) HI.out.b)⟩
    · have hbx:=HI.out.b
      rw [HFG.out.2] at hbx
      have hL7:f 7 = false:=by
        cases g7:f 7 with
        | false => rfl
        | true =>
          have g4:=hcl 7 _ rfl g7 ⟨4,.phase⟩ (by simp) rfl
          exact Bool.noConfusion (g4.symm.trans hfi)
      have t0:w'.cell? ⟨B3,0,none⟩ = some (.int .i64 qr):=by
        have:=(hbx.2).cell 0
        simpa [hL7] using this
      have t1:w'.cell? ⟨B3,1,none⟩ = some (.int .i64 qc):=by
        have:=(hbx.2).cell 1
        simpa [hL7] using this
      clear hbx
      go_simp
      exact hK _ _ ⟨updU u 4 (.agg #[.int .i64 qr,.int .i64 qc]),rfl,HI.out.val (by rw [HFG.out.1]; exact rfl) (HB1.out _ _ _ (by decide) (by decide) HI.out.b)⟩
    · have e3:u 3 = .agg #[.pointer p,.bool tl,.int .i64 eo]:=HI.out.get HFG.out.1 (i:=3) (hdep ⟨3,.data⟩ (by simp) rfl)
      have e4:u 4 = .agg #[.int .i64 qr,.int .i64 qc]:=HI.out.get HFG.out.1 (i:=4) (hdep ⟨4,.data⟩ (by simp) rfl)
      refine step_call _ (by rfl) 15 #[.agg #[.pointer p,.bool tl,.int .i64 eo],.agg #[.int .i64 qr,.int .i64 qc]] (by go_simp) _ (HT2.out w' (HOW.out _ HI.out.fr)) (by rintro e w' ⟨he,_⟩; exact ⟨_,he⟩) ?_
      rintro v4 w4 ⟨hv4,hf4⟩
      injection hv4 with hv4
      subst hv4
      try go_simp
      exact hK _ _ ⟨updU u 5 (.agg #[.int .i64 a2,.int .i64 c2]),(by simp [updU,e3,e4] <;> (repeat' apply And.intro) <;> rfl),HI.out.call hf4 (by rw [HFG.out.1]; exact rfl) (HB1.out _ _ _ (by decide) (by decide) (HB0.out _ _ _ hf4 HI.out.b))⟩
    · have e2:u 2 = .agg #[.int .i64 a1,.int .i64 c1]:=HI.out.get HFG.out.1 (i:=2) (hdep ⟨2,.data⟩ (by simp) rfl)
      have hbx:=HI.out.b
      rw [HFG.out.2] at hbx
      have hbb:=hbx.1
      have t0:=hbb.cell 0
      have z0:=hbb.frozen 0
      have t1:=hbb.cell 1
      have z1:=hbb.frozen 1
      have tl:=hbb.lt
      simp only [List.getElem?_toArray,List.getElem?_cons_zero,List.getElem?_cons_succ] at t0 t1
      go_simp
      exact hK _ _ ⟨u,(by first | rfl | (simp [e2] <;> rfl)),HI.out.put (((Fr.refl _ _).setB (fun _ => by simp) _ _).setB (fun _ => by simp) _ _) (by rw [HFG.out.1]; exact trivial) (by rw [HFG.out.2]; exact ⟨by simpa [addB] using ((hbx.1.set_ 0 (.int .i64 a1)).set_ 1 (.int .i64 c1)),by simpa [addB] using ((hbx.2.far (p:=⟨B2,0,none⟩) (fun e => by have e:B3 = B2:=e; have:=HNB3.out; omega) (.int .i64 a1)).far (p:=⟨B2,1,none⟩) (fun e => by have e:B3 = B2:=e; have:=HNB3.out; omega) (.int .i64 c1))⟩)⟩
    · have e5:u 5 = .agg #[.int .i64 a2,.int .i64 c2]:=HI.out.get HFG.out.1 (i:=5) (hdep ⟨5,.data⟩ (by simp) rfl)
      have hbx:=HI.out.b
      rw [HFG.out.2] at hbx
      have hbb:=hbx.2
      have t0:=hbb.cell 0
      have z0:=hbb.frozen 0
      have t1:=hbb.cell 1
      have z1:=hbb.frozen 1
      have tl:=hbb.lt
      simp only [List.getElem?_toArray,List.getElem?_cons_zero,List.getElem?_cons_succ] at t0 t1
      go_simp
      exact hK _ _ ⟨u,(by first | rfl | (simp [e5] <;> rfl)),HI.out.put (((Fr.refl _ _).setB (fun _ => by simp) _ _).setB (fun _ => by simp) _ _) (by rw [HFG.out.1]; exact trivial) (by rw [HFG.out.2]; exact ⟨by simpa [addB] using ((hbx.1.far (p:=⟨B3,0,none⟩) (fun e => by have e:B2 = B3:=e; have:=HNB3.out; omega) (.int .i64 a2)).far (p:=⟨B3,1,none⟩) (fun e => by have e:B2 = B3:=e; have:=HNB3.out; omega) (.int .i64 c2)),by simpa [addB] using ((hbx.2.set_ 0 (.int .i64 a2)).set_ 1 (.int .i64 c2))⟩)⟩
  rintro f a wr4 hall ⟨u,rfl,HI⟩
  have e0:u 0 = .agg #[.pointer p,.bool tl,.int .i64 eo]:=HI.out.get HFG.out.1 (i:=0) (hall 0 (by decide))
  have e1:u 1 = .agg #[.int .i64 pr,.int .i64 pc]:=HI.out.get HFG.out.1 (i:=1) (hall 1 (by decide))
  have e2:u 2 = .agg #[.int .i64 a1,.int .i64 c1]:=HI.out.get HFG.out.1 (i:=2) (hall 2 (by decide))
  have e3:u 3 = .agg #[.pointer p,.bool tl,.int .i64 eo]:=HI.out.get HFG.out.1 (i:=3) (hall 3 (by decide))
  have e4:u 4 = .agg #[.int .i64 qr,.int .i64 qc]:=HI.out.get HFG.out.1 (i:=4) (hall 4 (by decide))
  have e5:u 5 = .agg #[.int .i64 a2,.int .i64 c2]:=HI.out.get HFG.out.1 (i:=5) (hall 5 (by decide))
  have hbx:=HI.out.b
  rw [HFG.out.2] at hbx
  simp only [hall 6 (by decide),hall 7 (by decide),cond_true] at hbx
  try dsimp only
  simp only [e0,e1,e2,e3,e4,e5]
  have HS5:Hid (Fr [] w wr4 ∧ Blk wr4 B1 31 #[.pointer p,.bool tl,.int .i64 eo] ∧ Blk wr4 B2 43 #[.int .i64 a1,.int .i64 c1] ∧ Blk wr4 B3 43 #[.int .i64 a2,.int .i64 c2] ∧ Blk wr4 B4 41 #[.int .i64 0,.int .i64 0,.int .i64 0,.int .i64 0]):=⟨HOW.out _ HI.out.fr,HS2.out.2.1.fr HI.out.fr (by
      intro hx
      simp only [List.mem_cons,List.not_mem_nil,or_false,Option.some.injEq] at hx
      rcases hx with e | e
      · exact (fun e => by have e:B1 = B2:=e; have:=HNB2.out; omega) e
      · exact (fun e => by have e:B1 = B3:=e; have:=HNB3.out; omega) e),hbx.1,hbx.2,HS2.out.2.2.2.2.fr HI.out.fr (by
      intro hx
      simp only [List.mem_cons,List.not_mem_nil,or_false,Option.some.injEq] at hx
      rcases hx with e | e
      · exact (fun e => by have e:B4 = B2:=e; have:=HNB4.out; omega) e
      · exact (fun e => by have e:B4 = B3:=e; have:=HNB4.out; omega) e)⟩
  clear e0 e1 e2 e3 e4 e5 HI hall HFG HB0 HB1 hbx HC4 HOW
  obtain ⟨W6,hW6⟩:∃ Wx,Wx = (wr4.alloc (.cells #[.int .i64 mr,.int .i64 mc,.int .i64 0,.int .i64 0] 41)):=⟨_,rfl⟩
  obtain ⟨B5,hB5⟩:∃ Bx,Bx = wr4.heap.size:=⟨_,rfl⟩
  have HNB5:Hid (w.heap.size ≤ B5 ∧ B5 ≠ B1 ∧ B5 ≠ B2 ∧ B5 ≠ B3 ∧ B5 ≠ B4):=by
    have h0:=HS5.out.1.size
    have:=HS5.out.2.1.lt
    have:=HS5.out.2.2.1.lt
    have:=HS5.out.2.2.2.1.lt
    have:=HS5.out.2.2.2.2.lt
    exact ⟨by omega,by omega,by omega,by omega,by omega⟩
  have HS6:Hid (Fr [] w W6 ∧ Blk W6 B1 31 #[.pointer p,.bool tl,.int .i64 eo] ∧ Blk W6 B2 43 #[.int .i64 a1,.int .i64 c1] ∧ Blk W6 B3 43 #[.int .i64 a2,.int .i64 c2] ∧ Blk W6 B4 41 #[.int .i64 0,.int .i64 0,.int .i64 0,.int .i64 0] ∧ Blk W6 B5 41 #[.int .i64 mr,.int .i64 mc,.int .i64 0,.int .i64 0]):=by
    have mB1:=HS5.out.2.1
    replace mB1:=mB1.alloc (.cells #[.int .i64 mr,.int .i64 mc,.int .i64 0,.int .i64 0] 41)
    have mB2:=HS5.out.2.2.1
    replace mB2:=mB2.alloc (.cells #[.int .i64 mr,.int .i64 mc,.int .i64 0,.int .i64 0] 41)
    have mB3:=HS5.out.2.2.2.1
    replace mB3:=mB3.alloc (.cells #[.int .i64 mr,.int .i64 mc,.int .i64 0,.int .i64 0] 41)
    have mB4:=HS5.out.2.2.2.2
    replace mB4:=mB4.alloc (.cells #[.int .i64 mr,.int .i64 mc,.int .i64 0,.int .i64 0] 41)
    have mB5:=Blk.new wr4 41 #[.int .i64 mr,.int .i64 mc,.int .i64 0,.int .i64 0]
    rw [← hB5] at mB5
    rw [hW6]
    exact ⟨(HS5.out.1.alloc _),mB1,mB2,mB3,mB4,mB5⟩
  have fc1:wr4.cell? ⟨B2,0,none⟩ = some (.int .i64 a1):=HS5.out.2.2.1.cell 0
  have fc2:wr4.cell? ⟨B3,0,none⟩ = some (.int .i64 a2):=HS5.out.2.2.2.1.cell 0
  have fc3:wr4.cell? ⟨B2,1,none⟩ = some (.int .i64 c1):=HS5.out.2.2.1.cell 1
  have fc4:wr4.cell? ⟨B3,1,none⟩ = some (.int .i64 c2):=HS5.out.2.2.2.1.cell 1
  go_wp2_with fail
  try rw [← hW6]
  try rw [← hB5]
  clear fc1 fc2 fc3 fc4 hW6 hB5
  obtain ⟨F,hF⟩:∃ F:Nat → Value → Prop,F = (fun (i:Nat) (v:Value) => match i with | 0 => v = .pointer (some ⟨B2,0,none⟩) | 1 => v = .int .i64 a1 | 2 => v = .pointer (some ⟨B3,0,none⟩) | 3 => v = .int .i64 a2 | 4 => v = .int .i64 Mr | 5 => v = .pointer (some ⟨B5,0,none⟩) | 6 => v = .int .i64 mr | 7 => v = .int .i64 (Mr - mr) | 8 => v = .int .i64 (Mr - mr + 1) | 9 => v = .pointer (some ⟨B2,1,none⟩) | 10 => v = .int .i64 c1 | 11 => v = .pointer (some ⟨B3,1,none⟩) | 12 => v = .int .i64 c2 | 13 => v = .int .i64 Mc | 14 => v = .pointer (some ⟨B5,1,none⟩) | 15 => v = .int .i64 mc | 16 => v = .int .i64 (Mc - mc) | 17 => v = .int .i64 (Mc - mc + 1) | 18 => v = .pointer (some ⟨B5,2,none⟩) | 20 => v = .pointer (some ⟨B5,3,none⟩) | _ => True):=⟨_,rfl⟩
  obtain ⟨Bx,hBx⟩:∃ Bx:(Nat → Bool) → World → Prop,Bx = (fun f w => Blk w B5 41 #[.int .i64 mr,.int .i64 mc,cond (f 19) (.int .i64 (Mr - mr + 1)) (.int .i64 0),cond (f 21) (.int .i64 (Mc - mc + 1)) (.int .i64 0)]):=⟨_,rfl⟩
  have HB0:Hid (∀ f w1 w2,Fr [] w1 w2 → Bx f w1 → Bx f w2):=by
    show ∀ _,_
    intro f w1 w2 hf h
    subst hBx
    exact h.fr hf (by simp)
  have HB1:Hid (∀ f i w,19 ≠ i → 21 ≠ i → Bx f w → Bx (addB f i) w):=by
    show ∀ _,_
    intro f i w n19 n21 h
    subst hBx
    simpa only [addB_ne n19,addB_ne n21] using h
  have HFG:=Lib.hid (And.intro hF hBx)
  clear hF hBx
  have HC7:Hid (∀ w',Fr [some B5] W6 w' → (w'.cell? ⟨B2,0,none⟩ = some (.int .i64 a1) ∧ w'.cell? ⟨B2,1,none⟩ = some (.int .i64 c1)) ∧ (w'.cell? ⟨B3,0,none⟩ = some (.int .i64 a2) ∧ w'.cell? ⟨B3,1,none⟩ = some (.int .i64 c2))):=by
    show ∀ _,_
    intro w' hf
    have h0:=HS6.out.2.2.1.fr hf (by
      intro hx
      simp only [List.mem_cons,List.not_mem_nil,or_false,Option.some.injEq] at hx
      exact (fun e => by have e:B2 = B5:=e; have:=HNB5.out; omega) hx)
    have h1:=HS6.out.2.2.2.1.fr hf (by
      intro hx
      simp only [List.mem_cons,List.not_mem_nil,or_false,Option.some.injEq] at hx
      exact (fun e => by have e:B3 = B5:=e; have:=HNB5.out; omega) hx)
    exact ⟨⟨h0.cell 0,h0.cell 1⟩,⟨h1.cell 0,h1.cell 1⟩⟩
  have HOW:Hid (∀ w',Fr [some B5] W6 w' → Fr [] w w'):=by
    show ∀ _,_
    intro w' hf
    exact HS6.out.1.seq hf fun z hz => by
      simp only [List.mem_cons,List.not_mem_nil,or_false] at hz
      exact .inr (.inr ⟨_,HNB5.out.1,hz⟩)
  refine wp_region_invc (by kernel_rfl) (fun f a w' => ∃ u:Nat → Value,a = { tmps:=#[.agg #[.pointer p,.bool tl,.int .i64 eo],.agg #[.int .i64 pr,.int .i64 pc],.agg #[.int .i64 qr,.int .i64 qc],.int .i64 v,.pointer (some ⟨B1,0,none⟩),.pointer (some ⟨B2,0,none⟩),.pointer (some ⟨B3,0,none⟩),undef,.pointer (some ⟨B4,0,none⟩),.pointer (some ⟨B5,0,none⟩),.agg #[.pointer p,.bool tl,.int .i64 eo],.int .i64 (n:Nat),.bool false,undef,.agg #[.pointer p,.bool tl,.int .i64 eo],.agg #[.int .i64 pr,.int .i64 pc],.agg #[.int .i64 a1,.int .i64 c1],.agg #[.pointer p,.bool tl,.int .i64 eo],.agg #[.int .i64 qr,.int .i64 qc],.agg #[.int .i64 a2,.int .i64 c2],.pointer (some ⟨B2,0,none⟩),.int .i64 a1,.pointer (some ⟨B3,0,none⟩),.int .i64 a2,.int .i64 mr,.pointer (some ⟨B2,1,none⟩),.int .i64 c1,.pointer (some ⟨B3,1,none⟩),.int .i64 c2,.int .i64 mc,.agg #[.int .i64 mr,.int .i64 mc,.int .i64 0,.int .i64 0],u 0,u 1,u 2,u 3,u 4,u 5,u 6,u 7,u 8,u 9,u 10,u 11,u 12,u 13,u 14,u 15,u 16,u 17,u 18,u 20,undef,undef,undef,undef,undef,undef,undef,undef],defers:=[] } ∧ Hid (RInvS [some B5] F Bx W6 f u w')) (by kernel_rfl) ?_ ?_ ?_
  · exact ⟨fun _ => undef,rfl,RInvS.start _ (by rw [HFG.out.2]; exact HS6.out.2.2.2.2.2.drew)⟩
  · simp only [EachOp]
    refine ⟨?_,?_,?_,?_,?_,?_,?_,?_,?_,?_,?_,?_,?_,?_,?_,?_,?_,?_,?_,?_,?_,?_,trivial⟩
    all_goals rintro f a w' hfi hdep hcl ⟨u,rfl,HI⟩ K hK
    · go_simp
      exact hK _ _ ⟨updU u 0 (.pointer (some ⟨B2,0,none⟩)),rfl,HI.out.val (by rw [HFG.out.1]; exact rfl) (HB1.out _ _ _ (by decide) (by decide) HI.out.b)⟩
    · have e0:u 0 = .pointer (some ⟨B2,0,none⟩):=HI.out.get HFG.out.1 (i:=0) (hdep ⟨0,.data⟩ (by simp) rfl)
      obtain ⟨⟨q0_0,q0_1⟩,⟨q1_0,q1_1⟩⟩:=HC7.out w' HI.out.fr
      go_simp
      exact hK _ _ ⟨updU u 1 (.int .i64 a1),(by simp [updU,e0] <;> (repeat' apply And.intro) <;> rfl),HI.out.val (by rw [HFG.out.1]; exact rfl) (HB1.out _ _ _ (by decide) (by decide) HI.out.b)⟩
    · go_simp
      exact hK _ _ ⟨updU u 2 (.pointer (some ⟨B3,0,none⟩)),rfl,HI.out.val (by rw [HFG.out.1]; exact rfl) (HB1.out _ _ _ (by decide) (by decide) HI.out.b)⟩
    · have e2:u 2 = .pointer (some ⟨B3,0,none⟩):=HI.out.get HFG.out.1 (i:=2) (hdep ⟨2,.data⟩ (by simp) rfl)
      obtain ⟨⟨q0_0,q0_1⟩,⟨q1_0,q1_1⟩⟩:=HC7.out w' HI.out.fr
      go_simp
      exact hK _ _ ⟨updU u 3 (.int .i64 a2),(by simp [updU,e2] <;> (repeat' apply And.intro) <;> rfl),HI.out.val (by rw [HFG.out.1]; exact rfl) (HB1.out _ _ _ (by decide) (by decide) HI.out.b)⟩
    · have e1:u 1 = .int .i64 a1:=HI.out.get HFG.out.1 (i:=1) (hdep ⟨1,.data⟩ (by simp) rfl)
      have e3:u 3 = .int .i64 a2:=HI.out.get HFG.out.1 (i:=3) (hdep ⟨3,.data⟩ (by simp) rfl)
      go_simp
      exact hK _ _ ⟨updU u 4 (.int .i64 Mr),(by simp [updU,e1,e3] <;> (repeat' apply And.intro) <;> rfl),HI.out.val (by rw [HFG.out.1]; exact rfl) (HB1.out _ _ _ (by decide) (by decide) HI.out.b)⟩
    · go_simp
      exact hK _ _ ⟨updU u 5 (.pointer (some ⟨B5,0,none⟩)),rfl,HI.out.val (by rw [HFG.out.1]; exact rfl) (HB1.out _ _ _ (by decide) (by decide) HI.out.b)⟩
    · have e5:u 5 = .pointer (some ⟨B5,0,none⟩):=HI.out.get HFG.out.1 (i:=5) (hdep ⟨5,.data⟩ (by simp) rfl)
      have hbx:=HI.out.b
      rw [HFG.out.2] at hbx
      have t0:w'.cell? ⟨B5,0,none⟩ = some (.int .i64 mr):=by
        have:=(hbx).cell 0
        simpa [] using this
      clear hbx
      go_simp
      exact hK _ _ ⟨updU u 6 (.int .i64 mr),(by simp [updU,e5] <;> (repeat' apply And.intro) <;> rfl),HI.out.val (by rw [HFG.out.1]; exact rfl) (HB1.out _ _ _ (by decide) (by decide) HI.out.b)⟩
    · have e4:u 4 = .int .i64 Mr:=HI.out.get HFG.out.1 (i:=4) (hdep ⟨4,.data⟩ (by simp) rfl)
      have e6:u 6 = .int .i64 mr:=HI.out.get HFG.out.1 (i:=6) (hdep ⟨6,.data⟩ (by simp) rfl)
      go_simp
      exact hK _ _ ⟨updU u 7 (.int .i64 (Mr - mr)),(by simp [updU,e4,e6] <;> (repeat' apply And.intro) <;> rfl),HI.out.val (by rw [HFG.out.1]; exact rfl) (HB1.out _ _ _ (by decide) (by decide) HI.out.b)⟩
    · have e7:u 7 = .int .i64 (Mr - mr):=HI.out.get HFG.out.1 (i:=7) (hdep ⟨7,.data⟩ (by simp) rfl)
      go_simp
      exact hK _ _ ⟨updU u 8 (.int .i64 (Mr - mr + 1)),(by simp [updU,e7] <;> (repeat' apply And.intro) <;> rfl),HI.out.val (by rw [HFG.out.1]; exact rfl) (HB1.out _ _ _ (by decide) (by decide) HI.out.b)⟩
    · go_simp
      exact hK _ _ ⟨updU u 9 (.pointer (some ⟨B2,1,none⟩)),rfl,HI.out.val (by rw [HFG.out.1]; exact rfl) (HB1.out _ _ _ (by decide) (by decide) HI.out.b)⟩
    · have e9:u 9 = .pointer (some ⟨B2,1,none⟩):=HI.out.get HFG.out.1 (i:=9) (hdep ⟨9,.data⟩ (by simp) rfl)
      obtain ⟨⟨q0_0,q0_1⟩,⟨q1_0,q1_1⟩⟩:=HC7.out w' HI.out.fr
      go_simp
      exact hK _ _ ⟨updU u 10 (.int .i64 c1),(by simp [updU,e9] <;> (repeat' apply And.intro) <;> rfl),HI.out.val (by rw [HFG.out.1]; exact rfl) (HB1.out _ _ _ (by decide) (by decide) HI.out.b)⟩
    · go_simp
      exact hK _ _ ⟨updU u 11 (.pointer (some ⟨B3,1,none⟩)),rfl,HI.out.val (by rw [HFG.out.1]; exact rfl) (HB1.out _ _ _ (by decide) (by decide) HI.out.b)⟩
    · have e11:u 11 = .pointer (some ⟨B3,1,none⟩):=HI.out.get HFG.out.1 (i:=11) (hdep ⟨11,.data⟩ (by simp) rfl)
      obtain ⟨⟨q0_0,q0_1⟩,⟨q1_0,q1_1⟩⟩:=HC7.out w' HI.out.fr
      go_simp
      exact hK _ _ ⟨updU u 12 (.int .i64 c2),(by simp [updU,e11] <;> (repeat' apply And.intro) <;> rfl),HI.out.val (by rw [HFG.out.1]; exact rfl) (HB1.out _ _ _ (by decide) (by decide) HI.out.b)⟩
    · have e10:u 10 = .int .i64 c1:=HI.out.get HFG.out.1 (i:=10) (hdep ⟨10,.data⟩ (by simp) rfl)
      have e12:u 12 = .int .i64 c2:=HI.out.get HFG.out.1 (i:=12) (hdep ⟨12,.data⟩ (by simp) rfl)
      go_simp
      exact hK _ _ ⟨updU u 13 (.int .i64 Mc),(by simp [updU,e10,e12] <;> (repeat' apply And.intro) <;> rfl),HI.out.val (by rw [HFG.out.1]; exact rfl) (HB1.out _ _ _ (by decide) (by decide) HI.out.b)⟩
    · go_simp
      exact hK _ _ ⟨updU u 14 (.pointer (some ⟨B5,1,none⟩)),rfl,HI.out.val (by rw [HFG.out.1]; exact rfl) (HB1.out _ _ _ (by decide) (by decide) HI.out.b)⟩
    · have e14:u 14 = .pointer (some ⟨B5,1,none⟩):=HI.out.get HFG.out.1 (i:=14) (hdep ⟨14,.data⟩ (by simp) rfl)
      have hbx:=HI.out.b
      rw [HFG.out.2] at hbx
      have t0:w'.cell? ⟨B5,1,none⟩ = some (.int .i64 mc):=by
        have:=(hbx).cell 1
        simpa [] using this
      clear hbx
      go_simp
      exact hK _ _ ⟨updU u 15 (.int .i64 mc),(by simp [updU,e14] <;> (repeat' apply And.intro) <;> rfl),HI.out.val (by rw [HFG.out.1]; exact rfl) (HB1.out _ _ _ (by decide) (by decide) HI.out.b)⟩
    · have e13:u 13 = .int .i64 Mc:=HI.out.get HFG.out.1 (i:=13) (hdep ⟨13,.data⟩ (by simp) rfl)
      have e15:u 15 = .int .i64 mc:=HI.out.get HFG.out.1 (i:=15) (hdep ⟨15,.data⟩ (by simp) rfl)
      go_simp
      exact hK _ _ ⟨updU u 16 (.int .i64 (Mc - mc)),(by simp [updU,e13,e15] <;> (repeat' apply And.intro) <;> rfl),HI.out.val (by rw [HFG.out.1]; exact rfl) (HB1.out _ _ _ (by decide) (by decide) HI.out.b)⟩
    · have e16:u 16 = .int .i64 (Mc - mc):=HI.out.get HFG.out.1 (i:=16) (hdep ⟨16,.data⟩ (by simp) rfl)
      go_simp
      exact hK _ _ ⟨updU u 17 (.int .i64 (Mc - mc + 1)),(by simp [updU,e16] <;> (repeat' apply And.intro) <;> rfl),HI.out.val (by rw [HFG.out.1]; exact rfl) (HB1.out _ _ _ (by decide) (by decide) HI.out.b)⟩
    · go_simp
      exact hK _ _ ⟨updU u 18 (.pointer (some ⟨B5,2,none⟩)),rfl,HI.out.val (by rw [HFG.out.1]; exact rfl) (HB1.out _ _ _ (by decide) (by decide) HI.out.b)⟩
    · have e18:u 18 = .pointer (some ⟨B5,2,none⟩):=HI.out.get HFG.out.1 (i:=18) (hdep ⟨18,.data⟩ (by simp) rfl)
      have e8:u 8 = .int .i64 (Mr - mr + 1):=HI.out.get HFG.out.1 (i:=8) (hdep ⟨8,.data⟩ (by simp) rfl)
      have hbx:=HI.out.b
      rw [HFG.out.2] at hbx
      have hbb:=hbx
      have t0:=hbb.cell 2
      have z0:=hbb.frozen 2
      have tl:=hbb.lt
      simp only [List.getElem?_toArray,List.getElem?_cons_zero,List.getElem?_cons_succ] at t0
      go_simp
      exact hK _ _ ⟨u,(by first | rfl | (simp [e18,e8] <;> rfl)),HI.out.put ((Fr.refl _ _).setB (fun _ => by simp) _ _) (by rw [HFG.out.1]; exact trivial) (by rw [HFG.out.2]; exact (by simpa [addB] using (hbx.set_ 2 (.int .i64 (Mr - mr + 1)))))⟩
    · go_simp
      exact hK _ _ ⟨updU u 20 (.pointer (some ⟨B5,3,none⟩)),rfl,HI.out.val (by rw [HFG.out.1]; exact rfl) (HB1.out _ _ _ (by decide) (by decide) HI.out.b)⟩
    · have e20:u 20 = .pointer (some ⟨B5,3,none⟩):=HI.out.get HFG.out.1 (i:=20) (hdep ⟨20,.data⟩ (by simp) rfl)
      have e17:u 17 = .int .i64 (Mc - mc + 1):=HI.out.get HFG.out.1 (i:=17) (hdep ⟨17,.data⟩ (by simp) rfl)
      have hbx:=HI.out.b
      rw [HFG.out.2] at hbx
      have hbb:=hbx
      have t0:=hbb.cell 3
      have z0:=hbb.frozen 3
      have tl:=hbb.lt
      simp only [List.getElem?_toArray,List.getElem?_cons_zero,List.getElem?_cons_succ] at t0
      go_simp
      exact hK _ _ ⟨u,(by first | rfl | (simp [e20,e17] <;> rfl)),HI.out.put ((Fr.refl _ _).setB (fun _ => by simp) _ _) (by rw [HFG.out.1]; exact trivial) (by rw [HFG.out.2]; exact (by simpa [addB] using (hbx.set_ 3 (.int .i64 (Mc - mc + 1)))))⟩
  rintro f a wr7 hall ⟨u,rfl,HI⟩
  have e0:u 0 = .pointer (some ⟨B2,0,none⟩):=HI.out.get HFG.out.1 (i:=0) (hall 0 (by decide))
  have e1:u 1 = .int .i64 a1:=HI.out.get HFG.out.1 (i:=1) (hall 1 (by decide))
  have e2:u 2 = .pointer (some ⟨B3,0,none⟩):=HI.out.get HFG.out.1 (i:=2) (hall 2 (by decide))
  have e3:u 3 = .int .i64 a2:=HI.out.get HFG.out.1 (i:=3) (hall 3 (by decide))
  have e4:u 4 = .int .i64 Mr:=HI.out.get HFG.out.1 (i:=4) (hall 4 (by decide))
  have e5:u 5 = .pointer (some ⟨B5,0,none⟩):=HI.out.get HFG.out.1 (i:=5) (hall 5 (by decide))
  have e6:u 6 = .int .i64 mr:=HI.out.get HFG.out.1 (i:=6) (hall 6 (by decide))
  have e7:u 7 = .int .i64 (Mr - mr):=HI.out.get HFG.out.1 (i:=7) (hall 7 (by decide))
  have e8:u 8 = .int .i64 (Mr - mr + 1):=HI.out.get HFG.out.1 (i:=8) (hall 8 (by decide))
  have e9:u 9 = .pointer (some ⟨B2,1,none⟩):=HI.out.get HFG.out.1 (i:=9) (hall 9 (by decide))
  have e10:u 10 = .int .i64 c1:=HI.out.get HFG.out.1 (i:=10) (hall 10 (by decide))
  have e11:u 11 = .pointer (some ⟨B3,1,none⟩):=HI.out.get HFG.out.1 (i:=11) (hall 11 (by decide))
  have e12:u 12 = .int .i64 c2:=HI.out.get HFG.out.1 (i:=12) (hall 12 (by decide))
  have e13:u 13 = .int .i64 Mc:=HI.out.get HFG.out.1 (i:=13) (hall 13 (by decide))
  have e14:u 14 = .pointer (some ⟨B5,1,none⟩):=HI.out.get HFG.out.1 (i:=14) (hall 14 (by decide))
  have e15:u 15 = .int .i64 mc:=HI.out.get HFG.out.1 (i:=15) (hall 15 (by decide))
  have e16:u 16 = .int .i64 (Mc - mc):=HI.out.get HFG.out.1 (i:=16) (hall 16 (by decide))
  have e17:u 17 = .int .i64 (Mc - mc + 1):=HI.out.get HFG.out.1 (i:=17) (hall 17 (by decide))
  have e18:u 18 = .pointer (some ⟨B5,2,none⟩):=HI.out.get HFG.out.1 (i:=18) (hall 18 (by decide))
  have e20:u 20 = .pointer (some ⟨B5,3,none⟩):=HI.out.get HFG.out.1 (i:=20) (hall 20 (by decide))
  have hbx:=HI.out.b
  rw [HFG.out.2] at hbx
  simp only [hall 19 (by decide),hall 21 (by decide),cond_true] at hbx
  try dsimp only
  simp only [e0,e1,e2,e3,e4,e5,e6,e7,e8,e9,e10,e11,e12,e13,e14,e15,e16,e17,e18,e20]
  have HS8:Hid (Fr [] w wr7 ∧ Blk wr7 B1 31 #[.pointer p,.bool tl,.int .i64 eo] ∧ Blk wr7 B2 43 #[.int .i64 a1,.int .i64 c1] ∧ Blk wr7 B3 43 #[.int .i64 a2,.int .i64 c2] ∧ Blk wr7 B4 41 #[.int .i64 0,.int .i64 0,.int .i64 0,.int .i64 0] ∧ Blk wr7 B5 41 #[.int .i64 mr,.int .i64 mc,.int .i64 (Mr - mr + 1),.int .i64 (Mc - mc + 1)]):=⟨HOW.out _ HI.out.fr,HS6.out.2.1.fr HI.out.fr (by
      intro hx
      simp only [List.mem_cons,List.not_mem_nil,or_false,Option.some.injEq] at hx
      exact (fun e => by have e:B1 = B5:=e; have:=HNB5.out; omega) hx),HS6.out.2.2.1.fr HI.out.fr (by
      intro hx
      simp only [List.mem_cons,List.not_mem_nil,or_false,Option.some.injEq] at hx
      exact (fun e => by have e:B2 = B5:=e; have:=HNB5.out; omega) hx),HS6.out.2.2.2.1.fr HI.out.fr (by
      intro hx
      simp only [List.mem_cons,List.not_mem_nil,or_false,Option.some.injEq] at hx
      exact (fun e => by have e:B3 = B5:=e; have:=HNB5.out; omega) hx),HS6.out.2.2.2.2.1.fr HI.out.fr (by
      intro hx
      simp only [List.mem_cons,List.not_mem_nil,or_false,Option.some.injEq] at hx
      exact (fun e => by have e:B4 = B5:=e; have:=HNB5.out; omega) hx),hbx⟩
  clear e0 e1 e2 e3 e4 e5 e6 e7 e8 e9 e10 e11 e12 e13 e14 e15 e16 e17 e18 e20 HI hall HFG HB0 HB1 hbx HC7 HOW
  go_wp2_with fail
  refine (HKV.out wr7).mono ?_
  rintro en w2 ⟨rfl,hf2⟩
  have HS10:Hid (Fr [] w w2 ∧ Blk w2 B1 31 #[.pointer p,.bool tl,.int .i64 eo] ∧ Blk w2 B2 43 #[.int .i64 a1,.int .i64 c1] ∧ Blk w2 B3 43 #[.int .i64 a2,.int .i64 c2] ∧ Blk w2 B4 41 #[.int .i64 0,.int .i64 0,.int .i64 0,.int .i64 0] ∧ Blk w2 B5 41 #[.int .i64 mr,.int .i64 mc,.int .i64 (Mr - mr + 1),.int .i64 (Mc - mc + 1)]):=⟨HS8.out.1.trans hf2,HS8.out.2.1.fr hf2 (by simp),HS8.out.2.2.1.fr hf2 (by simp),HS8.out.2.2.2.1.fr hf2 (by simp),HS8.out.2.2.2.2.1.fr hf2 (by simp),HS8.out.2.2.2.2.2.fr hf2 (by simp)⟩
  clear hf2
  clear k1 k2 k3 k4 hw1 hw2 hw3 hw4
  cases rb with
  | true =>
    have fc1:w2.cell? ⟨B1,0,none⟩ = some (.pointer p):=HS10.out.2.1.cell 0
    have fc2:w2.cell? ⟨B1,1,none⟩ = some (.bool tl):=HS10.out.2.1.cell 1
    have fc3:w2.cell? ⟨B1,2,none⟩ = some (.int .i64 eo):=HS10.out.2.1.cell 2
    go_wp2_with fail
    clear fc1 fc2 fc3
    refine (HWD.out w2 HS10.out.1).mono ?_
    rintro en w3 ⟨rfl,hf3⟩
    have HS12:Hid (Fr [] w w3 ∧ Blk w3 B1 31 #[.pointer p,.bool tl,.int .i64 eo] ∧ Blk w3 B2 43 #[.int .i64 a1,.int .i64 c1] ∧ Blk w3 B3 43 #[.int .i64 a2,.int .i64 c2] ∧ Blk w3 B4 41 #[.int .i64 0,.int .i64 0,.int .i64 0,.int .i64 0] ∧ Blk w3 B5 41 #[.int .i64 mr,.int .i64 mc,.int .i64 (Mr - mr + 1),.int .i64 (Mc - mc + 1)]):=⟨HS10.out.1.trans hf3,HS10.out.2.1.fr hf3 (by simp),HS10.out.2.2.1.fr hf3 (by simp),HS10.out.2.2.2.1.fr hf3 (by simp),HS10.out.2.2.2.2.1.fr hf3 (by simp),HS10.out.2.2.2.2.2.fr hf3 (by simp)⟩
    clear hf3
    obtain ⟨W13,hW13⟩:∃ Wx,Wx = ((((((w3.setCell ⟨B5,1,none⟩ (.int .i64 0)).setCell ⟨B5,3,none⟩ (.int .i64 (m:Nat))).setCell ⟨B4,0,none⟩ (.int .i64 mr)).setCell ⟨B4,1,none⟩ (.int .i64 0)).setCell ⟨B4,2,none⟩ (.int .i64 (Mr - mr + 1))).setCell ⟨B4,3,none⟩ (.int .i64 (m:Nat))):=⟨_,rfl⟩
    have HS13:Hid (Fr [] w W13 ∧ Blk W13 B1 31 #[.pointer p,.bool tl,.int .i64 eo] ∧ Blk W13 B2 43 #[.int .i64 a1,.int .i64 c1] ∧ Blk W13 B3 43 #[.int .i64 a2,.int .i64 c2] ∧ Blk W13 B4 41 #[.int .i64 mr,.int .i64 0,.int .i64 (Mr - mr + 1),.int .i64 (m:Nat)] ∧ Blk W13 B5 41 #[.int .i64 mr,.int .i64 0,.int .i64 (Mr - mr + 1),.int .i64 (m:Nat)]):=by
      have mB1:=HS12.out.2.1
      replace mB1:=mB1.far (p:=⟨B5,1,none⟩) (fun e => by have e:B1 = B5:=e; have:=HNB5.out; omega) (.int .i64 0)
      replace mB1:=mB1.far (p:=⟨B5,3,none⟩) (fun e => by have e:B1 = B5:=e; have:=HNB5.out; omega) (.int .i64 (m:Nat))
      replace mB1:=mB1.far (p:=⟨B4,0,none⟩) (fun e => by have e:B1 = B4:=e; have:=HNB4.out; omega) (.int .i64 mr)
      replace mB1:=mB1.far (p:=⟨B4,1,none⟩) (fun e => by have e:B1 = B4:=e; have:=HNB4.out; omega) (.int .i64 0)
      replace mB1:=mB1.far (p:=⟨B4,2,none⟩) (fun e => by have e:B1 = B4:=e; have:=HNB4.out; omega) (.int .i64 (Mr - mr + 1))
      replace mB1:=mB1.far (p:=⟨B4,3,none⟩) (fun e => by have e:B1 = B4:=e; have:=HNB4.out; omega) (.int .i64 (m:Nat))
      have mB2:=HS12.out.2.2.1
      replace mB2:=mB2.far (p:=⟨B5,1,none⟩) (fun e => by have e:B2 = B5:=e; have:=HNB5.out; omega) (.int .i64 0)
      replace mB2:=mB2.far (p:=⟨B5,3,none⟩) (fun e => by have e:B2 = B5:=e; have:=HNB5.out; omega) (.int .i64 (m:Nat))
      replace mB2:=mB2.far (p:=⟨B4,0,none⟩) (fun e => by have e:B2 = B4:=e; have:=HNB4.out; omega) (.int .i64 mr)
      replace mB2:=mB2.far (p:=⟨B4,1,none⟩) (fun e => by have e:B2 = B4:=e; have:=HNB4.out; omega) (.int .i64 0)
      replace mB2:=mB2.far (p:=⟨B4,2,none⟩) (fun e => by have e:B2 = B4:=e; have:=HNB4.out; omega) (.int .i64 (Mr - mr + 1))
      replace mB2:=mB2.far (p:=⟨B4,3,none⟩) (fun e => by have e:B2 = B4:=e; have:=HNB4.out; omega) (.int .i64 (m:Nat))
      have mB3:=HS12.out.2.2.2.1
      replace mB3:=mB3.far (p:=⟨B5,1,none⟩) (fun e => by have e:B3 = B5:=e; have:=HNB5.out; omega) (.int .i64 0)
      replace mB3:=mB3.far (p:=⟨B5,3,none⟩) (fun e => by have e:B3 = B5:=e; have:=HNB5.out; omega) (.int .i64 (m:Nat))
      replace mB3:=mB3.far (p:=⟨B4,0,none⟩) (fun e => by have e:B3 = B4:=e; have:=HNB4.out; omega) (.int .i64 mr)
      replace mB3:=mB3.far (p:=⟨B4,1,none⟩) (fun e => by have e:B3 = B4:=e; have:=HNB4.out; omega) (.int .i64 0)
      replace mB3:=mB3.far (p:=⟨B4,2,none⟩) (fun e => by have e:B3 = B4:=e; have:=HNB4.out; omega) (.int .i64 (Mr - mr + 1))
      replace mB3:=mB3.far (p:=⟨B4,3,none⟩) (fun e => by have e:B3 = B4:=e; have:=HNB4.out; omega) (.int .i64 (m:Nat))
      have mB4:=HS12.out.2.2.2.2.1
      replace mB4:=mB4.far (p:=⟨B5,1,none⟩) (fun e => by have e:B4 = B5:=e; have:=HNB5.out; omega) (.int .i64 0)
      replace mB4:=mB4.far (p:=⟨B5,3,none⟩) (fun e => by have e:B4 = B5:=e; have:=HNB5.out; omega) (.int .i64 (m:Nat))
      replace mB4:Blk (((w3.setCell ⟨B5,1,none⟩ (.int .i64 0)).setCell ⟨B5,3,none⟩ (.int .i64 (m:Nat))).setCell ⟨B4,0,none⟩ (.int .i64 mr)) B4 41 #[.int .i64 mr,.int .i64 0,.int .i64 0,.int .i64 0]:=by simpa using mB4.set_ 0 (.int .i64 mr)
      replace mB4:Blk ((((w3.setCell ⟨B5,1,none⟩ (.int .i64 0)).setCell ⟨B5,3,none⟩ (.int .i64 (m:Nat))).setCell ⟨B4,0,none⟩ (.int .i64 mr)).setCell ⟨B4,1,none⟩ (.int .i64 0)) B4 41 #[.int .i64 mr,.int .i64 0,.int .i64 0,.int .i64 0]:=by simpa using mB4.set_ 1 (.int .i64 0)
      replace mB4:Blk (((((w3.setCell ⟨B5,1,none⟩ (.int .i64 0)).setCell ⟨B5,3,none⟩ (.int .i64 (m:Nat))).setCell ⟨B4,0,none⟩ (.int .i64 mr)).setCell ⟨B4,1,none⟩ (.int .i64 0)).setCell ⟨B4,2,none⟩ (.int .i64 (Mr - mr + 1))) B4 41 #[.int .i64 mr,.int .i64 0,.int .i64 (Mr - mr + 1),.int .i64 0]:=by simpa using mB4.set_ 2 (.int .i64 (Mr - mr + 1))
      replace mB4:Blk ((((((w3.setCell ⟨B5,1,none⟩ (.int .i64 0)).setCell ⟨B5,3,none⟩ (.int .i64 (m:Nat))).setCell ⟨B4,0,none⟩ (.int .i64 mr)).setCell ⟨B4,1,none⟩ (.int .i64 0)).setCell ⟨B4,2,none⟩ (.int .i64 (Mr - mr + 1))).setCell ⟨B4,3,none⟩ (.int .i64 (m:Nat))) B4 41 #[.int .i64 mr,.int .i64 0,.int .i64 (Mr - mr + 1),.int .i64 (m:Nat)]:=by simpa using mB4.set_ 3 (.int .i64 (m:Nat))
      have mB5:=HS12.out.2.2.2.2.2
      replace mB5:Blk (w3.setCell ⟨B5,1,none⟩ (.int .i64 0)) B5 41 #[.int .i64 mr,.int .i64 0,.int .i64 (Mr - mr + 1),.int .i64 (Mc - mc + 1)]:=by simpa using mB5.set_ 1 (.int .i64 0)
      replace mB5:Blk ((w3.setCell ⟨B5,1,none⟩ (.int .i64 0)).setCell ⟨B5,3,none⟩ (.int .i64 (m:Nat))) B5 41 #[.int .i64 mr,.int .i64 0,.int .i64 (Mr - mr + 1),.int .i64 (m:Nat)]:=by simpa using mB5.set_ 3 (.int .i64 (m:Nat))
      replace mB5:=mB5.far (p:=⟨B4,0,none⟩) (fun e => by have e:B5 = B4:=e; have:=HNB5.out; omega) (.int .i64 mr)
      replace mB5:=mB5.far (p:=⟨B4,1,none⟩) (fun e => by have e:B5 = B4:=e; have:=HNB5.out; omega) (.int .i64 0)
      replace mB5:=mB5.far (p:=⟨B4,2,none⟩) (fun e => by have e:B5 = B4:=e; have:=HNB5.out; omega) (.int .i64 (Mr - mr + 1))
      replace mB5:=mB5.far (p:=⟨B4,3,none⟩) (fun e => by have e:B5 = B4:=e; have:=HNB5.out; omega) (.int .i64 (m:Nat))
      rw [hW13]
      exact ⟨((((((HS12.out.1.setB (fun h => absurd h (by have:=HNB5.out; omega)) _ _).setB (fun h => absurd h (by have:=HNB5.out; omega)) _ _).setB (fun h => absurd h (by have:=HNB4.out; omega)) _ _).setB (fun h => absurd h (by have:=HNB4.out; omega)) _ _).setB (fun h => absurd h (by have:=HNB4.out; omega)) _ _).setB (fun h => absurd h (by have:=HNB4.out; omega)) _ _),mB1,mB2,mB3,mB4,mB5⟩
    have fc1:w3.cell? ⟨B5,1,none⟩ = some (.int .i64 mc):=HS12.out.2.2.2.2.2.cell 1
    have fc2:=HS12.out.2.2.2.2.2.frozen 1
    have fc3:=HS12.out.2.2.2.2.2.lt
    have fc4:w3.cell? ⟨B5,3,none⟩ = some (.int .i64 (Mc - mc + 1)):=HS12.out.2.2.2.2.2.cell 3
    have fc5:=HS12.out.2.2.2.2.2.frozen 3
    have fc6:w3.cell? ⟨B5,0,none⟩ = some (.int .i64 mr):=HS12.out.2.2.2.2.2.cell 0
    have fc7:=HS12.out.2.2.2.2.2.frozen 0
    have fc8:w3.cell? ⟨B5,2,none⟩ = some (.int .i64 (Mr - mr + 1)):=HS12.out.2.2.2.2.2.cell 2
    have fc9:=HS12.out.2.2.2.2.2.frozen 2
    have fc10:w3.cell? ⟨B4,0,none⟩ = some (.int .i64 0):=HS12.out.2.2.2.2.1.cell 0
    have fc11:=HS12.out.2.2.2.2.1.frozen 0
    have fc12:=HS12.out.2.2.2.2.1.lt
    have fc13:w3.cell? ⟨B4,1,none⟩ = some (.int .i64 0):=HS12.out.2.2.2.2.1.cell 1
    have fc14:=HS12.out.2.2.2.2.1.frozen 1
    have fc15:w3.cell? ⟨B4,2,none⟩ = some (.int .i64 0):=HS12.out.2.2.2.2.1.cell 2
    have fc16:=HS12.out.2.2.2.2.1.frozen 2
    have fc17:w3.cell? ⟨B4,3,none⟩ = some (.int .i64 0):=HS12.out.2.2.2.2.1.cell 3
    have fc18:=HS12.out.2.2.2.2.1.frozen 3
    have fc19:¬ B5 = B4:=fun e => by have e:B5 = B4:=e; have:=HNB5.out; omega
    have fc20:¬ B4 = B5:=fun e => by have e:B4 = B5:=e; have:=HNB5.out; omega
    go_wp2_with fail
    try rw [← hW13]
    clear fc1 fc2 fc3 fc4 fc5 fc6 fc7 fc8 fc9 fc10 fc11 fc12 fc13 fc14 fc15 fc16 fc17 fc18 fc19 fc20 hW13
    have r0B4:=HS13.out.2.2.2.2.1.cell 0
    have r1B4:=HS13.out.2.2.2.2.1.cell 1
    have r2B4:=HS13.out.2.2.2.2.1.cell 2
    have r3B4:=HS13.out.2.2.2.2.1.cell 3
    refine bodyPost_ret (v:=.agg #[.int .i64 mr,.int .i64 0,.int .i64 (Mr - mr + 1),.int .i64 (m:Nat)]) (by simp [results,Tryz.results10,go_sem, *]) rfl ?_
    exact ⟨rfl,HS13.out.1⟩
  | false =>
    obtain ⟨W11,hW11⟩:∃ Wx,Wx = ((((w2.setCell ⟨B4,0,none⟩ (.int .i64 mr)).setCell ⟨B4,1,none⟩ (.int .i64 mc)).setCell ⟨B4,2,none⟩ (.int .i64 (Mr - mr + 1))).setCell ⟨B4,3,none⟩ (.int .i64 (Mc - mc + 1))):=⟨_,rfl⟩
    have HS11:Hid (Fr [] w W11 ∧ Blk W11 B1 31 #[.pointer p,.bool tl,.int .i64 eo] ∧ Blk W11 B2 43 #[.int .i64 a1,.int .i64 c1] ∧ Blk W11 B3 43 #[.int .i64 a2,.int .i64 c2] ∧ Blk W11 B4 41 #[.int .i64 mr,.int .i64 mc,.int .i64 (Mr - mr + 1),.int .i64 (Mc - mc + 1)] ∧ Blk W11 B5 41 #[.int .i64 mr,.int .i64 mc,.int .i64 (Mr - mr + 1),.int .i64 (Mc - mc + 1)]):=by
      have mB1:=HS10.out.2.1
      replace mB1:=mB1.far (p:=⟨B4,0,none⟩) (fun e => by have e:B1 = B4:=e; have:=HNB4.out; omega) (.int .i64 mr)
      replace mB1:=mB1.far (p:=⟨B4,1,none⟩) (fun e => by have e:B1 = B4:=e; have:=HNB4.out; omega) (.int .i64 mc)
      replace mB1:=mB1.far (p:=⟨B4,2,none⟩) (fun e => by have e:B1 = B4:=e; have:=HNB4.out; omega) (.int .i64 (Mr - mr + 1))
      replace mB1:=mB1.far (p:=⟨B4,3,none⟩) (fun e => by have e:B1 = B4:=e; have:=HNB4.out; omega) (.int .i64 (Mc - mc + 1))
      have mB2:=HS10.out.2.2.1
      replace mB2:=mB2.far (p:=⟨B4,0,none⟩) (fun e => by have e:B2 = B4:=e; have:=HNB4.out; omega) (.int .i64 mr)
      replace mB2:=mB2.far (p:=⟨B4,1,none⟩) (fun e => by have e:B2 = B4:=e; have:=HNB4.out; omega) (.int .i64 mc)
      replace mB2:=mB2.far (p:=⟨B4,2,none⟩) (fun e => by have e:B2 = B4:=e; have:=HNB4.out; omega) (.int .i64 (Mr - mr + 1))
      replace mB2:=mB2.far (p:=⟨B4,3,none⟩) (fun e => by have e:B2 = B4:=e; have:=HNB4.out; omega) (.int .i64 (Mc - mc + 1))
      have mB3:=HS10.out.2.2.2.1
      replace mB3:=mB3.far (p:=⟨B4,0,none⟩) (fun e => by have e:B3 = B4:=e; have:=HNB4.out; omega) (.int .i64 mr)
      replace mB3:=mB3.far (p:=⟨B4,1,none⟩) (fun e => by have e:B3 = B4:=e; have:=HNB4.out; omega) (.int .i64 mc)
      replace mB3:=mB3.far (p:=⟨B4,2,none⟩) (fun e => by have e:B3 = B4:=e; have:=HNB4.out; omega) (.int .i64 (Mr - mr + 1))
      replace mB3:=mB3.far (p:=⟨B4,3,none⟩) (fun e => by have e:B3 = B4:=e; have:=HNB4.out; omega) (.int .i64 (Mc - mc + 1))
      have mB4:=HS10.out.2.2.2.2.1
      replace mB4:Blk (w2.setCell ⟨B4,0,none⟩ (.int .i64 mr)) B4 41 #[.int .i64 mr,.int .i64 0,.int .i64 0,.int .i64 0]:=by simpa using mB4.set_ 0 (.int .i64 mr)
      replace mB4:Blk ((w2.setCell ⟨B4,0,none⟩ (.int .i64 mr)).setCell ⟨B4,1,none⟩ (.int .i64 mc)) B4 41 #[.int .i64 mr,.int .i64 mc,.int .i64 0,.int .i64 0]:=by simpa using mB4.set_ 1 (.int .i64 mc)
      replace mB4:Blk (((w2.setCell ⟨B4,0,none⟩ (.int .i64 mr)).setCell ⟨B4,1,none⟩ (.int .i64 mc)).setCell ⟨B4,2,none⟩ (.int .i64 (Mr - mr + 1))) B4 41 #[.int .i64 mr,.int .i64 mc,.int .i64 (Mr - mr + 1),.int .i64 0]:=by simpa using mB4.set_ 2 (.int .i64 (Mr - mr + 1))
      replace mB4:Blk ((((w2.setCell ⟨B4,0,none⟩ (.int .i64 mr)).setCell ⟨B4,1,none⟩ (.int .i64 mc)).setCell ⟨B4,2,none⟩ (.int .i64 (Mr - mr + 1))).setCell ⟨B4,3,none⟩ (.int .i64 (Mc - mc + 1))) B4 41 #[.int .i64 mr,.int .i64 mc,.int .i64 (Mr - mr + 1),.int .i64 (Mc - mc + 1)]:=by simpa using mB4.set_ 3 (.int .i64 (Mc - mc + 1))
      have mB5:=HS10.out.2.2.2.2.2
      replace mB5:=mB5.far (p:=⟨B4,0,none⟩) (fun e => by have e:B5 = B4:=e; have:=HNB5.out; omega) (.int .i64 mr)
      replace mB5:=mB5.far (p:=⟨B4,1,none⟩) (fun e => by have e:B5 = B4:=e; have:=HNB5.out; omega) (.int .i64 mc)
      replace mB5:=mB5.far (p:=⟨B4,2,none⟩) (fun e => by have e:B5 = B4:=e; have:=HNB5.out; omega) (.int .i64 (Mr - mr + 1))
      replace mB5:=mB5.far (p:=⟨B4,3,none⟩) (fun e => by have e:B5 = B4:=e; have:=HNB5.out; omega) (.int .i64 (Mc - mc + 1))
      rw [hW11]
      exact ⟨((((HS10.out.1.setB (fun h => absurd h (by have:=HNB4.out; omega)) _ _).setB (fun h => absurd h (by have:=HNB4.out; omega)) _ _).setB (fun h => absurd h (by have:=HNB4.out; omega)) _ _).setB (fun h => absurd h (by have:=HNB4.out; omega)) _ _),mB1,mB2,mB3,mB4,mB5⟩
    have fc1:w2.cell? ⟨B5,0,none⟩ = some (.int .i64 mr):=HS10.out.2.2.2.2.2.cell 0
    have fc2:=HS10.out.2.2.2.2.2.frozen 0
    have fc3:=HS10.out.2.2.2.2.2.lt
    have fc4:w2.cell? ⟨B5,1,none⟩ = some (.int .i64 mc):=HS10.out.2.2.2.2.2.cell 1
    have fc5:=HS10.out.2.2.2.2.2.frozen 1
    have fc6:w2.cell? ⟨B5,2,none⟩ = some (.int .i64 (Mr - mr + 1)):=HS10.out.2.2.2.2.2.cell 2
    have fc7:=HS10.out.2.2.2.2.2.frozen 2
    have fc8:w2.cell? ⟨B5,3,none⟩ = some (.int .i64 (Mc - mc + 1)):=HS10.out.2.2.2.2.2.cell 3
    have fc9:=HS10.out.2.2.2.2.2.frozen 3
    have fc10:w2.cell? ⟨B4,0,none⟩ = some (.int .i64 0):=HS10.out.2.2.2.2.1.cell 0
    have fc11:=HS10.out.2.2.2.2.1.frozen 0
    have fc12:=HS10.out.2.2.2.2.1.lt
    have fc13:w2.cell? ⟨B4,1,none⟩ = some (.int .i64 0):=HS10.out.2.2.2.2.1.cell 1
    have fc14:=HS10.out.2.2.2.2.1.frozen 1
    have fc15:w2.cell? ⟨B4,2,none⟩ = some (.int .i64 0):=HS10.out.2.2.2.2.1.cell 2
    have fc16:=HS10.out.2.2.2.2.1.frozen 2
    have fc17:w2.cell? ⟨B4,3,none⟩ = some (.int .i64 0):=HS10.out.2.2.2.2.1.cell 3
    have fc18:=HS10.out.2.2.2.2.1.frozen 3
    have fc19:¬ B5 = B4:=fun e => by have e:B5 = B4:=e; have:=HNB5.out; omega
    have fc20:¬ B4 = B5:=fun e => by have e:B4 = B5:=e; have:=HNB5.out; omega
    go_wp2_with fail
    try rw [← hW11]
    clear fc1 fc2 fc3 fc4 fc5 fc6 fc7 fc8 fc9 fc10 fc11 fc12 fc13 fc14 fc15 fc16 fc17 fc18 fc19 fc20 hW11
    have r0B4:=HS11.out.2.2.2.2.1.cell 0
    have r1B4:=HS11.out.2.2.2.2.1.cell 1
    have r2B4:=HS11.out.2.2.2.2.1.cell 2
    have r3B4:=HS11.out.2.2.2.2.1.cell 3
    refine bodyPost_ret (v:=.agg #[.int .i64 mr,.int .i64 mc,.int .i64 (Mr - mr + 1),.int .i64 (Mc - mc + 1)]) (by simp [results,Tryz.results10,go_sem, *]) rfl ?_
    exact ⟨rfl,HS11.out.1⟩
end Go.Proofs.YteohomdiklkbfaaGreat
