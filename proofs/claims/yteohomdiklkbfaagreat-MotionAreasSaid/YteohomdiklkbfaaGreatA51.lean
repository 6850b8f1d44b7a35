import Derived.Test.YteohomdiklkbfaaGreatA49
import Derived.Test.YteohomdiklkbfaaGreatA41
namespace Go.Proofs.YteohomdiklkbfaaGreat
open Go.RowKit Go.Proofs.Dm

theorem byrows_any (w:World) (v:Int):Calls Tryz.prog 14 #[.int .i64 v] w fun e w' => e = .returned (.bool (rowsV v)) ∧ Fr [] w w':=by
  rcases rowsV_cases v with ⟨h,hv⟩ | ⟨h,h1,h2,h3,h4,h5,h6⟩
  · rw [h]
    rcases hv with rfl | rfl | rfl | rfl | rfl | rfl
    all_goals go_enter Tryz.func14,Tryz.ntmps14
    all_goals go_wp2_with fail
    all_goals go_ret
    all_goals exact ⟨rfl,Fr.refl _ _⟩
  · rw [h]
    clear h
    go_enter Tryz.func14,Tryz.ntmps14
    go_wp2_with fail
    go_ret
    exact ⟨rfl,Fr.refl _ _⟩
set_option maxHeartbeats 1600000 in
theorem darea_none (w:World) (zB:Option Addr) (zm zd:Nat) (zt:Bool) (ze pr pc qr qc v:Int) (hn:zm = 0) :
    Calls Tryz.prog 12 #[.agg #[.slice zB zm zd,.bool zt,.int .i64 ze],.agg #[.int .i64 pr,.int .i64 pc],.agg #[.int .i64 qr,.int .i64 qc],.int .i64 v] w fun e w' => e = .returned (.agg #[.int .i64 0,.int .i64 0,.int .i64 0,.int .i64 0]) ∧ Fr [] w w':=by
  subst hn
  go_enter Tryz.func12,Tryz.ntmps12
  obtain ⟨W1,hW1⟩:∃ Wx,Wx = ((((w.alloc (.cells #[.slice zB 0 zd,.bool zt,.int .i64 ze] 35)).alloc (.cells #[.int .i64 pr,.int .i64 pc] 24)).alloc (.cells #[.int .i64 qr,.int .i64 qc] 24)).alloc (.cells #[.int .i64 0,.int .i64 0,.int .i64 0,.int .i64 0] 45)):=⟨_,rfl⟩
  obtain ⟨B1,hB1⟩:∃ Bx,Bx = w.heap.size:=⟨_,rfl⟩
  obtain ⟨B2,hB2⟩:∃ Bx,Bx = w.heap.size + 1:=⟨_,rfl⟩
  obtain ⟨B3,hB3⟩:∃ Bx,Bx = w.heap.size + 1 + 1:=⟨_,rfl⟩
  obtain ⟨B4,hB4⟩:∃ Bx,Bx = w.heap.size + 1 + 1 + 1:=⟨_,rfl⟩
  have HNB1:Hid (w.heap.size ≤ B1):=by
    show _ ≤ _
    omega
  have HNB2:Hid (w.heap.size ≤ B2 ∧ B2 ≠ B1):=by
    exact ⟨by omega,by omega⟩
  have HNB3:Hid (w.heap.size ≤ B3 ∧ B3 ≠ B1 ∧ B3 ≠ B2):=by
    exact ⟨by omega,by omega,by omega⟩
  have HNB4:Hid (w.heap.size ≤ B4 ∧ B4 ≠ B1 ∧ B4 ≠ B2 ∧ B4 ≠ B3):=by
    exact ⟨by omega,by omega,by omega,by omega⟩
  have HS1:Hid (Fr [] w W1 ∧ Blk W1 B1 35 #[.slice zB 0 zd,.bool zt,.int .i64 ze] ∧ Blk W1 B2 24 #[.int .i64 pr,.int .i64 pc] ∧ Blk W1 B3 24 #[.int .i64 qr,.int .i64 qc] ∧ Blk W1 B4 45 #[.int .i64 0,.int .i64 0,.int .i64 0,.int .i64 0]):=by
    have mB1:=Blk.new w 35 #[.slice zB 0 zd,.bool zt,.int .i64 ze]
    rw [← hB1] at mB1
    replace mB1:=mB1.alloc (.cells #[.int .i64 pr,.int .i64 pc] 24)
    replace mB1:=mB1.alloc (.cells #[.int .i64 qr,.int .i64 qc] 24)
    replace mB1:=mB1.alloc (.cells #[.int .i64 0,.int .i64 0,.int .i64 0,.int .i64 0] 45)
    have mB2:=Blk.new (w.alloc (.cells #[.slice zB 0 zd,.bool zt,.int .i64 ze] 35)) 24 #[.int .i64 pr,.int .i64 pc]
    simp only [World.size_alloc,World.size_setCell] at mB2
    rw [← hB2] at mB2
    replace mB2:=mB2.alloc (.cells #[.int .i64 qr,.int .i64 qc] 24)
    replace mB2:=mB2.alloc (.cells #[.int .i64 0,.int .i64 0,.int .i64 0,.int .i64 0] 45)
    have mB3:=Blk.new ((w.alloc (.cells #[.slice zB 0 zd,.bool zt,.int .i64 ze] 35)).alloc (.cells #[.int .i64 pr,.int .i64 pc] 24)) 24 #[.int .i64 qr,.int .i64 qc]
    simp only [World.size_alloc,World.size_setCell] at mB3
    rw [← hB3] at mB3
    replace mB3:=mB3.alloc (.cells #[.int .i64 0,.int .i64 0,.int .i64 0,.int .i64 0] 45)
    have mB4:=Blk.new (((w.alloc (.cells #[.slice zB 0 zd,.bool zt,.int .i64 ze] 35)).alloc (.cells #[.int .i64 pr,.int .i64 pc] 24)).alloc (.cells #[.int .i64 qr,.int .i64 qc] 24)) 45 #[.int .i64 0,.int .i64 0,.int .i64 0,.int .i64 0]
    simp only [World.size_alloc,World.size_setCell] at mB4
    rw [← hB4] at mB4
    rw [hW1]
    exact ⟨(((((Fr.refl [] w).alloc _).alloc _).alloc _).alloc _),mB1,mB2,mB3,mB4⟩
  go_wp2_with fail
  try rw [← hW1]
  try rw [← hB4]
  try rw [← hB3]
  try rw [← hB2]
  try rw [← hB1]
  clear hW1 hB1 hB2 hB3 hB4
  have r0B4:=HS1.out.2.2.2.2.cell 0
  have r1B4:=HS1.out.2.2.2.2.cell 1
  have r2B4:=HS1.out.2.2.2.2.cell 2
  have r3B4:=HS1.out.2.2.2.2.cell 3
  refine bodyPost_ret (v:=.agg #[.int .i64 0,.int .i64 0,.int .i64 0,.int .i64 0]) (by simp [results,Tryz.results12,go_sem, *]) rfl ?_
  exact ⟨rfl,HS1.out.1⟩
set_option maxRecDepth 100000 in
set_option maxHeartbeats 6400000 in
theorem darea_some (w:World) (zB:Option Addr) (zm zd:Nat) (zt:Bool) (ze pr pc qr qc v a1 c1 a2 c2:Int) (m:Nat)
    (HWD:Hid (∀ w',Fr [] w w' → Calls Tryz.prog 33 #[.agg #[.slice zB zm zd,.bool zt,.int .i64 ze]] w' fun en w'' => en = .returned (.int .i64 (m:Nat)) ∧ Fr [] w' w''))
    (HT1:Hid (∀ w',Fr [] w w' → Calls Tryz.prog 32 #[.agg #[.slice zB zm zd,.bool zt,.int .i64 ze],.agg #[.int .i64 pr,.int .i64 pc]] w' fun en w'' => en = .returned (.agg #[.int .i64 a1,.int .i64 c1]) ∧ Fr [] w' w''))
    (HT2:Hid (∀ w',Fr [] w w' → Calls Tryz.prog 32 #[.agg #[.slice zB zm zd,.bool zt,.int .i64 ze],.agg #[.int .i64 qr,.int .i64 qc]] w' fun en w'' => en = .returned (.agg #[.int .i64 a2,.int .i64 c2]) ∧ Fr [] w' w''))
    (hb:0 ≤ a1 ∧ a1 ≤ 1000 ∧ 0 ≤ a2 ∧ a2 ≤ 1000 ∧ 0 ≤ c1 ∧ c1 ≤ 1000 ∧ 0 ≤ c2 ∧ c2 ≤ 1000) (hn:0 < zm) :
    Calls Tryz.prog 12 #[.agg #[.slice zB zm zd,.bool zt,.int .i64 ze],.agg #[.int .i64 pr,.int .i64 pc],.agg #[.int .i64 qr,.int .i64 qc],.int .i64 v] w fun e w' => e = .returned (.agg (areaV (rowsV v) a1 c1 a2 c2 m)) ∧ Fr [] w w':=by
  have HB:Hid (0 ≤ a1 ∧ a1 ≤ 1000 ∧ 0 ≤ a2 ∧ a2 ≤ 1000 ∧ 0 ≤ c1 ∧ c1 ≤ 1000 ∧ 0 ≤ c2 ∧ c2 ≤ 1000):=hb
  have hn0:((zm:Int) == 0) = false:=by rw [beq_eq_false_iff_ne]; omega
  obtain ⟨rb,hrb⟩:∃ rb,rb = rowsV v:=⟨_,rfl⟩
  have HBR:Hid (∀ w',Calls Tryz.prog 14 #[.int .i64 v] w' fun en w'' => en = .returned (.bool rb) ∧ Fr [] w' w''):=by
    show ∀ _,_
    intro w'
    rw [hrb]
    exact byrows_any w' v
  rw [← hrb]
  clear hb hn hrb
  go_enter Tryz.func12,Tryz.ntmps12
  obtain ⟨W1,hW1⟩:∃ Wx,Wx = ((((w.alloc (.cells #[.slice zB zm zd,.bool zt,.int .i64 ze] 35)).alloc (.cells #[.int .i64 pr,.int .i64 pc] 24)).alloc (.cells #[.int .i64 qr,.int .i64 qc] 24)).alloc (.cells #[.int .i64 0,.int .i64 0,.int .i64 0,.int .i64 0] 45)):=⟨_,rfl⟩
  obtain ⟨B1,hB1⟩:∃ Bx,Bx = w.heap.size:=⟨_,rfl⟩
  obtain ⟨B2,hB2⟩:∃ Bx,Bx = w.heap.size + 1:=⟨_,rfl⟩
  obtain ⟨B3,hB3⟩:∃ Bx,Bx = w.heap.size + 1 + 1:=⟨_,rfl⟩
  obtain ⟨B4,hB4⟩:∃ Bx,Bx = w.heap.size + 1 + 1 + 1:=⟨_,rfl⟩
  have HNB1:Hid (w.heap.size ≤ B1):=by
    show _ ≤ _
    omega
  have HNB2:Hid (w.heap.size ≤ B2 ∧ B2 ≠ B1):=by
    exact ⟨by omega,by omega⟩
  have HNB3:Hid (w.heap.size ≤ B3 ∧ B3 ≠ B1 ∧ B3 ≠ B2):=by
    exact ⟨by omega,by omega,by omega⟩
  have HNB4:Hid (w.heap.size ≤ B4 ∧ B4 ≠ B1 ∧ B4 ≠ B2 ∧ B4 ≠ B3):=by
    exact ⟨by omega,by omega,by omega,by omega⟩
  have HS1:Hid (Fr [] w W1 ∧ Blk W1 B1 35 #[.slice zB zm zd,.bool zt,.int .i64 ze] ∧ Blk W1 B2 24 #[.int .i64 pr,.int .i64 pc] ∧ Blk W1 B3 24 #[.int .i64 qr,.int .i64 qc] ∧ Blk W1 B4 45 #[.int .i64 0,.int .i64 0,.int .i64 0,.int .i64 0]):=by
    have mB1:=Blk.new w 35 #[.slice zB zm zd,.bool zt,.int .i64 ze]
    rw [← hB1] at mB1
    replace mB1:=mB1.alloc (.cells #[.int .i64 pr,.int .i64 pc] 24)
    replace mB1:=mB1.alloc (.cells #[.int .i64 qr,.int .i64 qc] 24)
    replace mB1:=mB1.alloc (.cells #[.int .i64 0,.int .i64 0,.int .i64 0,.int .i64 0] 45)
    have mB2:=Blk.new (w.alloc (.cells #[.slice zB zm zd,.bool zt,.int .i64 ze] 35)) 24 #[.int .i64 pr,.int .i64 pc]
    simp only [World.size_alloc,World.size_setCell] at mB2
    rw [← hB2] at mB2
    replace mB2:=mB2.alloc (.cells #[.int .i64 qr,.int .i64 qc] 24)
    replace mB2:=mB2.alloc (.cells #[.int .i64 0,.int .i64 0,.int .i64 0,.int .i64 0] 45)
    have mB3:=Blk.new ((w.alloc (.cells #[.slice zB zm zd,.bool zt,.int .i64 ze] 35)).alloc (.cells #[.int .i64 pr,.int .i64 pc] 24)) 24 #[.int .i64 qr,.int .i64 qc]
    simp only [World.size_alloc,World.size_setCell] at mB3
    rw [← hB3] at mB3
    replace mB3:=mB3.alloc (.cells #[.int .i64 0,.int .i64 0,.int .i64 0,.int .i64 0] 45)
    have mB4:=Blk.new (((w.alloc (.cells #[.slice zB zm zd,.bool zt,.int .i64 ze] 35)).alloc (.cells #[.int .i64 pr,.int .i64 pc] 24)).alloc (.cells #[.int .i64 qr,.int .i64 qc] 24)) 45 #[.int .i64 0,.int .i64 0,.int .i64 0,.int .i64 0]
    simp only [World.size_alloc,World.size_setCell] at mB4
    rw [← hB4] at mB4
    rw [hW1]
    exact ⟨(((((Fr.refl [] w).alloc _).alloc _).alloc _).alloc _),mB1,mB2,mB3,mB4⟩
  go_wp2_with fail
  try rw [← hW1]
  try rw [← hB4]
  try rw [← hB3]
  try rw [← hB2]
  try rw [← hB1]
  clear hW1 hB1 hB2 hB3 hB4
  obtain ⟨F,hF⟩:∃ F:Nat → Value → Prop,F = (fun (i:Nat) (v:Value) => match i with | 0 => v = .agg #[.slice zB zm zd,.bool zt,.int .i64 ze] | 1 => v = .agg #[.int .i64 pr,.int .i64 pc] | 2 => v = .agg #[.int .i64 a1,.int .i64 c1] | 3 => v = .agg #[.slice zB zm zd,.bool zt,.int .i64 ze] | 4 => v = .agg #[.int .i64 qr,.int .i64 qc] | 5 => v = .agg #[.int .i64 a2,.int .i64 c2] | _ => True):=⟨_,rfl⟩
  obtain ⟨Bx,hBx⟩:∃ Bx:(Nat → Bool) → World → Prop,Bx = (fun f w => Blk w B2 24 #[cond (f 6) (.int .i64 a1) (.int .i64 pr),cond (f 6) (.int .i64 c1) (.int .i64 pc)] ∧ Blk w B3 24 #[cond (f 7) (.int .i64 a2) (.int .i64 qr),cond (f 7) (.int .i64 c2) (.int .i64 qc)]):=⟨_,rfl⟩
  have HB0:Hid (∀ f w1 w2,Fr [] w1 w2 → Bx f w1 → Bx f w2):=by
    show ∀ _,_
    intro f w1 w2 hf h
    subst hBx
    exact ⟨h.1.fr hf (by simp),h.2.fr hf (by simp)⟩
  have HB1:Hid (∀ f i w,6 ≠ i → 7 ≠ i → Bx f w → Bx (addB f i) w):=by
    show ∀ _,_
    intro f i w n6 n7 h
    subst hBx
    simpa only [addB_ne n6,addB_ne n7] using h
  have HFG:=Lib.hid (And.intro hF hBx)
  clear hF hBx
  have HC2:Hid (∀ w',Fr [some B2,some B3] W1 w' → (w'.cell? ⟨B1,0,none⟩ = some (.slice zB zm zd) ∧ w'.cell? ⟨B1,1,none⟩ = some (.bool zt) ∧ w'.cell? ⟨B1,2,none⟩ = some (.int .i64 ze))):=by
    show ∀ _,_
    intro w' hf
    have h0:=HS1.out.2.1.fr hf (by
      intro hx
      simp only [List.mem_cons,List.not_mem_nil,or_false,Option.some.injEq] at hx
      rcases hx with e | e
      · exact (fun e => by have e:B1 = B2:=e; have:=HNB2.out; omega) e
      · exact (fun e => by have e:B1 = B3:=e; have:=HNB3.out; omega) e)
    exact ⟨h0.cell 0,h0.cell 1,h0.cell 2⟩
  have HOW:Hid (∀ w',Fr [some B2,some B3] W1 w' → Fr [] w w'):=by
    show ∀ _,_
    intro w' hf
    exact HS1.out.1.seq hf fun z hz => by
      simp only [List.mem_cons,List.not_mem_nil,or_false] at hz
      rcases hz with e | e
      · exact .inr (.inr ⟨_,HNB2.out.1,e⟩)
      · exact .inr (.inr ⟨_,HNB3.out.1,e⟩)
  refine wp_region_invc (by kernel_rfl) (fun f a w' => ∃ u:Nat → Value,a = { tmps:=#[.agg #[.slice zB zm zd,.bool zt,.int .i64 ze],.agg #[.int .i64 pr,.int .i64 pc],.agg #[.int .i64 qr,.int .i64 qc],.int .i64 v,.pointer (some ⟨B1,0,none⟩),.pointer (some ⟨B2,0,none⟩),.pointer (some ⟨B3,0,none⟩),undef,.pointer (some ⟨B4,0,none⟩),undef,undef,.pointer (some ⟨B1,0,none⟩),.slice zB zm zd,.int .i64 (zm:Nat),.bool false,undef,u 0,u 1,u 2,u 3,u 4,u 5,undef,undef,undef,undef,undef,undef,undef,undef,undef,undef,undef,undef,undef,undef,undef,undef,undef,undef,undef,undef,undef,undef,undef,undef,undef,undef,undef,undef,undef,undef,undef,undef,undef,undef,undef,undef,undef,undef,undef,undef,undef,undef,undef,undef,undef,undef,undef,undef,undef,undef,undef,undef,undef,undef],defers:=[] } ∧ Hid (RInvS [some B2,some B3] F Bx W1 f u w')) (by kernel_rfl) ?_ ?_ ?_
  · exact ⟨fun _ => undef,rfl,RInvS.start _ (by rw [HFG.out.2]; exact ⟨HS1.out.2.2.1.drew,HS1.out.2.2.2.1.drew⟩)⟩
  · simp only [EachOp]
    refine ⟨?_,?_,?_,?_,?_,?_,?_,?_,trivial⟩
    all_goals rintro f a w' hfi hdep hcl ⟨u,rfl,HI⟩ K hK
    · obtain ⟨q0_0,q0_1,q0_2⟩:=HC2.out w' HI.out.fr
      go_simp
      exact hK _ _ ⟨updU u 0 (.agg #[.slice zB zm zd,.bool zt,.int .i64 ze]),rfl,HI.out.val (by rw [HFG.out.1]; exact rfl) (HB1.out _ _ _ (by decide) (by decide) HI.out.b)⟩
    · have hbx:=HI.out.b
      rw [HFG.out.2] at hbx
      have hL6:f 6 = false:=by
        cases g6:f 6 with
        | false => rfl
        | true =>
          have g1:=hcl 6 _ rfl g6 ⟨1,.phase⟩ (by simp) rfl
          exact Bool.noConfusion (g1.symm.trans hfi)
      have t0:w'.cell? ⟨B2,0,none⟩ = some (.int .i64 pr):=by
        have:=(hbx.1).cell 0
        simpa [hL6] using this
      have t1:w'.cell? ⟨B2,1,none⟩ = some (.int .i64 pc):=by
        have:=(hbx.1).cell 1
        simpa [hL6] using this
      clear hbx
      go_simp
      exact hK _ _ ⟨updU u 1 (.agg #[.int .i64 pr,.int .i64 pc]),rfl,HI.out.val (by rw [HFG.out.1]; exact rfl) (HB1.out _ _ _ (by decide) (by decide) HI.out.b)⟩
    · have e0:u 0 = .agg #[.slice zB zm zd,.bool zt,.int .i64 ze]:=HI.out.get HFG.out.1 (i:=0) (hdep ⟨0,.data⟩ (by simp) rfl)
      have e1:u 1 = .agg #[.int .i64 pr,.int .i64 pc]:=HI.out.get HFG.out.1 (i:=1) (hdep ⟨1,.data⟩ (by simp) rfl)
      refine step_call _ (by rfl) 32 #[.agg #[.slice zB zm zd,.bool zt,.int .i64 ze],.agg #[.int .i64 pr,.int .i64 pc]] (by go_simp) _ (HT1.out w' (HOW.out _ HI.out.fr)) (by rintro e w' ⟨he,_⟩; exact ⟨_,he⟩) ?_
      rintro v4 w4 ⟨hv4,hf4⟩
      injection hv4 with hv4
      subst hv4
      try go_simp
      exact hK _ _ ⟨updU u 2 (.agg #[.int .i64 a1,.int .i64 c1]),(by simp [updU,e0,e1] <;> (repeat' apply And.intro) <;> rfl),HI.out.call hf4 (by rw [HFG.out.1]; exact rfl) (HB1.out _ _ _ (by decide) (by decide) (HB0.out _ _ _ hf4 HI.out.b))⟩
    · obtain ⟨q0_0,q0_1,q0_2⟩:=HC2.out w' HI.out.fr
      go_simp
      exact hK _ _ ⟨updU u 3 (.agg #[.slice zB zm zd,.bool zt,.int .i64 ze]),rfl,HI.out.val (by rw [HFG.out.1]; exact rfl) (HB1.out _ _ _ (by decide) (by decide) HI.out.b)⟩
    · have hbx:=HI.out.b
      rw [HFG.out.2] at hbx
      have hL7:f 7 = false:=by
        cases g7:f 7 with
        | false => rfl
        | true =>
          have g4:=hcl 7 _ rfl g7 ⟨4,.phase⟩ (by simp) rfl
          exact Bool.noConfusion (g4.symm.trans hfi)
      have t0:w'.cell? ⟨B3,0,none⟩ = some (.int .i64 qr):=by
        have:=(hbx.2).cell 0
        simpa [hL7] using this
      have t1:w'.cell? ⟨B3,1,none⟩ = some (.int .i64 qc):=by
        have:=(hbx.2).cell 1
        simpa [hL7] using this
      clear hbx
      go_simp
      exact hK _ _ ⟨updU u 4 (.agg #[.int .i64 qr,.int .i64 qc]),rfl,HI.out.val (by rw [HFG.out.1]; exact rfl) (HB1.out _ _ _ (by decide) (by decide) HI.out.b)⟩
    · have e3:u 3 = .agg #[.slice zB zm zd,.bool zt,.int .i64 ze]:=HI.out.get HFG.out.1 (i:=3) (hdep ⟨3,.data⟩ (by simp) rfl)
      have e4:u 4 = .agg #[.int .i64 qr,.int .i64 qc]:=HI.out.get HFG.out.1 (i:=4) (hdep ⟨4,.data⟩ (by simp) rfl)
      refine step_call _ (by rfl) 32 #[.agg #[.slice zB zm zd,.bool zt,.int .i64 ze],.agg #[.int .i64 qr,.int .i64 qc]] (by go_simp) _ (HT2.out w' (HOW.out _ HI.out.fr)) (by rintro e w' ⟨he,_⟩; exact ⟨_,he⟩) ?_
      rintro v4 w4 ⟨hv4,hf4⟩
      injection hv4 with hv4
      subst hv4
      try go_simp
      exact hK _ _ ⟨updU u 5 (.agg #[.int .i64 a2,.int .i64 c2]),(by simp [updU,e3,e4] <;> (repeat' apply And.intro) <;> rfl),HI.out.call hf4 (by rw [HFG.out.1]; exact rfl) (HB1.out _ _ _ (by decide) (by decide) (HB0.out _ _ _ hf4 HI.out.b))⟩
    · have e2:u 2 = .agg #[.int .i64 a1,.int .i64 c1]:=HI.out.get HFG.out.1 (i:=2) (hdep ⟨2,.data⟩ (by simp) rfl)
      have hbx:=HI.out.b
      rw [HFG.out.2] at hbx
      have hbb:=hbx.1
      have t0:=hbb.cell 0
      have z0:=hbb.frozen 0
      have t1:=hbb.cell 1
      have z1:=hbb.frozen 1
      have tl:=hbb.lt
      simp only [List.getElem?_toArray,List.getElem?_cons_zero,List.getElem?_cons_succ] at t0 t1
      go_simp
      exact hK _ _ ⟨u,(by first | rfl | (simp [e2] <;> rfl)),HI.out.put (((Fr.refl _ _).setB (fun _ => by simp) _ _).setB (fun _ => by simp) _ _) (by rw [HFG.out.1]; exact trivial) (by rw [HFG.out.2]; exact ⟨by simpa [addB] using ((hbx.1.set_ 0 (.int .i64 a1)).set_ 1 (.int .i64 c1)),by simpa [addB] using ((hbx.2.far (p:=⟨B2,0,none⟩) (fun e => by have e:B3 = B2:=e; have:=HNB3.out; omega) (.int .i64 a1)).far (p:=⟨B2,1,none⟩) (fun e => by have e:B3 = B2:=e; have:=HNB3.out; omega) (.int .i64 c1))⟩)⟩
    · have e5:u 5 = .agg #[.int .i64 a2,.int .i64 c2]:=HI.out.get HFG.out.1 (i:=5) (hdep ⟨5,.data⟩ (by simp) rfl)
      have hbx:=HI.out.b
      rw [HFG.out.2] at hbx
      have hbb:=hbx.2
      have t0:=hbb.cell 0
      have z0:=hbb.frozen 0
      have t1:=hbb.cell 1
      have z1:=hbb.frozen 1
      have tl:=hbb.lt
      simp only [List.getElem?_toArray,List.getElem?_cons_zero,List.getElem?_cons_succ] at t0 t1
      go_simp
      exact hK _ _ ⟨u,(by first | rfl | (simp [e5] <;> rfl)),HI.out.put (((Fr.refl _ _).setB (fun _ => by simp) _ _).setB (fun _ => by simp) _ _) (by rw [HFG.out.1]; exact trivial) (by rw [HFG.out.2]; exact ⟨by simpa [addB] using ((hbx.1.far (p:=⟨B3,0,none⟩) (fun e => by have e:B2 = B3:=e; have:=HNB3.out; omega) (.int .i64 a2)).far (p:=⟨B3,1,none⟩) (fun e => by have e:B2 = B3:=e; have:=HNB3.out; omega) (.int .i64 c2)),by simpa [addB] using ((hbx.2.set_ 0 (.int .i64 a2)).set_ 1 (.int .i64 c2))⟩)⟩
  rintro f a wr2 hall ⟨u,rfl,HI⟩
  have e0:u 0 = .agg #[.slice zB zm zd,.bool zt,.int .i64 ze]:=HI.out.get HFG.out.1 (i:=0) (hall 0 (by decide))
  have e1:u 1 = .agg #[.int .i64 pr,.int .i64 pc]:=HI.out.get HFG.out.1 (i:=1) (hall 1 (by decide))
  have e2:u 2 = .agg #[.int .i64 a1,.int .i64 c1]:=HI.out.get HFG.out.1 (i:=2) (hall 2 (by decide))
  have e3:u 3 = .agg #[.slice zB zm zd,.bool zt,.int .i64 ze]:=HI.out.get HFG.out.1 (i:=3) (hall 3 (by decide))
  have e4:u 4 = .agg #[.int .i64 qr,.int .i64 qc]:=HI.out.get HFG.out.1 (i:=4) (hall 4 (by decide))
  have e5:u 5 = .agg #[.int .i64 a2,.int .i64 c2]:=HI.out.get HFG.out.1 (i:=5) (hall 5 (by decide))
  have hbx:=HI.out.b
  rw [HFG.out.2] at hbx
  simp only [hall 6 (by decide),hall 7 (by decide),cond_true] at hbx
  try dsimp only
  simp only [e0,e1,e2,e3,e4,e5]
  have HS3:Hid (Fr [] w wr2 ∧ Blk wr2 B1 35 #[.slice zB zm zd,.bool zt,.int .i64 ze] ∧ Blk wr2 B2 24 #[.int .i64 a1,.int .i64 c1] ∧ Blk wr2 B3 24 #[.int .i64 a2,.int .i64 c2] ∧ Blk wr2 B4 45 #[.int .i64 0,.int .i64 0,.int .i64 0,.int .i64 0]):=⟨HOW.out _ HI.out.fr,HS1.out.2.1.fr HI.out.fr (by
      intro hx
      simp only [List.mem_cons,List.not_mem_nil,or_false,Option.some.injEq] at hx
      rcases hx with e | e
      · exact (fun e => by have e:B1 = B2:=e; have:=HNB2.out; omega) e
      · exact (fun e => by have e:B1 = B3:=e; have:=HNB3.out; omega) e),hbx.1,hbx.2,HS1.out.2.2.2.2.fr HI.out.fr (by
      intro hx
      simp only [List.mem_cons,List.not_mem_nil,or_false,Option.some.injEq] at hx
      rcases hx with e | e
      · exact (fun e => by have e:B4 = B2:=e; have:=HNB4.out; omega) e
      · exact (fun e => by have e:B4 = B3:=e; have:=HNB4.out; omega) e)⟩
  clear e0 e1 e2 e3 e4 e5 HI hall HFG HB0 HB1 hbx HC2 HOW
  by_cases hr:a2 < a1
  · have hd1:decide (a2 < a1) = true:=decide_eq_true hr
    by_cases hc:c2 < c1
    · have hd2:decide (c2 < c1) = true:=decide_eq_true hc
      obtain ⟨W4,hW4⟩:∃ Wx,Wx = ((((wr2.setCell ⟨B2,0,none⟩ (.int .i64 a2)).setCell ⟨B3,0,none⟩ (.int .i64 a1)).setCell ⟨B2,1,none⟩ (.int .i64 c2)).setCell ⟨B3,1,none⟩ (.int .i64 c1)):=⟨_,rfl⟩
      have HS4:Hid (Fr [] w W4 ∧ Blk W4 B1 35 #[.slice zB zm zd,.bool zt,.int .i64 ze] ∧ Blk W4 B2 24 #[.int .i64 a2,.int .i64 c2] ∧ Blk W4 B3 24 #[.int .i64 a1,.int .i64 c1] ∧ Blk W4 B4 45 #[.int .i64 0,.int .i64 0,.int .i64 0,.int .i64 0]):=by
        have mB1:=HS3.out.2.1
        replace mB1:=mB1.far (p:=⟨B2,0,none⟩) (fun e => by have e:B1 = B2:=e; have:=HNB2.out; omega) (.int .i64 a2)
        replace mB1:=mB1.far (p:=⟨B3,0,none⟩) (fun e => by have e:B1 = B3:=e; have:=HNB3.out; omega) (.int .i64 a1)
        replace mB1:=mB1.far (p:=⟨B2,1,none⟩) (fun e => by have e:B1 = B2:=e; have:=HNB2.out; omega) (.int .i64 c2)
        replace mB1:=mB1.far (p:=⟨B3,1,none⟩) (fun e => by have e:B1 = B3:=e; have:=HNB3.out; omega) (.int .i64 c1)
        have mB2:=HS3.out.2.2.1
        replace mB2:Blk (wr2.setCell ⟨B2,0,none⟩ (.int .i64 a2)) B2 24 #[.int .i64 a2,.int .i64 c1]:=by simpa using mB2.set_ 0 (.int .i64 a2)
        replace mB2:=mB2.far (p:=⟨B3,0,none⟩) (fun e => by have e:B2 = B3:=e; have:=HNB3.out; omega) (.int .i64 a1)
        replace mB2:Blk (((wr2.setCell ⟨B2,0,none⟩ (.int .i64 a2)).setCell ⟨B3,0,none⟩ (.int .i64 a1)).setCell ⟨B2,1,none⟩ (.int .i64 c2)) B2 24 #[.int .i64 a2,.int .i64 c2]:=by simpa using mB2.set_ 1 (.int .i64 c2)
        replace mB2:=mB2.far (p:=⟨B3,1,none⟩) (fun e => by have e:B2 = B3:=e; have:=HNB3.out; omega) (.int .i64 c1)
        have mB3:=HS3.out.2.2.2.1
        replace mB3:=mB3.far (p:=⟨B2,0,none⟩) (fun e => by have e:B3 = B2:=e; have:=HNB3.out; omega) (.int .i64 a2)
        replace mB3:Blk ((wr2.setCell ⟨B2,0,none⟩ (.int .i64 a2)).setCell ⟨B3,0,none⟩ (.int .i64 a1)) B3 24 #[.int .i64 a1,.int .i64 c2]:=by simpa using mB3.set_ 0 (.int .i64 a1)
        replace mB3:=mB3.far (p:=⟨B2,1,none⟩) (fun e => by have e:B3 = B2:=e; have:=HNB3.out; omega) (.int .i64 c2)
        replace mB3:Blk ((((wr2.setCell ⟨B2,0,none⟩ (.int .i64 a2)).setCell ⟨B3,0,none⟩ (.int .i64 a1)).setCell ⟨B2,1,none⟩ (.int .i64 c2)).setCell ⟨B3,1,none⟩ (.int .i64 c1)) B3 24 #[.int .i64 a1,.int .i64 c1]:=by simpa using mB3.set_ 1 (.int .i64 c1)
        have mB4:=HS3.out.2.2.2.2
        replace mB4:=mB4.far (p:=⟨B2,0,none⟩) (fun e => by have e:B4 = B2:=e; have:=HNB4.out; omega) (.int .i64 a2)
        replace mB4:=mB4.far (p:=⟨B3,0,none⟩) (fun e => by have e:B4 = B3:=e; have:=HNB4.out; omega) (.int .i64 a1)
        replace mB4:=mB4.far (p:=⟨B2,1,none⟩) (fun e => by have e:B4 = B2:=e; have:=HNB4.out; omega) (.int .i64 c2)
        replace mB4:=mB4.far (p:=⟨B3,1,none⟩) (fun e => by have e:B4 = B3:=e; have:=HNB4.out; omega) (.int .i64 c1)
        rw [hW4]
        exact ⟨((((HS3.out.1.setB (fun h => absurd h (by have:=HNB2.out; omega)) _ _).setB (fun h => absurd h (by have:=HNB3.out; omega)) _ _).setB (fun h => absurd h (by have:=HNB2.out; omega)) _ _).setB (fun h => absurd h (by have:=HNB3.out; omega)) _ _),mB1,mB2,mB3,mB4⟩
      have fc1:wr2.cell? ⟨B3,0,none⟩ = some (.int .i64 a2):=HS3.out.2.2.2.1.cell 0
      have fc2:=HS3.out.2.2.2.1.frozen 0
      have fc3:=HS3.out.2.2.2.1.lt
      have fc4:wr2.cell? ⟨B2,0,none⟩ = some (.int .i64 a1):=HS3.out.2.2.1.cell 0
      have fc5:=HS3.out.2.2.1.frozen 0
      have fc6:=HS3.out.2.2.1.lt
      have fc7:wr2.cell? ⟨B3,1,none⟩ = some (.int .i64 c2):=HS3.out.2.2.2.1.cell 1
      have fc8:=HS3.out.2.2.2.1.frozen 1
      have fc9:wr2.cell? ⟨B2,1,none⟩ = some (.int .i64 c1):=HS3.out.2.2.1.cell 1
      have fc10:=HS3.out.2.2.1.frozen 1
      have fc11:¬ B3 = B2:=fun e => by have e:B3 = B2:=e; have:=HNB3.out; omega
      have fc12:¬ B2 = B3:=fun e => by have e:B2 = B3:=e; have:=HNB3.out; omega
      go_wp2_with fail
      try rw [← hW4]
      clear fc1 fc2 fc3 fc4 fc5 fc6 fc7 fc8 fc9 fc10 fc11 fc12 hW4
      refine (HBR.out W4).mono ?_
      rintro en w1 ⟨rfl,hf1⟩
      have HS5:Hid (Fr [] w w1 ∧ Blk w1 B1 35 #[.slice zB zm zd,.bool zt,.int .i64 ze] ∧ Blk w1 B2 24 #[.int .i64 a2,.int .i64 c2] ∧ Blk w1 B3 24 #[.int .i64 a1,.int .i64 c1] ∧ Blk w1 B4 45 #[.int .i64 0,.int .i64 0,.int .i64 0,.int .i64 0]):=⟨HS4.out.1.trans hf1,HS4.out.2.1.fr hf1 (by simp),HS4.out.2.2.1.fr hf1 (by simp),HS4.out.2.2.2.1.fr hf1 (by simp),HS4.out.2.2.2.2.fr hf1 (by simp)⟩
      clear hf1
      cases rb with
      | true =>
        have hh:=HB.out
        have hw1:IntKind.i64.wrap (a1 - a2) = a1 - a2:=IntWalk.i64_in _ (by omega)
        have hw2:IntKind.i64.wrap (a1 - a2 + 1) = a1 - a2 + 1:=IntWalk.i64_in _ (by omega)
        have hw3:IntKind.i64.wrap (c1 - c2) = c1 - c2:=IntWalk.i64_in _ (by omega)
        have hw4:IntKind.i64.wrap (c1 - c2 + 1) = c1 - c2 + 1:=IntWalk.i64_in _ (by omega)
        have HEQ:Hid (areaV true a1 c1 a2 c2 m = #[.int .i64 a2,.int .i64 0,.int .i64 (a1 - a2 + 1),.int .i64 (m:Nat)]):=by
          show _ = _
          unfold areaV
          simp only [cond_true,cond_false]
          rw [show min a1 a2 = a2 by omega,show max a1 a2 = a1 by omega]
        clear hh
        go_wp2_with fail
        have HC7:Hid (∀ w',Fr [] w1 w' → (w'.cell? ⟨B2,0,none⟩ = some (.int .i64 a2) ∧ w'.cell? ⟨B2,1,none⟩ = some (.int .i64 c2)) ∧ (w'.cell? ⟨B3,0,none⟩ = some (.int .i64 a1) ∧ w'.cell? ⟨B3,1,none⟩ = some (.int .i64 c1)) ∧ (w'.cell? ⟨B1,0,none⟩ = some (.slice zB zm zd) ∧ w'.cell? ⟨B1,1,none⟩ = some (.bool zt) ∧ w'.cell? ⟨B1,2,none⟩ = some (.int .i64 ze)) ∧ (w'.cell? ⟨B4,0,none⟩ = some (.int .i64 0) ∧ w'.frozen? ⟨B4,0,none⟩ = false ∧ w'.cell? ⟨B4,1,none⟩ = some (.int .i64 0) ∧ w'.frozen? ⟨B4,1,none⟩ = false ∧ w'.cell? ⟨B4,2,none⟩ = some (.int .i64 0) ∧ w'.frozen? ⟨B4,2,none⟩ = false ∧ w'.cell? ⟨B4,3,none⟩ = some (.int .i64 0) ∧ w'.frozen? ⟨B4,3,none⟩ = false ∧ B4 < w'.heap.size)):=by
          show ∀ _,_
          intro w' hf
          have h0:=HS5.out.2.2.1.fr hf (by simp)
          have h1:=HS5.out.2.2.2.1.fr hf (by simp)
          have h2:=HS5.out.2.1.fr hf (by simp)
          have h3:=HS5.out.2.2.2.2.fr hf (by simp)
          exact ⟨⟨h0.cell 0,h0.cell 1⟩,⟨h1.cell 0,h1.cell 1⟩,⟨h2.cell 0,h2.cell 1,h2.cell 2⟩,⟨h3.cell 0,h3.frozen 0,h3.cell 1,h3.frozen 1,h3.cell 2,h3.frozen 2,h3.cell 3,h3.frozen 3,h3.lt⟩⟩
        obtain ⟨F,hF⟩:∃ F:World → Nat → Value → Prop,F = (fun (w:World) (i:Nat) (v:Value) => match i with | 0 => v = .pointer (some ⟨B2,0,none⟩) | 1 => v = .int .i64 a2 | 2 => v = .pointer (some ⟨B3,0,none⟩) | 3 => v = .int .i64 a1 | 4 => v = .pointer (some ⟨B2,0,none⟩) | 5 => v = .int .i64 a2 | 6 => v = .int .i64 (a1 - a2) | 7 => v = .int .i64 (a1 - a2 + 1) | 8 => v = .agg #[.slice zB zm zd,.bool zt,.int .i64 ze] | 9 => v = .int .i64 (m:Nat) | 10 => v = .agg #[.int .i64 a2,.int .i64 0,.int .i64 (a1 - a2 + 1),.int .i64 (m:Nat)] | _ => True):=⟨_,rfl⟩
        obtain ⟨G,hG⟩:∃ G:(Nat → Value) → World → Prop,G = (fun u w => ∃ wq,Fr [] w1 wq ∧ w = ((((wq.setCell ⟨B4,0,none⟩ (.int .i64 a2)).setCell ⟨B4,1,none⟩ (.int .i64 0)).setCell ⟨B4,2,none⟩ (.int .i64 (a1 - a2 + 1))).setCell ⟨B4,3,none⟩ (.int .i64 (m:Nat)))):=⟨_,rfl⟩
        have HM:Hid (∀ w1 w2:World,Fr [] w1 w2 → ∀ j x,F w1 j x → F w2 j x):=by
          show ∀ _,_
          intro w1 w2 hf j x h
          subst hF
          match j,h with
          | 0,h => exact h
          | 1,h => exact h
          | 2,h => exact h
          | 3,h => exact h
          | 4,h => exact h
          | 5,h => exact h
          | 6,h => exact h
          | 7,h => exact h
          | 8,h => exact h
          | 9,h => exact h
          | 10,h => exact h
          | n + 11,h => trivial
        have HFG:=Lib.hid (And.intro hF hG)
        clear hF hG
        refine wp_region_invc (by kernel_rfl) (fun f a w' => ∃ u:Nat → Value,a = { tmps:=#[.agg #[.slice zB zm zd,.bool zt,.int .i64 ze],.agg #[.int .i64 pr,.int .i64 pc],.agg #[.int .i64 qr,.int .i64 qc],.int .i64 v,.pointer (some ⟨B1,0,none⟩),.pointer (some ⟨B2,0,none⟩),.pointer (some ⟨B3,0,none⟩),undef,.pointer (some ⟨B4,0,none⟩),.int .i64 a1,.int .i64 c1,.pointer (some ⟨B1,0,none⟩),.slice zB zm zd,.int .i64 (zm:Nat),.bool false,undef,.agg #[.slice zB zm zd,.bool zt,.int .i64 ze],.agg #[.int .i64 pr,.int .i64 pc],.agg #[.int .i64 a1,.int .i64 c1],.agg #[.slice zB zm zd,.bool zt,.int .i64 ze],.agg #[.int .i64 qr,.int .i64 qc],.agg #[.int .i64 a2,.int .i64 c2],.pointer (some ⟨B3,0,none⟩),.int .i64 a2,.pointer (some ⟨B2,0,none⟩),.int .i64 a1,.bool true,.pointer (some ⟨B2,0,none⟩),.int .i64 a1,.pointer (some ⟨B3,0,none⟩),.int .i64 a2,.pointer (some ⟨B2,0,none⟩),.int .i64 a1,.pointer (some ⟨B3,0,none⟩),.pointer (some ⟨B3,1,none⟩),.int .i64 c2,.pointer (some ⟨B2,1,none⟩),.int .i64 c1,.bool true,.pointer (some ⟨B2,1,none⟩),.int .i64 c1,.pointer (some ⟨B3,1,none⟩),.int .i64 c2,.pointer (some ⟨B2,1,none⟩),.int .i64 c1,.pointer (some ⟨B3,1,none⟩),.int .i64 v,.bool true,u 0,u 1,u 2,u 3,u 4,u 5,u 6,u 7,u 8,u 9,u 10,undef,undef,undef,undef,undef,undef,undef,undef,undef,undef,undef,undef,undef,undef,undef,undef,undef],defers:=[] } ∧ Hid (RInv F G w1 11 f u w')) (by kernel_rfl) ?_ ?_ ?_
        · exact ⟨fun _ => undef,rfl,RInv.start _⟩
        · simp only [EachOp]
          refine ⟨?_,?_,?_,?_,?_,?_,?_,?_,?_,?_,?_,?_,trivial⟩
          all_goals rintro f a w' hfi hdep hcl ⟨u,rfl,HI⟩ K hK
          · have hL:f 11 = false:=by
              cases g11:f 11 with
              | false => rfl
              | true =>
                have g0:=hcl 11 _ rfl g11 ⟨0,.phase⟩ (by simp) rfl
                exact Bool.noConfusion (g0.symm.trans hfi)
            go_simp
            exact hK _ _ ⟨updU u 0 (.pointer (some ⟨B2,0,none⟩)),rfl,HI.out.val hL (by decide) (by rw [HFG.out.1]; exact rfl)⟩
          · have hL:f 11 = false:=by
              cases g11:f 11 with
              | false => rfl
              | true =>
                have g1:=hcl 11 _ rfl g11 ⟨1,.phase⟩ (by simp) rfl
                exact Bool.noConfusion (g1.symm.trans hfi)
            have e0:u 0 = .pointer (some ⟨B2,0,none⟩):=HI.out.get HFG.out.1 hL (i:=0) (hdep ⟨0,.data⟩ (by simp) rfl)
            obtain ⟨⟨q1_0,q1_1⟩,⟨q2_0,q2_1⟩,⟨q3_0,q3_1,q3_2⟩,⟨q4_0,q4_1,q4_2,q4_3,q4_4,q4_5,q4_6,q4_7,q4_8⟩⟩:=HC7.out w' (HI.out.a hL).1
            go_simp
            exact hK _ _ ⟨updU u 1 (.int .i64 a2),(by simp [updU,e0] <;> (repeat' apply And.intro) <;> rfl),HI.out.val hL (by decide) (by rw [HFG.out.1]; exact rfl)⟩
          · have hL:f 11 = false:=by
              cases g11:f 11 with
              | false => rfl
              | true =>
                have g2:=hcl 11 _ rfl g11 ⟨2,.phase⟩ (by simp) rfl
                exact Bool.noConfusion (g2.symm.trans hfi)
            go_simp
            exact hK _ _ ⟨updU u 2 (.pointer (some ⟨B3,0,none⟩)),rfl,HI.out.val hL (by decide) (by rw [HFG.out.1]; exact rfl)⟩
          · have hL:f 11 = false:=by
              cases g11:f 11 with
              | false => rfl
              | true =>
                have g3:=hcl 11 _ rfl g11 ⟨3,.phase⟩ (by simp) rfl
                exact Bool.noConfusion (g3.symm.trans hfi)
            have e2:u 2 = .pointer (some ⟨B3,0,none⟩):=HI.out.get HFG.out.1 hL (i:=2) (hdep ⟨2,.data⟩ (by simp) rfl)
            obtain ⟨⟨q1_0,q1_1⟩,⟨q2_0,q2_1⟩,⟨q3_0,q3_1,q3_2⟩,⟨q4_0,q4_1,q4_2,q4_3,q4_4,q4_5,q4_6,q4_7,q4_8⟩⟩:=HC7.out w' (HI.out.a hL).1
            go_simp
            exact hK _ _ ⟨updU u 3 (.int .i64 a1),(by simp [updU,e2] <;> (repeat' apply And.intro) <;> rfl),HI.out.val hL (by decide) (by rw [HFG.out.1]; exact rfl)⟩
          · have hL:f 11 = false:=by
              cases g11:f 11 with
              | false => rfl
              | true =>
                have g4:=hcl 11 _ rfl g11 ⟨4,.phase⟩ (by simp) rfl
                exact Bool.noConfusion (g4.symm.trans hfi)
            go_simp
            exact hK _ _ ⟨updU u 4 (.pointer (some ⟨B2,0,none⟩)),rfl,HI.out.val hL (by decide) (by rw [HFG.out.1]; exact rfl)⟩
          · have hL:f 11 = false:=by
              cases g11:f 11 with
              | false => rfl
              | true =>
                have g5:=hcl 11 _ rfl g11 ⟨5,.phase⟩ (by simp) rfl
                exact Bool.noConfusion (g5.symm.trans hfi)
            have e4:u 4 = .pointer (some ⟨B2,0,none⟩):=HI.out.get HFG.out.1 hL (i:=4) (hdep ⟨4,.data⟩ (by simp) rfl)
            obtain ⟨⟨q1_0,q1_1⟩,⟨q2_0,q2_1⟩,⟨q3_0,q3_1,q3_2⟩,⟨q4_0,q4_1,q4_2,q4_3,q4_4,q4_5,q4_6,q4_7,q4_8⟩⟩:=HC7.out w' (HI.out.a hL).1
            go_simp
            exact hK _ _ ⟨updU u 5 (.int .i64 a2),(by simp [updU,e4] <;> (repeat' apply And.intro) <;> rfl),HI.out.val hL (by decide) (by rw [HFG.out.1]; exact rfl)⟩
          · have hL:f 11 = false:=by
              cases g11:f 11 with
              | false => rfl
              | true =>
                have g6:=hcl 11 _ rfl g11 ⟨6,.phase⟩ (by simp) rfl
                exact Bool.noConfusion (g6.symm.trans hfi)
            have e3:u 3 = .int .i64 a1:=HI.out.get HFG.out.1 hL (i:=3) (hdep ⟨3,.data⟩ (by simp) rfl)
            have e5:u 5 = .int .i64 a2:=HI.out.get HFG.out.1 hL (i:=5) (hdep ⟨5,.data⟩ (by simp) rfl)
            go_simp
            exact hK _ _ ⟨updU u 6 (.int .i64 (a1 - a2)),(by simp [updU,e3,e5] <;> (repeat' apply And.intro) <;> rfl),HI.out.val hL (by decide) (by rw [HFG.out.1]; exact rfl)⟩
          · have hL:f 11 = false:=by
              cases g11:f 11 with
              | false => rfl
              | true =>
                have g7:=hcl 11 _ rfl g11 ⟨7,.phase⟩ (by simp) rfl
                exact Bool.noConfusion (g7.symm.trans hfi)
            have e6:u 6 = .int .i64 (a1 - a2):=HI.out.get HFG.out.1 hL (i:=6) (hdep ⟨6,.data⟩ (by simp) rfl)
            go_simp
            exact hK _ _ ⟨updU u 7 (.int .i64 (a1 - a2 + 1)),(by simp [updU,e6] <;> (repeat' apply And.intro) <;> rfl),HI.out.val hL (by decide) (by rw [HFG.out.1]; exact rfl)⟩
          · have hL:f 11 = false:=by
              cases g11:f 11 with
              | false => rfl
              | true =>
                have g8:=hcl 11 _ rfl g11 ⟨8,.phase⟩ (by simp) rfl
                exact Bool.noConfusion (g8.symm.trans hfi)
            obtain ⟨⟨q1_0,q1_1⟩,⟨q2_0,q2_1⟩,⟨q3_0,q3_1,q3_2⟩,⟨q4_0,q4_1,q4_2,q4_3,q4_4,q4_5,q4_6,q4_7,q4_8⟩⟩:=HC7.out w' (HI.out.a hL).1
            go_simp
            exact hK _ _ ⟨updU u 8 (.agg #[.slice zB zm zd,.bool zt,.int .i64 ze]),rfl,HI.out.val hL (by decide) (by rw [HFG.out.1]; exact rfl)⟩
          · have hL:f 11 = false:=by
              cases g11:f 11 with
              | false => rfl
              | true =>
                have g9:=hcl 11 _ rfl g11 ⟨9,.chain⟩ (by simp) rfl
                exact Bool.noConfusion (g9.symm.trans hfi)
            have e8:u 8 = .agg #[.slice zB zm zd,.bool zt,.int .i64 ze]:=HI.out.get HFG.out.1 hL (i:=8) (hdep ⟨8,.data⟩ (by simp) rfl)
            refine step_call _ (by rfl) 33 #[.agg #[.slice zB zm zd,.bool zt,.int .i64 ze]] (by go_simp) _ (HWD.out w' (HS5.out.1.trans (HI.out.a hL).1)) (by rintro e w' ⟨he,_⟩; exact ⟨_,he⟩) ?_
            rintro v4 w4 ⟨hv4,hf4⟩
            injection hv4 with hv4
            subst hv4
            try go_simp
            exact hK _ _ ⟨updU u 9 (.int .i64 (m:Nat)),(by simp [updU,e8] <;> (repeat' apply And.intro) <;> rfl),HI.out.call hL (by decide) (HM.out _ _ hf4) hf4 (by rw [HFG.out.1]; exact rfl)⟩
          · have hL:f 11 = false:=by
              cases g11:f 11 with
              | false => rfl
              | true =>
                have g10:=hcl 11 _ rfl g11 ⟨10,.data⟩ (by simp) rfl
                exact Bool.noConfusion (g10.symm.trans hfi)
            have e1:u 1 = .int .i64 a2:=HI.out.get HFG.out.1 hL (i:=1) (hdep ⟨1,.data⟩ (by simp) rfl)
            have e7:u 7 = .int .i64 (a1 - a2 + 1):=HI.out.get HFG.out.1 hL (i:=7) (hdep ⟨7,.data⟩ (by simp) rfl)
            have e9:u 9 = .int .i64 (m:Nat):=HI.out.get HFG.out.1 hL (i:=9) (hdep ⟨9,.data⟩ (by simp) rfl)
            go_simp
            exact hK _ _ ⟨updU u 10 (.agg #[.int .i64 a2,.int .i64 0,.int .i64 (a1 - a2 + 1),.int .i64 (m:Nat)]),(by simp [updU,e1,e7,e9] <;> (repeat' apply And.intro) <;> rfl),HI.out.val hL (by decide) (by rw [HFG.out.1]; exact rfl)⟩
          · have hL:f 11 = false:=hfi
            have e10:u 10 = .agg #[.int .i64 a2,.int .i64 0,.int .i64 (a1 - a2 + 1),.int .i64 (m:Nat)]:=HI.out.get HFG.out.1 hL (i:=10) (hdep ⟨10,.data⟩ (by simp) rfl)
            obtain ⟨⟨q1_0,q1_1⟩,⟨q2_0,q2_1⟩,⟨q3_0,q3_1,q3_2⟩,⟨q4_0,q4_1,q4_2,q4_3,q4_4,q4_5,q4_6,q4_7,q4_8⟩⟩:=HC7.out w' (HI.out.a hL).1
            go_simp
            refine hK _ _ ⟨u,(by first | rfl | (simp [e10] <;> rfl)),RInv.last ?_⟩
            rw [HFG.out.2]
            exact ⟨w',(HI.out.a hL).1,rfl⟩
        rintro f a wr7 hall ⟨u7,rfl,HI⟩
        have hG:=HI.out.b (hall 11 (by decide))
        rw [HFG.out.2] at hG
        obtain ⟨wr7a,hfwr7,hw1⟩:=hG
        subst hw1
        have HS8:Hid (Fr [] w wr7a ∧ Blk wr7a B1 35 #[.slice zB zm zd,.bool zt,.int .i64 ze] ∧ Blk wr7a B2 24 #[.int .i64 a2,.int .i64 c2] ∧ Blk wr7a B3 24 #[.int .i64 a1,.int .i64 c1] ∧ Blk wr7a B4 45 #[.int .i64 0,.int .i64 0,.int .i64 0,.int .i64 0]):=⟨HS5.out.1.trans hfwr7,HS5.out.2.1.fr hfwr7 (by simp),HS5.out.2.2.1.fr hfwr7 (by simp),HS5.out.2.2.2.1.fr hfwr7 (by simp),HS5.out.2.2.2.2.fr hfwr7 (by simp)⟩
        clear hfwr7 HI hall HFG HM HC7
        obtain ⟨W9,hW9⟩:∃ Wx,Wx = ((((wr7a.setCell ⟨B4,0,none⟩ (.int .i64 a2)).setCell ⟨B4,1,none⟩ (.int .i64 0)).setCell ⟨B4,2,none⟩ (.int .i64 (a1 - a2 + 1))).setCell ⟨B4,3,none⟩ (.int .i64 (m:Nat))):=⟨_,rfl⟩
        have HS9:Hid (Fr [] w W9 ∧ Blk W9 B1 35 #[.slice zB zm zd,.bool zt,.int .i64 ze] ∧ Blk W9 B2 24 #[.int .i64 a2,.int .i64 c2] ∧ Blk W9 B3 24 #[.int .i64 a1,.int .i64 c1] ∧ Blk W9 B4 45 #[.int .i64 a2,.int .i64 0,.int .i64 (a1 - a2 + 1),.int .i64 (m:Nat)]):=by
          have mB1:=HS8.out.2.1
          replace mB1:=mB1.far (p:=⟨B4,0,none⟩) (fun e => by have e:B1 = B4:=e; have:=HNB4.out; omega) (.int .i64 a2)
          replace mB1:=mB1.far (p:=⟨B4,1,none⟩) (fun e => by have e:B1 = B4:=e; have:=HNB4.out; omega) (.int .i64 0)
          replace mB1:=mB1.far (p:=⟨B4,2,none⟩) (fun e => by have e:B1 = B4:=e; have:=HNB4.out; omega) (.int .i64 (a1 - a2 + 1))
          replace mB1:=mB1.far (p:=⟨B4,3,none⟩) (fun e => by have e:B1 = B4:=e; have:=HNB4.out; omega) (.int .i64 (m:Nat))
          have mB2:=HS8.out.2.2.1
          replace mB2:=mB2.far (p:=⟨B4,0,none⟩) (fun e => by have e:B2 = B4:=e; have:=HNB4.out; omega) (.int .i64 a2)
          replace mB2:=mB2.far (p:=⟨B4,1,none⟩) (fun e => by have e:B2 = B4:=e; have:=HNB4.out; omega) (.int .i64 0)
          replace mB2:=mB2.far (p:=⟨B4,2,none⟩) (fun e => by have e:B2 = B4:=e; have:=HNB4.out; omega) (.int .i64 (a1 - a2 + 1))
          replace mB2:=mB2.far (p:=⟨B4,3,none⟩) (fun e => by have e:B2 = B4:=e; have:=HNB4.out; omega) (.int .i64 (m:Nat))
          have mB3:=HS8.out.2.2.2.1
          replace mB3:=mB3.far (p:=⟨B4,0,none⟩) (fun e => by have e:B3 = B4:=e; have:=HNB4.out; omega) (.int .i64 a2)
          replace mB3:=mB3.far (p:=⟨B4,1,none⟩) (fun e => by have e:B3 = B4:=e; have:=HNB4.out; omega) (.int .i64 0)
          replace mB3:=mB3.far (p:=⟨B4,2,none⟩) (fun e => by have e:B3 = B4:=e; have:=HNB4.out; omega) (.int .i64 (a1 - a2 + 1))
          replace mB3:=mB3.far (p:=⟨B4,3,none⟩) (fun e => by have e:B3 = B4:=e; have:=HNB4.out; omega) (.int .i64 (m:Nat))
          have mB4:=HS8.out.2.2.2.2
          replace mB4:Blk (wr7a.setCell ⟨B4,0,none⟩ (.int .i64 a2)) B4 45 #[.int .i64 a2,.int .i64 0,.int .i64 0,.int .i64 0]:=by simpa using mB4.set_ 0 (.int .i64 a2)
          replace mB4:Blk ((wr7a.setCell ⟨B4,0,none⟩ (.int .i64 a2)).setCell ⟨B4,1,none⟩ (.int .i64 0)) B4 45 #[.int .i64 a2,.int .i64 0,.int .i64 0,.int .i64 0]:=by simpa using mB4.set_ 1 (.int .i64 0)
          replace mB4:Blk (((wr7a.setCell ⟨B4,0,none⟩ (.int .i64 a2)).setCell ⟨B4,1,none⟩ (.int .i64 0)).setCell ⟨B4,2,none⟩ (.int .i64 (a1 - a2 + 1))) B4 45 #[.int .i64 a2,.int .i64 0,.int .i64 (a1 - a2 + 1),.int .i64 0]:=by simpa using mB4.set_ 2 (.int .i64 (a1 - a2 + 1))
          replace mB4:Blk ((((wr7a.setCell ⟨B4,0,none⟩ (.int .i64 a2)).setCell ⟨B4,1,none⟩ (.int .i64 0)).setCell ⟨B4,2,none⟩ (.int .i64 (a1 - a2 + 1))).setCell ⟨B4,3,none⟩ (.int .i64 (m:Nat))) B4 45 #[.int .i64 a2,.int .i64 0,.int .i64 (a1 - a2 + 1),.int .i64 (m:Nat)]:=by simpa using mB4.set_ 3 (.int .i64 (m:Nat))
          rw [hW9]
          exact ⟨((((HS8.out.1.setB (fun h => absurd h (by have:=HNB4.out; omega)) _ _).setB (fun h => absurd h (by have:=HNB4.out; omega)) _ _).setB (fun h => absurd h (by have:=HNB4.out; omega)) _ _).setB (fun h => absurd h (by have:=HNB4.out; omega)) _ _),mB1,mB2,mB3,mB4⟩
        skip
        try rw [← hW9]
        clear hW9
        have fc1:W9.cell? ⟨B4,0,none⟩ = some (.int .i64 a2):=HS9.out.2.2.2.2.cell 0
        have fc2:W9.cell? ⟨B4,1,none⟩ = some (.int .i64 0):=HS9.out.2.2.2.2.cell 1
        have fc3:W9.cell? ⟨B4,2,none⟩ = some (.int .i64 (a1 - a2 + 1)):=HS9.out.2.2.2.2.cell 2
        have fc4:W9.cell? ⟨B4,3,none⟩ = some (.int .i64 (m:Nat)):=HS9.out.2.2.2.2.cell 3
        go_wp2_with fail
        clear fc1 fc2 fc3 fc4
        have r0B4:=HS9.out.2.2.2.2.cell 0
        have r1B4:=HS9.out.2.2.2.2.cell 1
        have r2B4:=HS9.out.2.2.2.2.cell 2
        have r3B4:=HS9.out.2.2.2.2.cell 3
        refine bodyPost_ret (v:=.agg #[.int .i64 a2,.int .i64 0,.int .i64 (a1 - a2 + 1),.int .i64 (m:Nat)]) (by simp [results,Tryz.results12,go_sem, *]) rfl ?_
        exact ⟨by rw [HEQ.out],HS9.out.1⟩
      | false =>
        have hh:=HB.out
        have hw1:IntKind.i64.wrap (a1 - a2) = a1 - a2:=IntWalk.i64_in _ (by omega)
        have hw2:IntKind.i64.wrap (a1 - a2 + 1) = a1 - a2 + 1:=IntWalk.i64_in _ (by omega)
        have hw3:IntKind.i64.wrap (c1 - c2) = c1 - c2:=IntWalk.i64_in _ (by omega)
        have hw4:IntKind.i64.wrap (c1 - c2 + 1) = c1 - c2 + 1:=IntWalk.i64_in _ (by omega)
        have HEQ:Hid (areaV false a1 c1 a2 c2 m = #[.int .i64 a2,.int .i64 c2,.int .i64 (a1 - a2 + 1),.int .i64 (c1 - c2 + 1)]):=by
          show _ = _
          unfold areaV
          simp only [cond_true,cond_false]
          rw [show min a1 a2 = a2 by omega,show max a1 a2 = a1 by omega,show min c1 c2 = c2 by omega,show max c1 c2 = c1 by omega]
        clear hh
        obtain ⟨W6,hW6⟩:∃ Wx,Wx = ((((w1.setCell ⟨B4,0,none⟩ (.int .i64 a2)).setCell ⟨B4,1,none⟩ (.int .i64 c2)).setCell ⟨B4,2,none⟩ (.int .i64 (a1 - a2 + 1))).setCell ⟨B4,3,none⟩ (.int .i64 (c1 - c2 + 1))):=⟨_,rfl⟩
        have HS6:Hid (Fr [] w W6 ∧ Blk W6 B1 35 #[.slice zB zm zd,.bool zt,.int .i64 ze] ∧ Blk W6 B2 24 #[.int .i64 a2,.int .i64 c2] ∧ Blk W6 B3 24 #[.int .i64 a1,.int .i64 c1] ∧ Blk W6 B4 45 #[.int .i64 a2,.int .i64 c2,.int .i64 (a1 - a2 + 1),.int .i64 (c1 - c2 + 1)]):=by
          have mB1:=HS5.out.2.1
          replace mB1:=mB1.far (p:=⟨B4,0,none⟩) (fun e => by have e:B1 = B4:=e; have:=HNB4.out; omega) (.int .i64 a2)
          replace mB1:=mB1.far (p:=⟨B4,1,none⟩) (fun e => by have e:B1 = B4:=e; have:=HNB4.out; omega) (.int .i64 c2)
          replace mB1:=mB1.far (p:=⟨B4,2,none⟩) (fun e => by have e:B1 = B4:=e; have:=HNB4.out; omega) (.int .i64 (a1 - a2 + 1))
          replace mB1:=mB1.far (p:=⟨B4,3,none⟩) (fun e => by have e:B1 = B4:=e; have:=HNB4.out; omega) (.int .i64 (c1 - c2 + 1))
          have mB2:=HS5.out.2.2.1
          replace mB2:=mB2.far (p:=⟨B4,0,none⟩) (fun e => by have e:B2 = B4:=e; have:=HNB4.out; omega) (.int .i64 a2)
          replace mB2:=mB2.far (p:=⟨B4,1,none⟩) (fun e => by have e:B2 = B4:=e; have:=HNB4.out; omega) (.int .i64 c2)
          replace mB2:=mB2.far (p:=⟨B4,2,none⟩) (fun e => by have e:B2 = B4:=e; have:=HNB4.out; omega) (.int .i64 (a1 - a2 + 1))
          replace mB2:=mB2.far (p:=⟨B4,3,none⟩) (fun e => by have e:B2 = B4:=e; have:=HNB4.out; omega) (.int .i64 (c1 - c2 + 1))
          have mB3:=HS5.out.2.2.2.1
          replace mB3:=mB3.far (p:=⟨B4,0,none⟩) (fun e => by have e:B3 = B4:=e; have:=HNB4.out; omega) (.int .i64 a2)
          replace mB3:=mB3.far (p:=⟨B4,1,none⟩) (fun e => by have e:B3 = B4:=e; have:=HNB4.out; omega) (.int .i64 c2)
          replace mB3:=mB3.far (p:=⟨B4,2,none⟩) (fun e => by have e:B3 = B4:=e; have:=HNB4.out; omega) (.int .i64 (a1 - a2 + 1))
          replace mB3:=mB3.far (p:=⟨B4,3,none⟩) (fun e => by have e:B3 = B4:=e; have:=HNB4.out; omega) (.int .i64 (c1 - c2 + 1))
          have mB4:=HS5.out.2.2.2.2
          replace mB4:Blk (w1.setCell ⟨B4,0,none⟩ (.int .i64 a2)) B4 45 #[.int .i64 a2,.int .i64 0,.int .i64 0,.int .i64 0]:=by simpa using mB4.set_ 0 (.int .i64 a2)
          replace mB4:Blk ((w1.setCell ⟨B4,0,none⟩ (.int .i64 a2)).setCell ⟨B4,1,none⟩ (.int .i64 c2)) B4 45 #[.int .i64 a2,.int .i64 c2,.int .i64 0,.int .i64 0]:=by simpa using mB4.set_ 1 (.int .i64 c2)
          replace mB4:Blk (((w1.setCell ⟨B4,0,none⟩ (.int .i64 a2)).setCell ⟨B4,1,none⟩ (.int .i64 c2)).setCell ⟨B4,2,none⟩ (.int .i64 (a1 - a2 + 1))) B4 45 #[.int .i64 a2,.int .i64 c2,.int .i64 (a1 - a2 + 1),.int .i64 0]:=by simpa using mB4.set_ 2 (.int .i64 (a1 - a2 + 1))
          replace mB4:Blk ((((w1.setCell ⟨B4,0,none⟩ (.int .i64 a2)).setCell ⟨B4,1,none⟩ (.int .i64 c2)).setCell ⟨B4,2,none⟩ (.int .i64 (a1 - a2 + 1))).setCell ⟨B4,3,none⟩ (.int .i64 (c1 - c2 + 1))) B4 45 #[.int .i64 a2,.int .i64 c2,.int .i64 (a1 - a2 + 1),.int .i64 (c1 - c2 + 1)]:=by simpa using mB4.set_ 3 (.int .i64 (c1 - c2 + 1))
          rw [hW6]
          exact ⟨((((HS5.out.1.setB (fun h => absurd h (by have:=HNB4.out; omega)) _ _).setB (fun h => absurd h (by have:=HNB4.out; omega)) _ _).setB (fun h => absurd h (by have:=HNB4.out; omega)) _ _).setB (fun h => absurd h (by have:=HNB4.out; omega)) _ _),mB1,mB2,mB3,mB4⟩
        have fc1:w1.cell? ⟨B2,0,none⟩ = some (.int .i64 a2):=HS5.out.2.2.1.cell 0
        have fc2:=HS5.out.2.2.1.frozen 0
        have fc3:=HS5.out.2.2.1.lt
        have fc4:w1.cell? ⟨B2,1,none⟩ = some (.int .i64 c2):=HS5.out.2.2.1.cell 1
        have fc5:=HS5.out.2.2.1.frozen 1
        have fc6:w1.cell? ⟨B3,0,none⟩ = some (.int .i64 a1):=HS5.out.2.2.2.1.cell 0
        have fc7:=HS5.out.2.2.2.1.frozen 0
        have fc8:=HS5.out.2.2.2.1.lt
        have fc9:w1.cell? ⟨B3,1,none⟩ = some (.int .i64 c1):=HS5.out.2.2.2.1.cell 1
        have fc10:=HS5.out.2.2.2.1.frozen 1
        have fc11:w1.cell? ⟨B4,0,none⟩ = some (.int .i64 0):=HS5.out.2.2.2.2.cell 0
        have fc12:=HS5.out.2.2.2.2.frozen 0
        have fc13:=HS5.out.2.2.2.2.lt
        have fc14:w1.cell? ⟨B4,1,none⟩ = some (.int .i64 0):=HS5.out.2.2.2.2.cell 1
        have fc15:=HS5.out.2.2.2.2.frozen 1
        have fc16:w1.cell? ⟨B4,2,none⟩ = some (.int .i64 0):=HS5.out.2.2.2.2.cell 2
        have fc17:=HS5.out.2.2.2.2.frozen 2
        have fc18:w1.cell? ⟨B4,3,none⟩ = some (.int .i64 0):=HS5.out.2.2.2.2.cell 3
        have fc19:=HS5.out.2.2.2.2.frozen 3
        have fc20:¬ B2 = B3:=fun e => by have e:B2 = B3:=e; have:=HNB3.out; omega
        have fc21:¬ B2 = B4:=fun e => by have e:B2 = B4:=e; have:=HNB4.out; omega
        have fc22:¬ B3 = B2:=fun e => by have e:B3 = B2:=e; have:=HNB3.out; omega
        have fc23:¬ B3 = B4:=fun e => by have e:B3 = B4:=e; have:=HNB4.out; omega
        have fc24:¬ B4 = B2:=fun e => by have e:B4 = B2:=e; have:=HNB4.out; omega
        have fc25:¬ B4 = B3:=fun e => by have e:B4 = B3:=e; have:=HNB4.out; omega
        go_wp2_with fail
        try rw [← hW6]
        clear fc1 fc2 fc3 fc4 fc5 fc6 fc7 fc8 fc9 fc10 fc11 fc12 fc13 fc14 fc15 fc16 fc17 fc18 fc19 fc20 fc21 fc22 fc23 fc24 fc25 hW6
        have r0B4:=HS6.out.2.2.2.2.cell 0
        have r1B4:=HS6.out.2.2.2.2.cell 1
        have r2B4:=HS6.out.2.2.2.2.cell 2
        have r3B4:=HS6.out.2.2.2.2.cell 3
        refine bodyPost_ret (v:=.agg #[.int .i64 a2,.int .i64 c2,.int .i64 (a1 - a2 + 1),.int .i64 (c1 - c2 + 1)]) (by simp [results,Tryz.results12,go_sem, *]) rfl ?_
        exact ⟨by rw [HEQ.out],HS6.out.1⟩
    · have hd2:decide (c2 < c1) = false:=decide_eq_false hc
      obtain ⟨W4,hW4⟩:∃ Wx,Wx = ((wr2.setCell ⟨B2,0,none⟩ (.int .i64 a2)).setCell ⟨B3,0,none⟩ (.int .i64 a1)):=⟨_,rfl⟩
      have HS4:Hid (Fr [] w W4 ∧ Blk W4 B1 35 #[.slice zB zm zd,.bool zt,.int .i64 ze] ∧ Blk W4 B2 24 #[.int .i64 a2,.int .i64 c1] ∧ Blk W4 B3 24 #[.int .i64 a1,.int .i64 c2] ∧ Blk W4 B4 45 #[.int .i64 0,.int .i64 0,.int .i64 0,.int .i64 0]):=by
        have mB1:=HS3.out.2.1
        replace mB1:=mB1.far (p:=⟨B2,0,none⟩) (fun e => by have e:B1 = B2:=e; have:=HNB2.out; omega) (.int .i64 a2)
        replace mB1:=mB1.far (p:=⟨B3,0,none⟩) (fun e => by have e:B1 = B3:=e; have:=HNB3.out; omega) (.int .i64 a1)
        have mB2:=HS3.out.2.2.1
        replace mB2:Blk (wr2.setCell ⟨B2,0,none⟩ (.int .i64 a2)) B2 24 #[.int .i64 a2,.int .i64 c1]:=by simpa using mB2.set_ 0 (.int .i64 a2)
        replace mB2:=mB2.far (p:=⟨B3,0,none⟩) (fun e => by have e:B2 = B3:=e; have:=HNB3.out; omega) (.int .i64 a1)
        have mB3:=HS3.out.2.2.2.1
        replace mB3:=mB3.far (p:=⟨B2,0,none⟩) (fun e => by have e:B3 = B2:=e; have:=HNB3.out; omega) (.int .i64 a2)
        replace mB3:Blk ((wr2.setCell ⟨B2,0,none⟩ (.int .i64 a2)).setCell ⟨B3,0,none⟩ (.int .i64 a1)) B3 24 #[.int .i64 a1,.int .i64 c2]:=by simpa using mB3.set_ 0 (.int .i64 a1)
        have mB4:=HS3.out.2.2.2.2
        replace mB4:=mB4.far (p:=⟨B2,0,none⟩) (fun e => by have e:B4 = B2:=e; have:=HNB4.out; omega) (.int .i64 a2)
        replace mB4:=mB4.far (p:=⟨B3,0,none⟩) (fun e => by have e:B4 = B3:=e; have:=HNB4.out; omega) (.int .i64 a1)
        rw [hW4]
        exact ⟨((HS3.out.1.setB (fun h => absurd h (by have:=HNB2.out; omega)) _ _).setB (fun h => absurd h (by have:=HNB3.out; omega)) _ _),mB1,mB2,mB3,mB4⟩
      have fc1:wr2.cell? ⟨B3,0,none⟩ = some (.int .i64 a2):=HS3.out.2.2.2.1.cell 0
      have fc2:=HS3.out.2.2.2.1.frozen 0
      have fc3:=HS3.out.2.2.2.1.lt
      have fc4:wr2.cell? ⟨B2,0,none⟩ = some (.int .i64 a1):=HS3.out.2.2.1.cell 0
      have fc5:=HS3.out.2.2.1.frozen 0
      have fc6:=HS3.out.2.2.1.lt
      have fc7:wr2.cell? ⟨B3,1,none⟩ = some (.int .i64 c2):=HS3.out.2.2.2.1.cell 1
      have fc8:=HS3.out.2.2.2.1.frozen 1
      have fc9:wr2.cell? ⟨B2,1,none⟩ = some (.int .i64 c1):=HS3.out.2.2.1.cell 1
      have fc10:=HS3.out.2.2.1.frozen 1
      have fc11:¬ B3 = B2:=fun e => by have e:B3 = B2:=e; have:=HNB3.out; omega
      have fc12:¬ B2 = B3:=fun e => by have e:B2 = B3:=e; have:=HNB3.out; omega
      go_wp2_with fail
      try rw [← hW4]
      clear fc1 fc2 fc3 fc4 fc5 fc6 fc7 fc8 fc9 fc10 fc11 fc12 hW4
      refine (HBR.out W4).mono ?_
      rintro en w1 ⟨rfl,hf1⟩
      have HS5:Hid (Fr [] w w1 ∧ Blk w1 B1 35 #[.slice zB zm zd,.bool zt,.int .i64 ze] ∧ Blk w1 B2 24 #[.int .i64 a2,.int .i64 c1] ∧ Blk w1 B3 24 #[.int .i64 a1,.int .i64 c2] ∧ Blk w1 B4 45 #[.int .i64 0,.int .i64 0,.int .i64 0,.int .i64 0]):=⟨HS4.out.1.trans hf1,HS4.out.2.1.fr hf1 (by simp),HS4.out.2.2.1.fr hf1 (by simp),HS4.out.2.2.2.1.fr hf1 (by simp),HS4.out.2.2.2.2.fr hf1 (by simp)⟩
      clear hf1
      cases rb with
      | true =>
        have hh:=HB.out
        have hw1:IntKind.i64.wrap (a1 - a2) = a1 - a2:=IntWalk.i64_in _ (by omega)
        have hw2:IntKind.i64.wrap (a1 - a2 + 1) = a1 - a2 + 1:=IntWalk.i64_in _ (by omega)
        have hw3:IntKind.i64.wrap (c2 - c1) = c2 - c1:=IntWalk.i64_in _ (by omega)
        have hw4:IntKind.i64.wrap (c2 - c1 + 1) = c2 - c1 + 1:=IntWalk.i64_in _ (by omega)
        have HEQ:Hid (areaV true a1 c1 a2 c2 m = #[.int .i64 a2,.int .i64 0,.int .i64 (a1 - a2 + 1),.int .i64 (m:Nat)]):=by
          show _ = _
          unfold areaV
          simp only [cond_true,cond_false]
          rw [show min a1 a2 = a2 by omega,show max a1 a2 = a1 by omega]
        clear hh
        go_wp2_with fail
        have HC7:Hid (∀ w',Fr [] w1 w' → (w'.cell? ⟨B2,0,none⟩ = some (.int .i64 a2) ∧ w'.cell? ⟨B2,1,none⟩ = some (.int .i64 c1)) ∧ (w'.cell? ⟨B3,0,none⟩ = some (.int .i64 a1) ∧ w'.cell? ⟨B3,1,none⟩ = some (.int .i64 c2)) ∧ (w'.cell? ⟨B1,0,none⟩ = some (.slice zB zm zd) ∧ w'.cell? ⟨B1,1,none⟩ = some (.bool zt) ∧ w'.cell? ⟨B1,2,none⟩ = some (.int .i64 ze)) ∧ (w'.cell? ⟨B4,0,none⟩ = some (.int .i64 0) ∧ w'.frozen? ⟨B4,0,none⟩ = false ∧ w'.cell? ⟨B4,1,none⟩ = some (.int .i64 0) ∧ w'.frozen? ⟨B4,1,none⟩ = false ∧ w'.cell? ⟨B4,2,none⟩ = some (.int .i64 0) ∧ w'.frozen? ⟨B4,2,none⟩ = false ∧ w'.cell? ⟨B4,3,none⟩ = some (.int .i64 0) ∧ w'.frozen? ⟨B4,3,none⟩ = false ∧ B4 < w'.heap.size)):=by
          show ∀ _,_
          intro w' hf
          have h0:=HS5.out.2.2.1.fr hf (by simp)
          have h1:=HS5.out.2.2.2.1.fr hf (by simp)
          have h2:=HS5.out.2.1.fr hf (by simp)
          have h3:=HS5.out.2.2.2.2.fr hf (by simp)
          exact ⟨⟨h0.cell 0,h0.cell 1⟩,⟨h1.cell 0,h1.cell 1⟩,⟨h2.cell 0,h2.cell 1,h2.cell 2⟩,⟨h3.cell 0,h3.frozen 0,h3.cell 1,h3.frozen 1,h3.cell 2,h3.frozen 2,h3.cell 3,h3.frozen 3,h3.lt⟩⟩
        obtain ⟨F,hF⟩:∃ F:World → Nat → Value → Prop,F = (fun (w:World) (i:Nat) (v:Value) => match i with | 0 => v = .pointer (some ⟨B2,0,none⟩) | 1 => v = .int .i64 a2 | 2 => v = .pointer (some ⟨B3,0,none⟩) | 3 => v = .int .i64 a1 | 4 => v = .pointer (some ⟨B2,0,none⟩) | 5 => v = .int .i64 a2 | 6 => v = .int .i64 (a1 - a2) | 7 => v = .int .i64 (a1 - a2 + 1) | 8 => v = .agg #[.slice zB zm zd,.bool zt,.int .i64 ze] | 9 => v = .int .i64 (m:Nat) | 10 => v = .agg #[.int .i64 a2,.int .i64 0,.int .i64 (a1 - a2 + 1),.int .i64 (m:Nat)] | _ => True):=⟨_,rfl⟩
        obtain ⟨G,hG⟩:∃ G:(Nat → Value) → World → Prop,G = (fun u w => ∃ wq,Fr [] w1 wq ∧ w = ((((wq.setCell ⟨B4,0,none⟩ (.int .i64 a2)).setCell ⟨B4,1,none⟩ (.int .i64 0)).setCell ⟨B4,2,none⟩ (.int .i64 (a1 - a2 + 1))).setCell ⟨B4,3,none⟩ (.int .i64 (m:Nat)))):=⟨_,rfl⟩
        have HM:Hid (∀ w1 w2:World,Fr [] w1 w2 → ∀ j x,F w1 j x → F w2 j x):=by
          show ∀ _,_
          intro w1 w2 hf j x h
          subst hF
          match j,h with
          | 0,h => exact h
          | 1,h => exact h
          | 2,h => exact h
          | 3,h => exact h
          | 4,h => exact h
          | 5,h => exact h
          | 6,h => exact h
          | 7,h => exact h
          | 8,h => exact h
          | 9,h => exact h
          | 10,h => exact h
          | n + 11,h => trivial
        have HFG:=Lib.hid (And.intro hF hG)
        clear hF hG
        refine wp_region_invc (by kernel_rfl) (fun f a w' => ∃ u:Nat → Value,a = { tmps:=#[.agg #[.slice zB zm zd,.bool zt,.int .i64 ze],.agg #[.int .i64 pr,.int .i64 pc],.agg #[.int .i64 qr,.int .i64 qc],.int .i64 v,.pointer (some ⟨B1,0,none⟩),.pointer (some ⟨B2,0,none⟩),.pointer (some ⟨B3,0,none⟩),undef,.pointer (some ⟨B4,0,none⟩),.int .i64 a1,undef,.pointer (some ⟨B1,0,none⟩),.slice zB zm zd,.int .i64 (zm:Nat),.bool false,undef,.agg #[.slice zB zm zd,.bool zt,.int .i64 ze],.agg #[.int .i64 pr,.int .i64 pc],.agg #[.int .i64 a1,.int .i64 c1],.agg #[.slice zB zm zd,.bool zt,.int .i64 ze],.agg #[.int .i64 qr,.int .i64 qc],.agg #[.int .i64 a2,.int .i64 c2],.pointer (some ⟨B3,0,none⟩),.int .i64 a2,.pointer (some ⟨B2,0,none⟩),.int .i64 a1,.bool true,.pointer (some ⟨B2,0,none⟩),.int .i64 a1,.pointer (some ⟨B3,0,none⟩),.int .i64 a2,.pointer (some ⟨B2,0,none⟩),.int .i64 a1,.pointer (some ⟨B3,0,none⟩),.pointer (some ⟨B3,1,none⟩),.int .i64 c2,.pointer (some ⟨B2,1,none⟩),.int .i64 c1,.bool false,undef,undef,undef,undef,undef,undef,undef,.int .i64 v,.bool true,u 0,u 1,u 2,u 3,u 4,u 5,u 6,u 7,u 8,u 9,u 10,undef,undef,undef,undef,undef,undef,undef,undef,undef,undef,undef,undef,undef,undef,undef,undef,undef],defers:=[] } ∧ Hid (RInv F G w1 11 f u w')) (by kernel_rfl) ?_ ?_ ?_
        · exact ⟨fun _ => undef,rfl,RInv.start _⟩
        · simp only [EachOp]
          refine ⟨?_,?_,?_,?_,?_,?_,?_,?_,?_,?_,?_,?_,trivial⟩
          all_goals rintro f a w' hfi hdep hcl ⟨u,rfl,HI⟩ K hK
          · have hL:f 11 = false:=by
              cases g11:f 11 with
              | false => rfl
              | true =>
                have g0:=hcl 11 _ rfl g11 ⟨0,.phase⟩ (by simp) rfl
                exact Bool.noConfusion (g0.symm.trans hfi)
            go_simp
            exact hK _ _ ⟨updU u 0 (.pointer (some ⟨B2,0,none⟩)),rfl,HI.out.val hL (by decide) (by rw [HFG.out.1]; exact rfl)⟩
          · have hL:f 11 = false:=by
              cases g11:f 11 with
              | false => rfl
              | true =>
                have g1:=hcl 11 _ rfl g11 ⟨1,.phase⟩ (by simp) rfl
                exact Bool.noConfusion (g1.symm.trans hfi)
            have e0:u 0 = .pointer (some ⟨B2,0,none⟩):=HI.out.get HFG.out.1 hL (i:=0) (hdep ⟨0,.data⟩ (by simp) rfl)
            obtain ⟨⟨q1_0,q1_1⟩,⟨q2_0,q2_1⟩,⟨q3_0,q3_1,q3_2⟩,⟨q4_0,q4_1,q4_2,q4_3,q4_4,q4_5,q4_6,q4_7,q4_8⟩⟩:=HC7.out w' (HI.out.a hL).1
            go_simp
            exact hK _ _ ⟨updU u 1 (.int .i64 a2),(by simp [updU,e0] <;> (repeat' apply And.intro) <;> rfl),HI.out.val hL (by decide) (by rw [HFG.out.1]; exact rfl)⟩
          · have hL:f 11 = false:=by
              cases g11:f 11 with
              | false => rfl
              | true =>
                have g2:=hcl 11 _ rfl g11 ⟨2,.phase⟩ (by simp) rfl
                exact Bool.noConfusion (g2.symm.trans hfi)
            go_simp
            exact hK _ _ ⟨updU u 2 (.pointer (some ⟨B3,0,none⟩)),rfl,HI.out.val hL (by decide) (by rw [HFG.out.1]; exact rfl)⟩
          · have hL:f 11 = false:=by
              cases g11:f 11 with
              | false => rfl
              | true =>
                have g3:=hcl 11 _ rfl g11 ⟨3,.phase⟩ (by simp) rfl
                exact Bool.noConfusion (g3.symm.trans hfi)
            have e2:u 2 = .pointer (some ⟨B3,0,none⟩):=HI.out.get HFG.out.1 hL (i:=2) (hdep ⟨2,.data⟩ (by simp) rfl)
            obtain ⟨⟨q1_0,q1_1⟩,⟨q2_0,q2_1⟩,⟨q3_0,q3_1,q3_2⟩,⟨q4_0,q4_1,q4_2,q4_3,q4_4,q4_5,q4_6,q4_7,q4_8⟩⟩:=HC7.out w' (HI.out.a hL).1
            go_simp
            exact hK _ _ ⟨updU u 3 (.int .i64 a1),(by simp [updU,e2] <;> (repeat' apply And.intro) <;> rfl),HI.out.val hL (by decide) (by rw [HFG.out.1]; exact rfl)⟩
          · have hL:f 11 = false:=by
              cases g11:f 11 with
              | false => rfl
              | true =>
                have g4:=hcl 11 _ rfl g11 ⟨4,.phase⟩ (by simp) rfl
                exact Bool.noConfusion (g4.symm.trans hfi)
            go_simp
            exact hK _ _ ⟨updU u 4 (.pointer (some ⟨B2,0,none⟩)),rfl,HI.out.val hL (by decide) (by rw [HFG.out.1]; exact rfl)⟩
          · have hL:f 11 = false:=by
              cases g11:f 11 with
              | false => rfl
              | true =>
                have g5:=hcl 11 _ rfl g11 ⟨5,.phase⟩ (by simp) rfl
                exact Bool.noConfusion (g5.symm.trans hfi)
            have e4:u 4 = .pointer (some ⟨B2,0,none⟩):=HI.out.get HFG.out.1 hL (i:=4) (hdep ⟨4,.data⟩ (by simp) rfl)
            obtain ⟨⟨q1_0,q1_1⟩,⟨q2_0,q2_1⟩,⟨q3_0,q3_1,q3_2⟩,⟨q4_0,q4_1,q4_2,q4_3,q4_4,q4_5,q4_6,q4_7,q4_8⟩⟩:=HC7.out w' (HI.out.a hL).1
            go_simp
            exact hK _ _ ⟨updU u 5 (.int .i64 a2),(by simp [updU,e4] <;> (repeat' apply And.intro) <;> rfl),HI.out.val hL (by decide) (by rw [HFG.out.1]; exact rfl)⟩
          · have hL:f 11 = false:=by
              cases g11:f 11 with
              | false => rfl
              | true =>
                have g6:=hcl 11 _ rfl g11 ⟨6,.phase⟩ (by simp) rfl
                exact Bool.noConfusion (g6.symm.trans hfi)
            have e3:u 3 = .int .i64 a1:=HI.out.get HFG.out.1 hL (i:=3) (hdep ⟨3,.data⟩ (by simp) rfl)
            have e5:u 5 = .int .i64 a2:=HI.out.get HFG.out.1 hL (i:=5) (hdep ⟨5,.data⟩ (by simp) rfl)
            go_simp
            exact hK _ _ ⟨updU u 6 (.int .i64 (a1 - a2)),(by simp [updU,e3,e5] <;> (repeat' apply And.intro) <;> rfl),HI.out.val hL (by decide) (by rw [HFG.out.1]; exact rfl)⟩
          · have hL:f 11 = false:=by
              cases g11:f 11 with
              | false => rfl
              | true =>
                have g7:=hcl 11 _ rfl g11 ⟨7,.phase⟩ (by simp) rfl
                exact Bool.noConfusion (g7.symm.trans hfi)
            have e6:u 6 = .int .i64 (a1 - a2):=HI.out.get HFG.out.1 hL (i:=6) (hdep ⟨6,.data⟩ (by simp) rfl)
            go_simp
            exact hK _ _ ⟨updU u 7 (.int .i64 (a1 - a2 + 1)),(by simp [updU,e6] <;> (repeat' apply And.intro) <;> rfl),HI.out.val hL (by decide) (by rw [HFG.out.1]; exact rfl)⟩
          · have hL:f 11 = false:=by
              cases g11:f 11 with
              | false => rfl
              | true =>
                have g8:=hcl 11 _ rfl g11 ⟨8,.phase⟩ (by simp) rfl
                exact Bool.noConfusion (g8.symm.trans hfi)
            obtain ⟨⟨q1_0,q1_1⟩,⟨q2_0,q2_1⟩,⟨q3_0,q3_1,q3_2⟩,⟨q4_0,q4_1,q4_2,q4_3,q4_4,q4_5,q4_6,q4_7,q4_8⟩⟩:=HC7.out w' (HI.out.a hL).1
            go_simp
            exact hK _ _ ⟨updU u 8 (.agg #[.slice zB zm zd,.bool zt,.int .i64 ze]),rfl,HI.out.val hL (by decide) (by rw [HFG.out.1]; exact rfl)⟩
          · have hL:f 11 = false:=by
              cases g11:f 11 with
              | false => rfl
              | true =>
                have g9:=hcl 11 _ rfl g11 ⟨9,.chain⟩ (by simp) rfl
                exact Bool.noConfusion (g9.symm.trans hfi)
            have e8:u 8 = .agg #[.slice zB zm zd,.bool zt,.int .i64 ze]:=HI.out.get HFG.out.1 hL (i:=8) (hdep ⟨8,.data⟩ (by simp) rfl)
            refine step_call _ (by rfl) 33 #[.agg #[.slice zB zm zd,.bool zt,.int .i64 ze]] (by go_simp) _ (HWD.out w' (HS5.out.1.trans (HI.out.a hL).1)) (by rintro e w' ⟨he,_⟩; exact ⟨_,he⟩) ?_
            rintro v4 w4 ⟨hv4,hf4⟩
            injection hv4 with hv4
            subst hv4
            try go_simp
            exact hK _ _ ⟨updU u 9 (.int .i64 (m:Nat)),(by simp [updU,e8] <;> (repeat' apply And.intro) <;> rfl),HI.out.call hL (by decide) (HM.out _ _ hf4) hf4 (by rw [HFG.out.1]; exact rfl)⟩
          · have hL:f 11 = false:=by
              cases g11:f 11 with
              | false => rfl
              | true =>
                have g10:=hcl 11 _ rfl g11 ⟨10,.data⟩ (by simp) rfl
                exact Bool.noConfusion (g10.symm.trans hfi)
            have e1:u 1 = .int .i64 a2:=HI.out.get HFG.out.1 hL (i:=1) (hdep ⟨1,.data⟩ (by simp) rfl)
            have e7:u 7 = .int .i64 (a1 - a2 + 1):=HI.out.get HFG.out.1 hL (i:=7) (hdep ⟨7,.data⟩ (by simp) rfl)
            have e9:u 9 = .int .i64 (m:Nat):=HI.out.get HFG.out.1 hL (i:=9) (hdep ⟨9,.data⟩ (by simp) rfl)
            go_simp
            exact hK _ _ ⟨updU u 10 (.agg #[.int .i64 a2,.int .i64 0,.int .i64 (a1 - a2 + 1),.int .i64 (m:Nat)]),(by simp [updU,e1,e7,e9] <;> (repeat' apply And.intro) <;> rfl),HI.out.val hL (by decide) (by rw [HFG.out.1]; exact rfl)⟩
          · have hL:f 11 = false:=hfi
            have e10:u 10 = .agg #[.int .i64 a2,.int .i64 0,.int .i64 (a1 - a2 + 1),.int .i64 (m:Nat)]:=HI.out.get HFG.out.1 hL (i:=10) (hdep ⟨10,.data⟩ (by simp) rfl)
            obtain ⟨⟨q1_0,q1_1⟩,⟨q2_0,q2_1⟩,⟨q3_0,q3_1,q3_2⟩,⟨q4_0,q4_1,q4_2,q4_3,q4_4,q4_5,q4_6,q4_7,q4_8⟩⟩:=HC7.out w' (HI.out.a hL).1
            go_simp
            refine hK _ _ ⟨u,(by first | rfl | (simp [e10] <;> rfl)),RInv.last ?_⟩
            rw [HFG.out.2]
            exact ⟨w',(HI.out.a hL).1,rfl⟩
        rintro f a wr7 hall ⟨u7,rfl,HI⟩
        have hG:=HI.out.b (hall 11 (by decide))
        rw [HFG.out.2] at hG
        obtain ⟨wr7a,hfwr7,hw1⟩:=hG
        subst hw1
        have HS8:Hid (Fr [] w wr7a ∧ Blk wr7a B1 35 #[.slice zB zm zd,.bool zt,.int .i64 ze] ∧ Blk wr7a B2 24 #[.int .i64 a2,.int .i64 c1] ∧ Blk wr7a B3 24 #[.int .i64 a1,.int .i64 c2] ∧ Blk wr7a B4 45 #[.int .i64 0,.int .i64 0,.int .i64 0,.int .i64 0]):=⟨HS5.out.1.trans hfwr7,HS5.out.2.1.fr hfwr7 (by simp),HS5.out.2.2.1.fr hfwr7 (by simp),HS5.out.2.2.2.1.fr hfwr7 (by simp),HS5.out.2.2.2.2.fr hfwr7 (by simp)⟩
        clear hfwr7 HI hall HFG HM HC7
        obtain ⟨W9,hW9⟩:∃ Wx,Wx = ((((wr7a.setCell ⟨B4,0,none⟩ (.int .i64 a2)).setCell ⟨B4,1,none⟩ (.int .i64 0)).setCell ⟨B4,2,none⟩ (.int .i64 (a1 - a2 + 1))).setCell ⟨B4,3,none⟩ (.int .i64 (m:Nat))):=⟨_,rfl⟩
        have HS9:Hid (Fr [] w W9 ∧ Blk W9 B1 35 #[.slice zB zm zd,.bool zt,.int .i64 ze] ∧ Blk W9 B2 24 #[.int .i64 a2,.int .i64 c1] ∧ Blk W9 B3 24 #[.int .i64 a1,.int .i64 c2] ∧ Blk W9 B4 45 #[.int .i64 a2,.int .i64 0,.int .i64 (a1 - a2 + 1),.int .i64 (m:Nat)]):=by
          have mB1:=HS8.out.2.1
          replace mB1:=mB1.far (p:=⟨B4,0,none⟩) (fun e => by have e:B1 = B4:=e; have:=HNB4.out; omega) (.int .i64 a2)
          replace mB1:=mB1.far (p:=⟨B4,1,none⟩) (fun e => by have e:B1 = B4:=e; have:=HNB4.out; omega) (.int .i64 0)
          replace mB1:=mB1.far (p:=⟨B4,2,none⟩) (fun e => by have e:B1 = B4:=e; have:=HNB4.out; omega) (.int .i64 (a1 - a2 + 1))
          replace mB1:=mB1.far (p:=⟨B4,3,none⟩) (fun e => by have e:B1 = B4:=e; have:=HNB4.out; omega) (.int .i64 (m:Nat))
          have mB2:=HS8.out.2.2.1
          replace mB2:=mB2.far (p:=⟨B4,0,none⟩) (fun e => by have e:B2 = B4:=e; have:=HNB4.out; omega) (.int .i64 a2)
          replace mB2:=mB2.far (p:=⟨B4,1,none⟩) (fun e => by have e:B2 = B4:=e; have:=HNB4.out; omega) (.int .i64 0)
          replace mB2:=mB2.far (p:=⟨B4,2,none⟩) (fun e => by have e:B2 = B4:=e; have:=HNB4.out; omega) (.int .i64 (a1 - a2 + 1))
          replace mB2:=mB2.far (p:=⟨B4,3,none⟩) (fun e => by have e:B2 = B4:=e; have:=HNB4.out; omega) (.int .i64 (m:Nat))
          have mB3:=HS8.out.2.2.2.1
          replace mB3:=mB3.far (p:=⟨B4,0,none⟩) (fun e => by have e:B3 = B4:=e; have:=HNB4.out; omega) (.int .i64 a2)
          replace mB3:=mB3.far (p:=⟨B4,1,none⟩) (fun e => by have e:B3 = B4:=e; have:=HNB4.out; omega) (.int .i64 0)
          replace mB3:=mB3.far (p:=⟨B4,2,none⟩) (fun e => by have e:B3 = B4:=e; have:=HNB4.out; omega) (.int .i64 (a1 - a2 + 1))
          replace mB3:=mB3.far (p:=⟨B4,3,none⟩) (fun e => by have e:B3 = B4:=e; have:=HNB4.out; omega) (.int .i64 (m:Nat))
          have mB4:=HS8.out.2.2.2.2
          replace mB4:Blk (wr7a.setCell ⟨B4,0,none⟩ (.int .i64 a2)) B4 45 #[.int .i64 a2,.int .i64 0,.int .i64 0,.int .i64 0]:=by simpa using mB4.set_ 0 (.int .i64 a2)
          replace mB4:Blk ((wr7a.setCell ⟨B4,0,none⟩ (.int .i64 a2)).setCell ⟨B4,1,none⟩ (.int .i64 0)) B4 45 #[.int .i64 a2,.int .i64 0,.int .i64 0,.int .i64 0]:=by simpa using mB4.set_ 1 (.int .i64 0)
          replace mB4:Blk (((wr7a.setCell ⟨B4,0,none⟩ (.int .i64 a2)).setCell ⟨B4,1,none⟩ (.int .i64 0)).setCell ⟨B4,2,none⟩ (.int .i64 (a1 - a2 + 1))) B4 45 #[.int .i64 a2,.int .i64 0,.int .i64 (a1 - a2 + 1),.int .i64 0]:=by simpa using mB4.set_ 2 (.int .i64 (a1 - a2 + 1))
          replace mB4:Blk ((((wr7a.setCell ⟨B4,0,none⟩ (.int .i64 a2)).setCell ⟨B4,1,none⟩ (.int .i64 0)).setCell ⟨B4,2,none⟩ (.int .i64 (a1 - a2 + 1))).setCell ⟨B4,3,none⟩ (.int .i64 (m:Nat))) B4 45 #[.int .i64 a2,.int .i64 0,.int .i64 (a1 - a2 + 1),.int .i64 (m:Nat)]:=by simpa using mB4.set_ 3 (.int .i64 (m:Nat))
          rw [hW9]
          exact ⟨((((HS8.out.1.setB (fun h => absurd h (by have:=HNB4.out; omega)) _ _).setB (fun h => absurd h (by have:=HNB4.out; omega)) _ _).setB (fun h => absurd h (by have:=HNB4.out; omega)) _ _).setB (fun h => absurd h (by have:=HNB4.out; omega)) _ _),mB1,mB2,mB3,mB4⟩
        skip
        try rw [← hW9]
        clear hW9
        have fc1:W9.cell? ⟨B4,0,none⟩ = some (.int .i64 a2):=HS9.out.2.2.2.2.cell 0
        have fc2:W9.cell? ⟨B4,1,none⟩ = some (.int .i64 0):=HS9.out.2.2.2.2.cell 1
        have fc3:W9.cell? ⟨B4,2,none⟩ = some (.int .i64 (a1 - a2 + 1)):=HS9.out.2.2.2.2.cell 2
        have fc4:W9.cell? ⟨B4,3,none⟩ = some (.int .i64 (m:Nat)):=HS9.out.2.2.2.2.cell 3
        go_wp2_with fail
        clear fc1 fc2 fc3 fc4
        have r0B4:=HS9.out.2.2.2.2.cell 0
        have r1B4:=HS9.out.2.2.2.2.cell 1
        have r2B4:=HS9.out.2.2.2.2.cell 2
        have r3B4:=HS9.out.2.2.2.2.cell 3
        refine bodyPost_ret (v:=.agg #[.int .i64 a2,.int .i64 0,.int .i64 (a1 - a2 + 1),.int .i64 (m:Nat)]) (by simp [results,Tryz.results12,go_sem, *]) rfl ?_
        exact ⟨by rw [HEQ.out],HS9.out.1⟩
      | false =>
        have hh:=HB.out
        have hw1:IntKind.i64.wrap (a1 - a2) = a1 - a2:=IntWalk.i64_in _ (by omega)
        have hw2:IntKind.i64.wrap (a1 - a2 + 1) = a1 - a2 + 1:=IntWalk.i64_in _ (by omega)
        have hw3:IntKind.i64.wrap (c2 - c1) = c2 - c1:=IntWalk.i64_in _ (by omega)
        have hw4:IntKind.i64.wrap (c2 - c1 + 1) = c2 - c1 + 1:=IntWalk.i64_in _ (by omega)
        have HEQ:Hid (areaV false a1 c1 a2 c2 m = #[.int .i64 a2,.int .i64 c1,.int .i64 (a1 - a2 + 1),.int .i64 (c2 - c1 + 1)]):=by
          show _ = _
          unfold areaV
          simp only [cond_true,cond_false]
          rw [show min a1 a2 = a2 by omega,show max a1 a2 = a1 by omega,show min c1 c2 = c1 by omega,show max c1 c2 = c2 by omega]
        clear hh
        obtain ⟨W6,hW6⟩:∃ Wx,Wx = ((((w1.setCell ⟨B4,0,none⟩ (.int .i64 a2)).setCell ⟨B4,1,none⟩ (.int .i64 c1)).setCell ⟨B4,2,none⟩ (.int .i64 (a1 - a2 + 1))).setCell ⟨B4,3,none⟩ (.int .i64 (c2 - c1 + 1))):=⟨_,rfl⟩
        have HS6:Hid (Fr [] w W6 ∧ Blk W6 B1 35 #[.slice zB zm zd,.bool zt,.int .i64 ze] ∧ Blk W6 B2 24 #[.int .i64 a2,.int .i64 c1] ∧ Blk W6 B3 24 #[.int .i64 a1,.int .i64 c2] ∧ Blk W6 B4 45 #[.int .i64 a2,.int .i64 c1,.int .i64 (a1 - a2 + 1),.int .i64 (c2 - c1 + 1)]):=by
          have mB1:=HS5.out.2.1
          replace mB1:=mB1.far (p:=⟨B4,0,none⟩) (fun e => by have e:B1 = B4:=e; have:=HNB4.out; omega) (.int .i64 a2)
          replace mB1:=mB1.far (p:=⟨B4,1,none⟩) (fun e => by have e:B1 = B4:=e; have:=HNB4.out; omega) (.int .i64 c1)
          replace mB1:=mB1.far (p:=⟨B4,2,none⟩) (fun e => by have e:B1 = B4:=e; have:=HNB4.out; omega) (.int .i64 (a1 - a2 + 1))
          replace mB1:=mB1.far (p:=⟨B4,3,none⟩) (fun e => by have e:B1 = B4:=e; have:=HNB4.out; omega) (.int .i64 (c2 - c1 + 1))
          have mB2:=HS5.out.2.2.1
          replace mB2:=mB2.far (p:=⟨B4,0,none⟩) (fun e => by have e:B2 = B4:=e; have:=HNB4.out; omega) (.int .i64 a2)
          replace mB2:=mB2.far (p:=⟨B4,1,none⟩) (fun e => by have e:B2 = B4:=e; have:=HNB4.out; omega) (.int .i64 c1)
          replace mB2:=mB2.far (p:=⟨B4,2,none⟩) (fun e => by have e:B2 = B4:=e; have:=HNB4.out; omega) (.int .i64 (a1 - a2 + 1))
          replace mB2:=mB2.far (p:=⟨B4,3,none⟩) (fun e => by have e:B2 = B4:=e; have:=HNB4.out; omega) (.int .i64 (c2 - c1 + 1))
          have mB3:=HS5.out.2.2.2.1
          replace mB3:=mB3.far (p:=⟨B4,0,none⟩) (fun e => by have e:B3 = B4:=e; have:=HNB4.out; omega) (.int .i64 a2)
          replace mB3:=mB3.far (p:=⟨B4,1,none⟩) (fun e => by have e:B3 = B4:=e; have:=HNB4.out; omega) (.int .i64 c1)
          replace mB3:=mB3.far (p:=⟨B4,2,none⟩) (fun e => by have e:B3 = B4:=e; have:=HNB4.out; omega) (.int .i64 (a1 - a2 + 1))
          replace mB3:=mB3.far (p:=⟨B4,3,none⟩) (fun e => by have e:B3 = B4:=e; have:=HNB4.out; omega) (.int .i64 (c2 - c1 + 1))
          have mB4:=HS5.out.2.2.2.2
          replace mB4:Blk (w1.setCell ⟨B4,0,none⟩ (.int .i64 a2)) B4 45 #[.int .i64 a2,.int .i64 0,.int .i64 0,.int .i64 0]:=by simpa using mB4.set_ 0 (.int .i64 a2)
          replace mB4:Blk ((w1.setCell ⟨B4,0,none⟩ (.int .i64 a2)).setCell ⟨B4,1,none⟩ (.int .i64 c1)) B4 45 #[.int .i64 a2,.int .i64 c1,.int .i64 0,.int .i64 0]:=by simpa using mB4.set_ 1 (.int .i64 c1)
          replace mB4:Blk (((w1.setCell ⟨B4,0,none⟩ (.int .i64 a2)).setCell ⟨B4,1,none⟩ (.int .i64 c1)).setCell ⟨B4,2,none⟩ (.int .i64 (a1 - a2 + 1))) B4 45 #[.int .i64 a2,.int .i64 c1,.int .i64 (a1 - a2 + 1),.int .i64 0]:=by simpa using mB4.set_ 2 (.int .i64 (a1 - a2 + 1))
          replace mB4:Blk ((((w1.setCell ⟨B4,0,none⟩ (.int .i64 a2)).setCell ⟨B4,1,none⟩ (.int .i64 c1)).setCell ⟨B4,2,none⟩ (.int .i64 (a1 - a2 + 1))).setCell ⟨B4,3,none⟩ (.int .i64 (c2 - c1 + 1))) B4 45 #[.int .i64 a2,.int .i64 c1,.int .i64 (a1 - a2 + 1),.int .i64 (c2 - c1 + 1)]:=by simpa using mB4.set_ 3 (.int .i64 (c2 - c1 + 1))
          rw [hW6]
          exact ⟨((((HS5.out.1.setB (fun h => absurd h (by have:=HNB4.out; omega)) _ _).setB (fun h => absurd h (by have:=HNB4.out; omega)) _ _).setB (fun h => absurd h (by have:=HNB4.out; omega)) _ _).setB (fun h => absurd h (by have:=HNB4.out; omega)) _ _),mB1,mB2,mB3,mB4⟩
        have fc1:w1.cell? ⟨B2,0,none⟩ = some (.int .i64 a2):=HS5.out.2.2.1.cell 0
        have fc2:=HS5.out.2.2.1.frozen 0
        have fc3:=HS5.out.2.2.1.lt
        have fc4:w1.cell? ⟨B2,1,none⟩ = some (.int .i64 c1):=HS5.out.2.2.1.cell 1
        have fc5:=HS5.out.2.2.1.frozen 1
        have fc6:w1.cell? ⟨B3,0,none⟩ = some (.int .i64 a1):=HS5.out.2.2.2.1.cell 0
        have fc7:=HS5.out.2.2.2.1.frozen 0
        have fc8:=HS5.out.2.2.2.1.lt
        have fc9:w1.cell? ⟨B3,1,none⟩ = some (.int .i64 c2):=HS5.out.2.2.2.1.cell 1
        have fc10:=HS5.out.2.2.2.1.frozen 1
        have fc11:w1.cell? ⟨B4,0,none⟩ = some (.int .i64 0):=HS5.out.2.2.2.2.cell 0
        have fc12:=HS5.out.2.2.2.2.frozen 0
        have fc13:=HS5.out.2.2.2.2.lt
        have fc14:w1.cell? ⟨B4,1,none⟩ = some (.int .i64 0):=HS5.out.2.2.2.2.cell 1
        have fc15:=HS5.out.2.2.2.2.frozen 1
        have fc16:w1.cell? ⟨B4,2,none⟩ = some (.int .i64 0):=HS5.out.2.2.2.2.cell 2
        have fc17:=HS5.out.2.2.2.2.frozen 2
        have fc18:w1.cell? ⟨B4,3,none⟩ = some (.int .i64 0):=HS5.out.2.2.2.2.cell 3
        have fc19:=HS5.out.2.2.2.2.frozen 3
        have fc20:¬ B2 = B3:=fun e => by have e:B2 = B3:=e; have:=HNB3.out; omega
        have fc21:¬ B2 = B4:=fun e => by have e:B2 = B4:=e; have:=HNB4.out; omega
        have fc22:¬ B3 = B2:=fun e => by have e:B3 = B2:=e; have:=HNB3.out; omega
        have fc23:¬ B3 = B4:=fun e => by have e:B3 = B4:=e; have:=HNB4.out; omega
        have fc24:¬ B4 = B2:=fun e => by have e:B4 = B2:=e; have:=HNB4.out; omega
        have fc25:¬ B4 = B3:=fun e => by have e:B4 = B3:=e; have:=HNB4.out; omega
        go_wp2_with fail
        try rw [← hW6]
        clear fc1 fc2 fc3 fc4 fc5 fc6 fc7 fc8 fc9 fc10 fc11 fc12 fc13 fc14 fc15 fc16 fc17 fc18 fc19 fc20 fc21 fc22 fc23 fc24 fc25 hW6
        have r0B4:=HS6.out.2.2.2.2.cell 0
        have r1B4:=HS6.out.2.2.2.2.cell 1
        have r2B4:=HS6.out.2.2.2.2.cell 2
        have r3B4:=HS6.out.2.2.2.2.cell 3
        refine bodyPost_ret (v:=.agg #[.int .i64 a2,.int .i64 c1,.int .i64 (a1 - a2 + 1),.int .i64 (c2 - c1 + 1)]) (by simp [results,Tryz.results12,go_sem, *]) rfl ?_
        exact ⟨by rw [HEQ.out],HS6.out.1⟩
  · have hd1:decide (a2 < a1) = false:=decide_eq_false hr
    by_cases hc:c2 < c1
    · have hd2:decide (c2 < c1) = true:=decide_eq_true hc
      obtain ⟨W4,hW4⟩:∃ Wx,Wx = ((wr2.setCell ⟨B2,1,none⟩ (.int .i64 c2)).setCell ⟨B3,1,none⟩ (.int .i64 c1)):=⟨_,rfl⟩
      have HS4:Hid (Fr [] w W4 ∧ Blk W4 B1 35 #[.slice zB zm zd,.bool zt,.int .i64 ze] ∧ Blk W4 B2 24 #[.int .i64 a1,.int .i64 c2] ∧ Blk W4 B3 24 #[.int .i64 a2,.int .i64 c1] ∧ Blk W4 B4 45 #[.int .i64 0,.int .i64 0,.int .i64 0,.int .i64 0]):=by
        have mB1:=HS3.out.2.1
        replace mB1:=mB1.far (p:=⟨B2,1,none⟩) (fun e => by have e:B1 = B2:=e; have:=HNB2.out; omega) (.int .i64 c2)
        replace mB1:=mB1.far (p:=⟨B3,1,none⟩) (fun e => by have e:B1 = B3:=e; have:=HNB3.out; omega) (.int .i64 c1)
        have mB2:=HS3.out.2.2.1
        replace mB2:Blk (wr2.setCell ⟨B2,1,none⟩ (.int .i64 c2)) B2 24 #[.int .i64 a1,.int .i64 c2]:=by simpa using mB2.set_ 1 (.int .i64 c2)
        replace mB2:=mB2.far (p:=⟨B3,1,none⟩) (fun e => by have e:B2 = B3:=e; have:=HNB3.out; omega) (.int .i64 c1)
        have mB3:=HS3.out.2.2.2.1
        replace mB3:=mB3.far (p:=⟨B2,1,none⟩) (fun e => by have e:B3 = B2:=e; have:=HNB3.out; omega) (.int .i64 c2)
        replace mB3:Blk ((wr2.setCell ⟨B2,1,none⟩ (.int .i64 c2)).setCell ⟨B3,1,none⟩ (.int .i64 c1)) B3 24 #[.int .i64 a2,.int .i64 c1]:=by simpa using mB3.set_ 1 (.int .i64 c1)
        have mB4:=HS3.out.2.2.2.2
        replace mB4:=mB4.far (p:=⟨B2,1,none⟩) (fun e => by have e:B4 = B2:=e; have:=HNB4.out; omega) (.int .i64 c2)
        replace mB4:=mB4.far (p:=⟨B3,1,none⟩) (fun e => by have e:B4 = B3:=e; have:=HNB4.out; omega) (.int .i64 c1)
        rw [hW4]
        exact ⟨((HS3.out.1.setB (fun h => absurd h (by have:=HNB2.out; omega)) _ _).setB (fun h => absurd h (by have:=HNB3.out; omega)) _ _),mB1,mB2,mB3,mB4⟩
      have fc1:wr2.cell? ⟨B3,0,none⟩ = some (.int .i64 a2):=HS3.out.2.2.2.1.cell 0
      have fc2:=HS3.out.2.2.2.1.frozen 0
      have fc3:=HS3.out.2.2.2.1.lt
      have fc4:wr2.cell? ⟨B2,0,none⟩ = some (.int .i64 a1):=HS3.out.2.2.1.cell 0
      have fc5:=HS3.out.2.2.1.frozen 0
      have fc6:=HS3.out.2.2.1.lt
      have fc7:wr2.cell? ⟨B3,1,none⟩ = some (.int .i64 c2):=HS3.out.2.2.2.1.cell 1
      have fc8:=HS3.out.2.2.2.1.frozen 1
      have fc9:wr2.cell? ⟨B2,1,none⟩ = some (.int .i64 c1):=HS3.out.2.2.1.cell 1
      have fc10:=HS3.out.2.2.1.frozen 1
      have fc11:¬ B3 = B2:=fun e => by have e:B3 = B2:=e; have:=HNB3.out; omega
      have fc12:¬ B2 = B3:=fun e => by have e:B2 = B3:=e; have:=HNB3.out; omega
      go_wp2_with fail
      try rw [← hW4]
      clear fc1 fc2 fc3 fc4 fc5 fc6 fc7 fc8 fc9 fc10 fc11 fc12 hW4
      refine (HBR.out W4).mono ?_
      rintro en w1 ⟨rfl,hf1⟩
      have HS5:Hid (Fr [] w w1 ∧ Blk w1 B1 35 #[.slice zB zm zd,.bool zt,.int .i64 ze] ∧ Blk w1 B2 24 #[.int .i64 a1,.int .i64 c2] ∧ Blk w1 B3 24 #[.int .i64 a2,.int .i64 c1] ∧ Blk w1 B4 45 #[.int .i64 0,.int .i64 0,.int .i64 0,.int .i64 0]):=⟨HS4.out.1.trans hf1,HS4.out.2.1.fr hf1 (by simp),HS4.out.2.2.1.fr hf1 (by simp),HS4.out.2.2.2.1.fr hf1 (by simp),HS4.out.2.2.2.2.fr hf1 (by simp)⟩
      clear hf1
      cases rb with
      | true =>
        have hh:=HB.out
        have hw1:IntKind.i64.wrap (a2 - a1) = a2 - a1:=IntWalk.i64_in _ (by omega)
        have hw2:IntKind.i64.wrap (a2 - a1 + 1) = a2 - a1 + 1:=IntWalk.i64_in _ (by omega)
        have hw3:IntKind.i64.wrap (c1 - c2) = c1 - c2:=IntWalk.i64_in _ (by omega)
        have hw4:IntKind.i64.wrap (c1 - c2 + 1) = c1 - c2 + 1:=IntWalk.i64_in _ (by omega)
        have HEQ:Hid (areaV true a1 c1 a2 c2 m = #[.int .i64 a1,.int .i64 0,.int .i64 (a2 - a1 + 1),.int .i64 (m:Nat)]):=by
          show _ = _
          unfold areaV
          simp only [cond_true,cond_false]
          rw [show min a1 a2 = a1 by omega,show max a1 a2 = a2 by omega]
        clear hh
        go_wp2_with fail
        have HC7:Hid (∀ w',Fr [] w1 w' → (w'.cell? ⟨B2,0,none⟩ = some (.int .i64 a1) ∧ w'.cell? ⟨B2,1,none⟩ = some (.int .i64 c2)) ∧ (w'.cell? ⟨B3,0,none⟩ = some (.int .i64 a2) ∧ w'.cell? ⟨B3,1,none⟩ = some (.int .i64 c1)) ∧ (w'.cell? ⟨B1,0,none⟩ = some (.slice zB zm zd) ∧ w'.cell? ⟨B1,1,none⟩ = some (.bool zt) ∧ w'.cell? ⟨B1,2,none⟩ = some (.int .i64 ze)) ∧ (w'.cell? ⟨B4,0,none⟩ = some (.int .i64 0) ∧ w'.frozen? ⟨B4,0,none⟩ = false ∧ w'.cell? ⟨B4,1,none⟩ = some (.int .i64 0) ∧ w'.frozen? ⟨B4,1,none⟩ = false ∧ w'.cell? ⟨B4,2,none⟩ = some (.int .i64 0) ∧ w'.frozen? ⟨B4,2,none⟩ = false ∧ w'.cell? ⟨B4,3,none⟩ = some (.int .i64 0) ∧ w'.frozen? ⟨B4,3,none⟩ = false ∧ B4 < w'.heap.size)):=by
          show ∀ _,_
          intro w' hf
          have h0:=HS5.out.2.2.1.fr hf (by simp)
          have h1:=HS5.out.2.2.2.1.fr hf (by simp)
          have h2:=HS5.out.2.1.fr hf (by simp)
          have h3:=HS5.out.2.2.2.2.fr hf (by simp)
          exact ⟨⟨h0.cell 0,h0.cell 1⟩,⟨h1.cell 0,h1.cell 1⟩,⟨h2.cell 0,h2.cell 1,h2.cell 2⟩,⟨h3.cell 0,h3.frozen 0,h3.cell 1,h3.frozen 1,h3.cell 2,h3.frozen 2,h3.cell 3,h3.frozen 3,h3.lt⟩⟩
        obtain ⟨F,hF⟩:∃ F:World → Nat → Value → Prop,F = (fun (w:World) (i:Nat) (v:Value) => match i with | 0 => v = .pointer (some ⟨B2,0,none⟩) | 1 => v = .int .i64 a1 | 2 => v = .pointer (some ⟨B3,0,none⟩) | 3 => v = .int .i64 a2 | 4 => v = .pointer (some ⟨B2,0,none⟩) | 5 => v = .int .i64 a1 | 6 => v = .int .i64 (a2 - a1) | 7 => v = .int .i64 (a2 - a1 + 1) | 8 => v = .agg #[.slice zB zm zd,.bool zt,.int .i64 ze] | 9 => v = .int .i64 (m:Nat) | 10 => v = .agg #[.int .i64 a1,.int .i64 0,.int .i64 (a2 - a1 + 1),.int .i64 (m:Nat)] | _ => True):=⟨_,rfl⟩
        obtain ⟨G,hG⟩:∃ G:(Nat → Value) → World → Prop,G = (fun u w => ∃ wq,Fr [] w1 wq ∧ w = ((((wq.setCell ⟨B4,0,none⟩ (.int .i64 a1)).setCell ⟨B4,1,none⟩ (.int .i64 0)).setCell ⟨B4,2,none⟩ (.int .i64 (a2 - a1 + 1))).setCell ⟨B4,3,none⟩ (.int .i64 (m:Nat)))):=⟨_,rfl⟩
        have HM:Hid (∀ w1 w2:World,Fr [] w1 w2 → ∀ j x,F w1 j x → F w2 j x):=by
          show ∀ _,_
          intro w1 w2 hf j x h
          subst hF
          match j,h with
          | 0,h => exact h
          | 1,h => exact h
          | 2,h => exact h
          | 3,h => exact h
          | 4,h => exact h
          | 5,h => exact h
          | 6,h => exact h
          | 7,h => exact h
          | 8,h => exact h
          | 9,h => exact h
          | 10,h => exact h
          | n + 11,h => trivial
        have HFG:=Lib.hid (And.intro hF hG)
        clear hF hG
        refine wp_region_invc (by kernel_rfl) (fun f a w' => ∃ u:Nat → Value,a = { tmps:=#[.agg #[.slice zB zm zd,.bool zt,.int .i64 ze],.agg #[.int .i64 pr,.int .i64 pc],.agg #[.int .i64 qr,.int .i64 qc],.int .i64 v,.pointer (some ⟨B1,0,none⟩),.pointer (some ⟨B2,0,none⟩),.pointer (some ⟨B3,0,none⟩),undef,.pointer (some ⟨B4,0,none⟩),undef,.int .i64 c1,.pointer (some ⟨B1,0,none⟩),.slice zB zm zd,.int .i64 (zm:Nat),.bool false,undef,.agg #[.slice zB zm zd,.bool zt,.int .i64 ze],.agg #[.int .i64 pr,.int .i64 pc],.agg #[.int .i64 a1,.int .i64 c1],.agg #[.slice zB zm zd,.bool zt,.int .i64 ze],.agg #[.int .i64 qr,.int .i64 qc],.agg #[.int .i64 a2,.int .i64 c2],.pointer (some ⟨B3,0,none⟩),.int .i64 a2,.pointer (some ⟨B2,0,none⟩),.int .i64 a1,.bool false,undef,undef,undef,undef,undef,undef,undef,.pointer (some ⟨B3,1,none⟩),.int .i64 c2,.pointer (some ⟨B2,1,none⟩),.int .i64 c1,.bool true,.pointer (some ⟨B2,1,none⟩),.int .i64 c1,.pointer (some ⟨B3,1,none⟩),.int .i64 c2,.pointer (some ⟨B2,1,none⟩),.int .i64 c1,.pointer (some ⟨B3,1,none⟩),.int .i64 v,.bool true,u 0,u 1,u 2,u 3,u 4,u 5,u 6,u 7,u 8,u 9,u 10,undef,undef,undef,undef,undef,undef,undef,undef,undef,undef,undef,undef,undef,undef,undef,undef,undef],defers:=[] } ∧ Hid (RInv F G w1 11 f u w')) (by kernel_rfl) ?_ ?_ ?_
        · exact ⟨fun _ => undef,rfl,RInv.start _⟩
        · simp only [EachOp]
          refine ⟨?_,?_,?_,?_,?_,?_,?_,?_,?_,?_,?_,?_,trivial⟩
          all_goals rintro f a w' hfi hdep hcl ⟨u,rfl,HI⟩ K hK
          · have hL:f 11 = false:=by
              cases g11:f 11 with
              | false => rfl
              | true =>
                have g0:=hcl 11 _ rfl g11 ⟨0,.phase⟩ (by simp) rfl
                exact Bool.noConfusion (g0.symm.trans hfi)
            go_simp
            exact hK _ _ ⟨updU u 0 (.pointer (some ⟨B2,0,none⟩)),rfl,HI.out.val hL (by decide) (by rw [HFG.out.1]; exact rfl)⟩
          · have hL:f 11 = false:=by
              cases g11:f 11 with
              | false => rfl
              | true =>
                have g1:=hcl 11 _ rfl g11 ⟨1,.phase⟩ (by simp) rfl
                exact Bool.noConfusion (g1.symm.trans hfi)
            have e0:u 0 = .pointer (some ⟨B2,0,none⟩):=HI.out.get HFG.out.1 hL (i:=0) (hdep ⟨0,.data⟩ (by simp) rfl)
            obtain ⟨⟨q1_0,q1_1⟩,⟨q2_0,q2_1⟩,⟨q3_0,q3_1,q3_2⟩,⟨q4_0,q4_1,q4_2,q4_3,q4_4,q4_5,q4_6,q4_7,q4_8⟩⟩:=HC7.out w' (HI.out.a hL).1
            go_simp
            exact hK _ _ ⟨updU u 1 (.int .i64 a1),(by simp [updU,e0] <;> (repeat' apply And.intro) <;> rfl),HI.out.val hL (by decide) (by rw [HFG.out.1]; exact rfl)⟩
          · have hL:f 11 = false:=by
              cases g11:f 11 with
              | false => rfl
              | true =>
                have g2:=hcl 11 _ rfl g11 ⟨2,.phase⟩ (by simp) rfl
                exact Bool.noConfusion (g2.symm.trans hfi)
            go_simp
            exact hK _ _ ⟨updU u 2 (.pointer (some ⟨B3,0,none⟩)),rfl,HI.out.val hL (by decide) (by rw [HFG.out.1]; exact rfl)⟩
          · have hL:f 11 = false:=by
              cases g11:f 11 with
              | false => rfl
              | true =>
                have g3:=hcl 11 _ rfl g11 ⟨3,.phase⟩ (by simp) rfl
                exact Bool.noConfusion (g3.symm.trans hfi)
            have e2:u 2 = .pointer (some ⟨B3,0,none⟩):=HI.out.get HFG.out.1 hL (i:=2) (hdep ⟨2,.data⟩ (by simp) rfl)
            obtain ⟨⟨q1_0,q1_1⟩,⟨q2_0,q2_1⟩,⟨q3_0,q3_1,q3_2⟩,⟨q4_0,q4_1,q4_2,q4_3,q4_4,q4_5,q4_6,q4_7,q4_8⟩⟩:=HC7.out w' (HI.out.a hL).1
            go_simp
            exact hK _ _ ⟨updU u 3 (.int .i64 a2),(by simp [updU,e2] <;> (repeat' apply And.intro) <;> rfl),HI.out.val hL (by decide) (by rw [HFG.out.1]; exact rfl)⟩
          · have hL:f 11 = false:=by
              cases g11:f 11 with
              | false => rfl
              | true =>
                have g4:=hcl 11 _ rfl g11 ⟨4,.phase⟩ (by simp) rfl
                exact Bool.noConfusion (g4.symm.trans hfi)
            go_simp
            exact hK _ _ ⟨updU u 4 (.pointer (some ⟨B2,0,none⟩)),rfl,HI.out.val hL (by decide) (by rw [HFG.out.1]; exact rfl)⟩
          · have hL:f 11 = false:=by
              cases g11:f 11 with
              | false => rfl
              | true =>
                have g5:=hcl 11 _ rfl g11 ⟨5,.phase⟩ (by simp) rfl
                exact Bool.noConfusion (g5.symm.trans hfi)
            have e4:u 4 = .pointer (some ⟨B2,0,none⟩):=HI.out.get HFG.out.1 hL (i:=4) (hdep ⟨4,.data⟩ (by simp) rfl)
            obtain ⟨⟨q1_0,q1_1⟩,⟨q2_0,q2_1⟩,⟨q3_0,q3_1,q3_2⟩,⟨q4_0,q4_1,q4_2,q4_3,q4_4,q4_5,q4_6,q4_7,q4_8⟩⟩:=HC7.out w' (HI.out.a hL).1
            go_simp
            exact hK _ _ ⟨updU u 5 (.int .i64 a1),(by simp [updU,e4] <;> (repeat' apply And.intro) <;> rfl),HI.out.val hL (by decide) (by rw [HFG.out.1]; exact rfl)⟩
          · have hL:f 11 = false:=by
              cases g11:f 11 with
              | false => rfl
              | true =>
                have g6:=hcl 11 _ rfl g11 ⟨6,.phase⟩ (by simp) rfl
                exact Bool.noConfusion (g6.symm.trans hfi)
            have e3:u 3 = .int .i64 a2:=HI.out.get HFG.out.1 hL (i:=3) (hdep ⟨3,.data⟩ (by simp) rfl)
            have e5:u 5 = .int .i64 a1:=HI.out.get HFG.out.1 hL (i:=5) (hdep ⟨5,.data⟩ (by simp) rfl)
            go_simp
            exact hK _ _ ⟨updU u 6 (.int .i64 (a2 - a1)),(by simp [updU,e3,e5] <;> (repeat' apply And.intro) <;> rfl),HI.out.val hL (by decide) (by rw [HFG.out.1]; exact rfl)⟩
          · have hL:f 11 = false:=by
              cases g11:f 11 with
              | false => rfl
              | true =>
                have g7:=hcl 11 _ rfl g11 ⟨7,.phase⟩ (by simp) rfl
                exact Bool.noConfusion (g7.symm.trans hfi)
            have e6:u 6 = .int .i64 (a2 - a1):=HI.out.get HFG.out.1 hL (i:=6) (hdep ⟨6,.data⟩ (by simp) rfl)
            go_simp
            exact hK _ _ ⟨updU u 7 (.int .i64 (a2 - a1 + 1)),(by simp [updU,e6] <;> (repeat' apply And.intro) <;> rfl),HI.out.val hL (by decide) (by rw [HFG.out.1]; exact rfl)⟩
          · have hL:f 11 = false:=by
              cases g11:f 11 with
              | false => rfl
              | true =>
                have g8:=hcl 11 _ rfl g11 ⟨8,.phase⟩ (by simp) rfl
                exact Bool.noConfusion (g8.symm.trans hfi)
            obtain ⟨⟨q1_0,q1_1⟩,⟨q2_0,q2_1⟩,⟨q3_0,q3_1,q3_2⟩,⟨q4_0,q4_1,q4_2,q4_3,q4_4,q4_5,q4_6,q4_7,q4_8⟩⟩:=HC7.out w' (HI.out.a hL).1
            go_simp
            exact hK _ _ ⟨updU u 8 (.agg #[.slice zB zm zd,.bool zt,.int .i64 ze]),rfl,HI.out.val hL (by decide) (by rw [HFG.out.1]; exact rfl)⟩
          · have hL:f 11 = false:=by
              cases g11:f 11 with
              | false => rfl
              | true =>
                have g9:=hcl 11 _ rfl g11 ⟨9,.chain⟩ (by simp) rfl
                exact Bool.noConfusion (g9.symm.trans hfi)
            have e8:u 8 = .agg #[.slice zB zm zd,.bool zt,.int .i64 ze]:=HI.out.get HFG.out.1 hL (i:=8) (hdep ⟨8,.data⟩ (by simp) rfl)
            refine step_call _ (by rfl) 33 #[.agg #[.slice zB zm zd,.bool zt,.int .i64 ze]] (by go_simp) _ (HWD.out w' (HS5.out.1.trans (HI.out.a hL).1)) (by rintro e w' ⟨he,_⟩; exact ⟨_,he⟩) ?_
            rintro v4 w4 ⟨hv4,hf4⟩
            injection hv4 with hv4
            subst hv4
            try go_simp
            exact hK _ _ ⟨updU u 9 (.int .i64 (m:Nat)),(by simp [updU,e8] <;> (repeat' apply And.intro) <;> rfl),HI.out.call hL (by decide) (HM.out _ _ hf4) hf4 (by rw [HFG.out.1]; exact rfl)⟩
          · have hL:f 11 = false:=by
              cases g11:f 11 with
              | false => rfl
              | true =>
                have g10:=hcl 11 _ rfl g11 ⟨10,.data⟩ (by simp) rfl
                exact Bool.noConfusion (g10.symm.trans hfi)
            have e1:u 1 = .int .i64 a1:=HI.out.get HFG.out.1 hL (i:=1) (hdep ⟨1,.data⟩ (by simp) rfl)
            have e7:u 7 = .int .i64 (a2 - a1 + 1):=HI.out.get HFG.out.1 hL (i:=7) (hdep ⟨7,.data⟩ (by simp) rfl)
            have e9:u 9 = .int .i64 (m:Nat):=HI.out.get HFG.out.1 hL (i:=9) (hdep ⟨9,.data⟩ (by simp) rfl)
            go_simp
            exact hK _ _ ⟨updU u 10 (.agg #[.int .i64 a1,.int .i64 0,.int .i64 (a2 - a1 + 1),.int .i64 (m:Nat)]),(by simp [updU,e1,e7,e9] <;> (repeat' apply And.intro) <;> rfl),HI.out.val hL (by decide) (by rw [HFG.out.1]; exact rfl)⟩
          · have hL:f 11 = false:=hfi
            have e10:u 10 = .agg #[.int .i64 a1,.int .i64 0,.int .i64 (a2 - a1 + 1),.int .i64 (m:Nat)]:=HI.out.get HFG.out.1 hL (i:=10) (hdep ⟨10,.data⟩ (by simp) rfl)
            obtain ⟨⟨q1_0,q1_1⟩,⟨q2_0,q2_1⟩,⟨q3_0,q3_1,q3_2⟩,⟨q4_0,q4_1,q4_2,q4_3,q4_4,q4_5,q4_6,q4_7,q4_8⟩⟩:=HC7.out w' (HI.out.a hL).1
            go_simp
            refine hK _ _ ⟨u,(by first | rfl | (simp [e10] <;> rfl)),RInv.last ?_⟩
            rw [HFG.out.2]
            exact ⟨w',(HI.out.a hL).1,rfl⟩
        rintro f a wr7 hall ⟨u7,rfl,HI⟩
        have hG:=HI.out.b (hall 11 (by decide))
        rw [HFG.out.2] at hG
        obtain ⟨wr7a,hfwr7,hw1⟩:=hG
        subst hw1
        have HS8:Hid (Fr [] w wr7a ∧ Blk wr7a B1 35 #[.slice zB zm zd,.bool zt,.int .i64 ze] ∧ Blk wr7a B2 24 #[.int .i64 a1,.int .i64 c2] ∧ Blk wr7a B3 24 #[.int .i64 a2,.int .i64 c1] ∧ Blk wr7a B4 45 #[.int .i64 0,.int .i64 0,.int .i64 0,.int .i64 0]):=⟨HS5.out.1.trans hfwr7,HS5.out.2.1.fr hfwr7 (by simp),HS5.out.2.2.1.fr hfwr7 (by simp),HS5.out.2.2.2.1.fr hfwr7 (by simp),HS5.out.2.2.2.2.fr hfwr7 (by simp)⟩
        clear hfwr7 HI hall HFG HM HC7
        obtain ⟨W9,hW9⟩:∃ Wx,Wx = ((((wr7a.setCell ⟨B4,0,none⟩ (.int .i64 a1)).setCell ⟨B4,1,none⟩ (.int .i64 0)).setCell ⟨B4,2,none⟩ (.int .i64 (a2 - a1 + 1))).setCell ⟨B4,3,none⟩ (.int .i64 (m:Nat))):=⟨_,rfl⟩
        have HS9:Hid (Fr [] w W9 ∧ Blk W9 B1 35 #[.slice zB zm zd,.bool zt,.int .i64 ze] ∧ Blk W9 B2 24 #[.int .i64 a1,.int .i64 c2] ∧ Blk W9 B3 24 #[.int .i64 a2,.int .i64 c1] ∧ Blk W9 B4 45 #[.int .i64 a1,.int .i64 0,.int .i64 (a2 - a1 + 1),.int .i64 (m:Nat)]):=by
          have mB1:=HS8.out.2.1
          replace mB1:=mB1.far (p:=⟨B4,0,none⟩) (fun e => by have e:B1 = B4:=e; have:=HNB4.out; omega) (.int .i64 a1)
          replace mB1:=mB1.far (p:=⟨B4,1,none⟩) (fun e => by have e:B1 = B4:=e; have:=HNB4.out; omega) (.int .i64 0)
          replace mB1:=mB1.far (p:=⟨B4,2,none⟩) (fun e => by have e:B1 = B4:=e; have:=HNB4.out; omega) (.int .i64 (a2 - a1 + 1))
          replace mB1:=mB1.far (p:=⟨B4,3,none⟩) (fun e => by have e:B1 = B4:=e; have:=HNB4.out; omega) (.int .i64 (m:Nat))
          have mB2:=HS8.out.2.2.1
          replace mB2:=mB2.far (p:=⟨B4,0,none⟩) (fun e => by have e:B2 = B4:=e; have:=HNB4.out; omega) (.int .i64 a1)
          replace mB2:=mB2.far (p:=⟨B4,1,none⟩) (fun e => by have e:B2 = B4:=e; have:=HNB4.out; omega) (.int .i64 0)
          replace mB2:=mB2.far (p:=⟨B4,2,none⟩) (fun e => by have e:B2 = B4:=e; have:=HNB4.out; omega) (.int .i64 (a2 - a1 + 1))
          replace mB2:=mB2.far (p:=⟨B4,3,none⟩) (fun e => by have e:B2 = B4:=e; have:=HNB4.out; omega) (.int .i64 (m:Nat))
          have mB3:=HS8.out.2.2.2.1
          replace mB3:=mB3.far (p:=⟨B4,0,none⟩) (fun e => by have e:B3 = B4:=e; have:=HNB4.out; omega) (.int .i64 a1)
          replace mB3:=mB3.far (p:=⟨B4,1,none⟩) (fun e => by have e:B3 = B4:=e; have:=HNB4.out; omega) (.int .i64 0)
          replace mB3:=mB3.far (p:=⟨B4,2,none⟩) (fun e => by have e:B3 = B4:=e; have:=HNB4.out; omega) (.int .i64 (a2 - a1 + 1))
          replace mB3:=mB3.far (p:=⟨B4,3,none⟩) (fun e => by have e:B3 = B4:=e; have:=HNB4.out; omega) (.int .i64 (m:Nat))
          have mB4:=HS8.out.2.2.2.2
          replace mB4:Blk (wr7a.setCell ⟨B4,0,none⟩ (.int .i64 a1)) B4 45 #[.int .i64 a1,.int .i64 0,.int .i64 0,.int .i64 0]:=by simpa using mB4.set_ 0 (.int .i64 a1)
          replace mB4:Blk ((wr7a.setCell ⟨B4,0,none⟩ (.int .i64 a1)).setCell ⟨B4,1,none⟩ (.int .i64 0)) B4 45 #[.int .i64 a1,.int .i64 0,.int .i64 0,.int .i64 0]:=by simpa using mB4.set_ 1 (.int .i64 0)
          replace mB4:Blk (((wr7a.setCell ⟨B4,0,none⟩ (.int .i64 a1)).setCell ⟨B4,1,none⟩ (.int .i64 0)).setCell ⟨B4,2,none⟩ (.int .i64 (a2 - a1 + 1))) B4 45 #[.int .i64 a1,.int .i64 0,.int .i64 (a2 - a1 + 1),.int .i64 0]:=by simpa using mB4.set_ 2 (.int .i64 (a2 - a1 + 1))
          replace mB4:Blk ((((wr7a.setCell ⟨B4,0,none⟩ (.int .i64 a1)).setCell ⟨B4,1,none⟩ (.int .i64 0)).setCell ⟨B4,2,none⟩ (.int .i64 (a2 - a1 + 1))).setCell ⟨B4,3,none⟩ (.int .i64 (m:Nat))) B4 45 #[.int .i64 a1,.int .i64 0,.int .i64 (a2 - a1 + 1),.int .i64 (m:Nat)]:=by simpa using mB4.set_ 3 (.int .i64 (m:Nat))
          rw [hW9]
          exact ⟨((((HS8.out.1.setB (fun h => absurd h (by have:=HNB4.out; omega)) _ _).setB (fun h => absurd h (by have:=HNB4.out; omega)) _ _).setB (fun h => absurd h (by have:=HNB4.out; omega)) _ _).setB (fun h => absurd h (by have:=HNB4.out; omega)) _ _),mB1,mB2,mB3,mB4⟩
        skip
        try rw [← hW9]
        clear hW9
        have fc1:W9.cell? ⟨B4,0,none⟩ = some (.int .i64 a1):=HS9.out.2.2.2.2.cell 0
        have fc2:W9.cell? ⟨B4,1,none⟩ = some (.int .i64 0):=HS9.out.2.2.2.2.cell 1
        have fc3:W9.cell? ⟨B4,2,none⟩ = some (.int .i64 (a2 - a1 + 1)):=HS9.out.2.2.2.2.cell 2
        have fc4:W9.cell? ⟨B4,3,none⟩ = some (.int .i64 (m:Nat)):=HS9.out.2.2.2.2.cell 3
        go_wp2_with fail
        clear fc1 fc2 fc3 fc4
        have r0B4:=HS9.out.2.2.2.2.cell 0
        have r1B4:=HS9.out.2.2.2.2.cell 1
        have r2B4:=HS9.out.2.2.2.2.cell 2
        have r3B4:=HS9.out.2.2.2.2.cell 3
        refine bodyPost_ret (v:=.agg #[.int .i64 a1,.int .i64 0,.int .i64 (a2 - a1 + 1),.int .i64 (m:Nat)]) (by simp [results,Tryz.results12,go_sem, *]) rfl ?_
        exact ⟨by rw [HEQ.out],HS9.out.1⟩
      | false =>
        have hh:=HB.out
        have hw1:IntKind.i64.wrap (a2 - a1) = a2 - a1:=IntWalk.i64_in _ (by omega)
        have hw2:IntKind.i64.wrap (a2 - a1 + 1) = a2 - a1 + 1:=IntWalk.i64_in _ (by omega)
        have hw3:IntKind.i64.wrap (c1 - c2) = c1 - c2:=IntWalk.i64_in _ (by omega)
        have hw4:IntKind.i64.wrap (c1 - c2 + 1) = c1 - c2 + 1:=IntWalk.i64_in _ (by omega)
        have HEQ:Hid (areaV false a1 c1 a2 c2 m = #[.int .i64 a1,.int .i64 c2,.int .i64 (a2 - a1 + 1),.int .i64 (c1 - c2 + 1)]):=by
          show _ = _
          unfold areaV
          simp only [cond_true,cond_false]
          rw [show min a1 a2 = a1 by omega,show max a1 a2 = a2 by omega,show min c1 c2 = c2 by omega,show max c1 c2 = c1 by omega]
        clear hh
        obtain ⟨W6,hW6⟩:∃ Wx,Wx = ((((w1.setCell ⟨B4,0,none⟩ (.int .i64 a1)).setCell ⟨B4,1,none⟩ (.int .i64 c2)).setCell ⟨B4,2,none⟩ (.int .i64 (a2 - a1 + 1))).setCell ⟨B4,3,none⟩ (.int .i64 (c1 - c2 + 1))):=⟨_,rfl⟩
        have HS6:Hid (Fr [] w W6 ∧ Blk W6 B1 35 #[.slice zB zm zd,.bool zt,.int .i64 ze] ∧ Blk W6 B2 24 #[.int .i64 a1,.int .i64 c2] ∧ Blk W6 B3 24 #[.int .i64 a2,.int .i64 c1] ∧ Blk W6 B4 45 #[.int .i64 a1,.int .i64 c2,.int .i64 (a2 - a1 + 1),.int .i64 (c1 - c2 + 1)]):=by
          have mB1:=HS5.out.2.1
          replace mB1:=mB1.far (p:=⟨B4,0,none⟩) (fun e => by have e:B1 = B4:=e; have:=HNB4.out; omega) (.int .i64 a1)
          replace mB1:=mB1.far (p:=⟨B4,1,none⟩) (fun e => by have e:B1 = B4:=e; have:=HNB4.out; omega) (.int .i64 c2)
          replace mB1:=mB1.far (p:=⟨B4,2,none⟩) (fun e => by have e:B1 = B4:=e; have:=HNB4.out; omega) (.int .i64 (a2 - a1 + 1))
          replace mB1:=mB1.far (p:=⟨B4,3,none⟩) (fun e => by have e:B1 = B4:=e; have:=HNB4.out; omega) (.int .i64 (c1 - c2 + 1))
          have mB2:=HS5.out.2.2.1
          replace mB2:=mB2.far (p:=⟨B4,0,none⟩) (fun e => by have e:B2 = B4:=e; have:=HNB4.out; omega) (.int .i64 a1)
          replace mB2:=mB2.far (p:=⟨B4,1,none⟩) (fun e => by have e:B2 = B4:=e; have:=HNB4.out; omega) (.int .i64 c2)
          replace mB2:=mB2.far (p:=⟨B4,2,none⟩) (fun e => by have e:B2 = B4:=e; have:=HNB4.out; omega) (.int .i64 (a2 - a1 + 1))
          replace mB2:=mB2.far (p:=⟨B4,3,none⟩) (fun e => by have e:B2 = B4:=e; have:=HNB4.out; omega) (.int .i64 (c1 - c2 + 1))
          have mB3:=HS5.out.2.2.2.1
          replace mB3:=mB3.far (p:=⟨B4,0,none⟩) (fun e => by have e:B3 = B4:=e; have:=HNB4.out; omega) (.int .i64 a1)
          replace mB3:=mB3.far (p:=⟨B4,1,none⟩) (fun e => by have e:B3 = B4:=e; have:=HNB4.out; omega) (.int .i64 c2)
          replace mB3:=mB3.far (p:=⟨B4,2,none⟩) (fun e => by have e:B3 = B4:=e; have:=HNB4.out; omega) (.int .i64 (a2 - a1 + 1))
          replace mB3:=mB3.far (p:=⟨B4,3,none⟩) (fun e => by have e:B3 = B4:=e; have:=HNB4.out; omega) (.int .i64 (c1 - c2 + 1))
          have mB4:=HS5.out.2.2.2.2
          replace mB4:Blk (w1.setCell ⟨B4,0,none⟩ (.int .i64 a1)) B4 45 #[.int .i64 a1,.int .i64 0,.int .i64 0,.int .i64 0]:=by simpa using mB4.set_ 0 (.int .i64 a1)
          replace mB4:Blk ((w1.setCell ⟨B4,0,none⟩ (.int .i64 a1)).setCell ⟨B4,1,none⟩ (.int .i64 c2)) B4 45 #[.int .i64 a1,.int .i64 c2,.int .i64 0,.int .i64 0]:=by simpa using mB4.set_ 1 (.int .i64 c2)
          replace mB4:Blk (((w1.setCell ⟨B4,0,none⟩ (.int .i64 a1)).setCell ⟨B4,1,none⟩ (.int .i64 c2)).setCell ⟨B4,2,none⟩ (.int .i64 (a2 - a1 + 1))) B4 45 #[.int .i64 a1,.int .i64 c2,.int .i64 (a2 - a1 + 1),.int .i64 0]:=by simpa using mB4.set_ 2 (.int .i64 (a2 - a1 + 1))
          replace mB4:Blk ((((w1.setCell ⟨B4,0,none⟩ (.int .i64 a1)).setCell ⟨B4,1,none⟩ (.int .i64 c2)).setCell ⟨B4,2,none⟩ (.int .i64 (a2 - a1 + 1))).setCell ⟨B4,3,none⟩ (.int .i64 (c1 - c2 + 1))) B4 45 #[.int .i64 a1,.int .i64 c2,.int .i64 (a2 - a1 + 1),.int .i64 (c1 - c2 + 1)]:=by simpa using mB4.set_ 3 (.int .i64 (c1 - c2 + 1))
          rw [hW6]
          exact ⟨((((HS5.out.1.setB (fun h => absurd h (by have:=HNB4.out; omega)) _ _).setB (fun h => absurd h (by have:=HNB4.out; omega)) _ _).setB (fun h => absurd h (by have:=HNB4.out; omega)) _ _).setB (fun h => absurd h (by have:=HNB4.out; omega)) _ _),mB1,mB2,mB3,mB4⟩
        have fc1:w1.cell? ⟨B2,0,none⟩ = some (.int .i64 a1):=HS5.out.2.2.1.cell 0
        have fc2:=HS5.out.2.2.1.frozen 0
        have fc3:=HS5.out.2.2.1.lt
        have fc4:w1.cell? ⟨B2,1,none⟩ = some (.int .i64 c2):=HS5.out.2.2.1.cell 1
        have fc5:=HS5.out.2.2.1.frozen 1
        have fc6:w1.cell? ⟨B3,0,none⟩ = some (.int .i64 a2):=HS5.out.2.2.2.1.cell 0
        have fc7:=HS5.out.2.2.2.1.frozen 0
        have fc8:=HS5.out.2.2.2.1.lt
        have fc9:w1.cell? ⟨B3,1,none⟩ = some (.int .i64 c1):=HS5.out.2.2.2.1.cell 1
        have fc10:=HS5.out.2.2.2.1.frozen 1
        have fc11:w1.cell? ⟨B4,0,none⟩ = some (.int .i64 0):=HS5.out.2.2.2.2.cell 0
        have fc12:=HS5.out.2.2.2.2.frozen 0
        have fc13:=HS5.out.2.2.2.2.lt
        have fc14:w1.cell? ⟨B4,1,none⟩ = some (.int .i64 0):=HS5.out.2.2.2.2.cell 1
        have fc15:=HS5.out.2.2.2.2.frozen 1
        have fc16:w1.cell? ⟨B4,2,none⟩ = some (.int .i64 0):=HS5.out.2.2.2.2.cell 2
        have fc17:=HS5.out.2.2.2.2.frozen 2
        have fc18:w1.cell? ⟨B4,3,none⟩ = some (.int .i64 0):=HS5.out.2.2.2.2.cell 3
        have fc19:=HS5.out.2.2.2.2.frozen 3
        have fc20:¬ B2 = B3:=fun e => by have e:B2 = B3:=e; have:=HNB3.out; omega
        have fc21:¬ B2 = B4:=fun e => by have e:B2 = B4:=e; have:=HNB4.out; omega
        have fc22:¬ B3 = B2:=fun e => by have e:B3 = B2:=e; have:=HNB3.out; omega
        have fc23:¬ B3 = B4:=fun e => by have e:B3 = B4:=e; have:=HNB4.out; omega
        have fc24:¬ B4 = B2:=fun e => by have e:B4 = B2:=e; have:=HNB4.out; omega
        have fc25:¬ B4 = B3:=fun e => by have e:B4 = B3:=e; have:=HNB4.out; omega
        go_wp2_with fail
        try rw [← hW6]
        clear fc1 fc2 fc3 fc4 fc5 fc6 fc7 fc8 fc9 fc10 fc11 fc12 fc13 fc14 fc15 fc16 fc17 fc18 fc19 fc20 fc21 fc22 fc23 fc24 fc25 hW6
        have r0B4:=HS6.out.2.2.2.2.cell 0
        have r1B4:=HS6.out.2.2.2.2.cell 1
        have r2B4:=HS6.out.2.2.2.2.cell 2
        have r3B4:=HS6.out.2.2.2.2.cell 3
        refine bodyPost_ret (v:=.agg #[.int .i64 a1,.int .i64 c2,.int .i64 (a2 - a1 + 1),.int .i64 (c1 - c2 + 1)]) (by simp [results,Tryz.results12,go_sem, *]) rfl ?_
        exact ⟨by rw [HEQ.out],HS6.out.1⟩
    · have hd2:decide (c2 < c1) = false:=decide_eq_false hc
      have fc1:wr2.cell? ⟨B3,0,none⟩ = some (.int .i64 a2):=HS3.out.2.2.2.1.cell 0
      have fc2:wr2.cell? ⟨B2,0,none⟩ = some (.int .i64 a1):=HS3.out.2.2.1.cell 0
      have fc3:wr2.cell? ⟨B3,1,none⟩ = some (.int .i64 c2):=HS3.out.2.2.2.1.cell 1
      have fc4:wr2.cell? ⟨B2,1,none⟩ = some (.int .i64 c1):=HS3.out.2.2.1.cell 1
      go_wp2_with fail
      clear fc1 fc2 fc3 fc4
      refine (HBR.out wr2).mono ?_
      rintro en w1 ⟨rfl,hf1⟩
      have HS5:Hid (Fr [] w w1 ∧ Blk w1 B1 35 #[.slice zB zm zd,.bool zt,.int .i64 ze] ∧ Blk w1 B2 24 #[.int .i64 a1,.int .i64 c1] ∧ Blk w1 B3 24 #[.int .i64 a2,.int .i64 c2] ∧ Blk w1 B4 45 #[.int .i64 0,.int .i64 0,.int .i64 0,.int .i64 0]):=⟨HS3.out.1.trans hf1,HS3.out.2.1.fr hf1 (by simp),HS3.out.2.2.1.fr hf1 (by simp),HS3.out.2.2.2.1.fr hf1 (by simp),HS3.out.2.2.2.2.fr hf1 (by simp)⟩
      clear hf1
      cases rb with
      | true =>
        have hh:=HB.out
        have hw1:IntKind.i64.wrap (a2 - a1) = a2 - a1:=IntWalk.i64_in _ (by omega)
        have hw2:IntKind.i64.wrap (a2 - a1 + 1) = a2 - a1 + 1:=IntWalk.i64_in _ (by omega)
        have hw3:IntKind.i64.wrap (c2 - c1) = c2 - c1:=IntWalk.i64_in _ (by omega)
        have hw4:IntKind.i64.wrap (c2 - c1 + 1) = c2 - c1 + 1:=IntWalk.i64_in _ (by omega)
        have HEQ:Hid (areaV true a1 c1 a2 c2 m = #[.int .i64 a1,.int .i64 0,.int .i64 (a2 - a1 + 1),.int .i64 (m:Nat)]):=by
          show _ = _
          unfold areaV
          simp only [cond_true,cond_false]
          rw [show min a1 a2 = a1 by omega,show max a1 a2 = a2 by omega]
        clear hh
        go_wp2_with fail
        have HC7:Hid (∀ w',Fr [] w1 w' → (w'.cell? ⟨B2,0,none⟩ = some (.int .i64 a1) ∧ w'.cell? ⟨B2,1,none⟩ = some (.int .i64 c1)) ∧ (w'.cell? ⟨B3,0,none⟩ = some (.int .i64 a2) ∧ w'.cell? ⟨B3,1,none⟩ = some (.int .i64 c2)) ∧ (w'.cell? ⟨B1,0,none⟩ = some (.slice zB zm zd) ∧ w'.cell? ⟨B1,1,none⟩ = some (.bool zt) ∧ w'.cell? ⟨B1,2,none⟩ = some (.int .i64 ze)) ∧ (w'.cell? ⟨B4,0,none⟩ = some (.int .i64 0) ∧ w'.frozen? ⟨B4,0,none⟩ = false ∧ w'.cell? ⟨B4,1,none⟩ = some (.int .i64 0) ∧ w'.frozen? ⟨B4,1,none⟩ = false ∧ w'.cell? ⟨B4,2,none⟩ = some (.int .i64 0) ∧ w'.frozen? ⟨B4,2,none⟩ = false ∧ w'.cell? ⟨B4,3,none⟩ = some (.int .i64 0) ∧ w'.frozen? ⟨B4,3,none⟩ = false ∧ B4 < w'.heap.size)):=by
          show ∀ _,_
          intro w' hf
          have h0:=HS5.out.2.2.1.fr hf (by simp)
          have h1:=HS5.out.2.2.2.1.fr hf (by simp)
          have h2:=HS5.out.2.1.fr hf (by simp)
          have h3:=HS5.out.2.2.2.2.fr hf (by simp)
          exact ⟨⟨h0.cell 0,h0.cell 1⟩,⟨h1.cell 0,h1.cell 1⟩,⟨h2.cell 0,h2.cell 1,h2.cell 2⟩,⟨h3.cell 0,h3.frozen 0,h3.cell 1,h3.frozen 1,h3.cell 2,h3.frozen 2,h3.cell 3,h3.frozen 3,h3.lt⟩⟩
        obtain ⟨F,hF⟩:∃ F:World → Nat → Value → Prop,F = (fun (w:World) (i:Nat) (v:Value) => match i with | 0 => v = .pointer (some ⟨B2,0,none⟩) | 1 => v = .int .i64 a1 | 2 => v = .pointer (some ⟨B3,0,none⟩) | 3 => v = .int .i64 a2 | 4 => v = .pointer (some ⟨B2,0,none⟩) | 5 => v = .int .i64 a1 | 6 => v = .int .i64 (a2 - a1) | 7 => v = .int .i64 (a2 - a1 + 1) | 8 => v = .agg #[.slice zB zm zd,.bool zt,.int .i64 ze] | 9 => v = .int .i64 (m:Nat) | 10 => v = .agg #[.int .i64 a1,.int .i64 0,.int .i64 (a2 - a1 + 1),.int .i64 (m:Nat)] | _ => True):=⟨_,rfl⟩
        obtain ⟨G,hG⟩:∃ G:(Nat → Value) → World → Prop,G = (fun u w => ∃ wq,Fr [] w1 wq ∧ w = ((((wq.setCell ⟨B4,0,none⟩ (.int .i64 a1)).setCell ⟨B4,1,none⟩ (.int .i64 0)).setCell ⟨B4,2,none⟩ (.int .i64 (a2 - a1 + 1))).setCell ⟨B4,3,none⟩ (.int .i64 (m:Nat)))):=⟨_,rfl⟩
        have HM:Hid (∀ w1 w2:World,Fr [] w1 w2 → ∀ j x,F w1 j x → F w2 j x):=by
          show ∀ _,_
          intro w1 w2 hf j x h
          subst hF
          match j,h with
          | 0,h => exact h
          | 1,h => exact h
          | 2,h => exact h
          | 3,h => exact h
          | 4,h => exact h
          | 5,h => exact h
          | 6,h => exact h
          | 7,h => exact h
          | 8,h => exact h
          | 9,h => exact h
          | 10,h => exact h
          | n + 11,h => trivial
        have HFG:=Lib.hid (And.intro hF hG)
        clear hF hG
        refine wp_region_invc (by kernel_rfl) (fun f a w' => ∃ u:Nat → Value,a = { tmps:=#[.agg #[.slice zB zm zd,.bool zt,.int .i64 ze],.agg #[.int .i64 pr,.int .i64 pc],.agg #[.int .i64 qr,.int .i64 qc],.int .i64 v,.pointer (some ⟨B1,0,none⟩),.pointer (some ⟨B2,0,none⟩),.pointer (some ⟨B3,0,none⟩),undef,.pointer (some ⟨B4,0,none⟩),undef,undef,.pointer (some ⟨B1,0,none⟩),.slice zB zm zd,.int .i64 (zm:Nat),.bool false,undef,.agg #[.slice zB zm zd,.bool zt,.int .i64 ze],.agg #[.int .i64 pr,.int .i64 pc],.agg #[.int .i64 a1,.int .i64 c1],.agg #[.slice zB zm zd,.bool zt,.int .i64 ze],.agg #[.int .i64 qr,.int .i64 qc],.agg #[.int .i64 a2,.int .i64 c2],.pointer (some ⟨B3,0,none⟩),.int .i64 a2,.pointer (some ⟨B2,0,none⟩),.int .i64 a1,.bool false,undef,undef,undef,undef,undef,undef,undef,.pointer (some ⟨B3,1,none⟩),.int .i64 c2,.pointer (some ⟨B2,1,none⟩),.int .i64 c1,.bool false,undef,undef,undef,undef,undef,undef,undef,.int .i64 v,.bool true,u 0,u 1,u 2,u 3,u 4,u 5,u 6,u 7,u 8,u 9,u 10,undef,undef,undef,undef,undef,undef,undef,undef,undef,undef,undef,undef,undef,undef,undef,undef,undef],defers:=[] } ∧ Hid (RInv F G w1 11 f u w')) (by kernel_rfl) ?_ ?_ ?_
        · exact ⟨fun _ => undef,rfl,RInv.start _⟩
        · simp only [EachOp]
          refine ⟨?_,?_,?_,?_,?_,?_,?_,?_,?_,?_,?_,?_,trivial⟩
          all_goals rintro f a w' hfi hdep hcl ⟨u,rfl,HI⟩ K hK
          · have hL:f 11 = false:=by
              cases g11:f 11 with
              | false => rfl
              | true =>
                have g0:=hcl 11 _ rfl g11 ⟨0,.phase⟩ (by simp) rfl
                exact Bool.noConfusion (g0.symm.trans hfi)
            go_simp
            exact hK _ _ ⟨updU u 0 (.pointer (some ⟨B2,0,none⟩)),rfl,HI.out.val hL (by decide) (by rw [HFG.out.1]; exact rfl)⟩
          · have hL:f 11 = false:=by
              cases g11:f 11 with
              | false => rfl
              | true =>
                have g1:=hcl 11 _ rfl g11 ⟨1,.phase⟩ (by simp) rfl
                exact Bool.noConfusion (g1.symm.trans hfi)
            have e0:u 0 = .pointer (some ⟨B2,0,none⟩):=HI.out.get HFG.out.1 hL (i:=0) (hdep ⟨0,.data⟩ (by simp) rfl)
            obtain ⟨⟨q1_0,q1_1⟩,⟨q2_0,q2_1⟩,⟨q3_0,q3_1,q3_2⟩,⟨q4_0,q4_1,q4_2,q4_3,q4_4,q4_5,q4_6,q4_7,q4_8⟩⟩:=HC7.out w' (HI.out.a hL).1
            go_simp
            exact hK _ _ ⟨updU u 1 (.int .i64 a1),(by simp [updU,e0] <;> (repeat' apply And.intro) <;> rfl),HI.out.val hL (by decide) (by rw [HFG.out.1]; exact rfl)⟩
          · have hL:f 11 = false:=by
              cases g11:f 11 with
              | false => rfl
              | true =>
                have g2:=hcl 11 _ rfl g11 ⟨2,.phase⟩ (by simp) rfl
                exact Bool.noConfusion (g2.symm.trans hfi)
            go_simp
            exact hK _ _ ⟨updU u 2 (.pointer (some ⟨B3,0,none⟩)),rfl,HI.out.val hL (by decide) (by rw [HFG.out.1]; exact rfl)⟩
          · have hL:f 11 = false:=by
              cases g11:f 11 with
              | false => rfl
              | true =>
                have g3:=hcl 11 _ rfl g11 ⟨3,.phase⟩ (by simp) rfl
                exact Bool.noConfusion (g3.symm.trans hfi)
            have e2:u 2 = .pointer (some ⟨B3,0,none⟩):=HI.out.get HFG.out.1 hL (i:=2) (hdep ⟨2,.data⟩ (by simp) rfl)
            obtain ⟨⟨q1_0,q1_1⟩,⟨q2_0,q2_1⟩,⟨q3_0,q3_1,q3_2⟩,⟨q4_0,q4_1,q4_2,q4_3,q4_4,q4_5,q4_6,q4_7,q4_8⟩⟩:=HC7.out w' (HI.out.a hL).1
            go_simp
            exact hK _ _ ⟨updU u 3 (.int .i64 a2),(by simp [updU,e2] <;> (repeat' apply And.intro) <;> rfl),HI.out.val hL (by decide) (by rw [HFG.out.1]; exact rfl)⟩
          · have hL:f 11 = false:=by
              cases g11:f 11 with
              | false => rfl
              | true =>
                have g4:=hcl 11 _ rfl g11 ⟨4,.phase⟩ (by simp) rfl
                exact Bool.noConfusion (g4.symm.trans hfi)
            go_simp
            exact hK _ _ ⟨updU u 4 (.pointer (some ⟨B2,0,none⟩)),rfl,HI.out.val hL (by decide) (by rw [HFG.out.1]; exact rfl)⟩
          · have hL:f 11 = false:=by
              cases g11:f 11 with
              | false => rfl
              | true =>
                have g5:=hcl 11 _ rfl g11 ⟨5,.phase⟩ (by simp) rfl
                exact Bool.noConfusion (g5.symm.trans hfi)
            have e4:u 4 = .pointer (some ⟨B2,0,none⟩):=HI.out.get HFG.out.1 hL (i:=4) (hdep ⟨4,.data⟩ (by simp) rfl)
            obtain ⟨⟨q1_0,q1_1⟩,⟨q2_0,q2_1⟩,⟨q3_0,q3_1,q3_2⟩,⟨q4_0,q4_1,q4_2,q4_3,q4_4,q4_5,q4_6,q4_7,q4_8⟩⟩:=HC7.out w' (HI.out.a hL).1
            go_simp
            exact hK _ _ ⟨updU u 5 (.int .i64 a1),(by simp [updU,e4] <;> (repeat' apply And.intro) <;> rfl),HI.out.val hL (by decide) (by rw [HFG.out.1]; exact rfl)⟩
          · have hL:f 11 = false:=by
              cases g11:f 11 with
              | false => rfl
              | true =>
                have g6:=hcl 11 _ rfl g11 ⟨6,.phase⟩ (by simp) rfl
                exact Bool.noConfusion (g6.symm.trans hfi)
            have e3:u 3 = .int .i64 a2:=HI.out.get HFG.out.1 hL (i:=3) (hdep ⟨3,.data⟩ (by simp) rfl)
            have e5:u 5 = .int .i64 a1:=HI.out.get HFG.out.1 hL (i:=5) (hdep ⟨5,.data⟩ (by simp) rfl)
            go_simp
            exact hK _ _ ⟨updU u 6 (.int .i64 (a2 - a1)),(by simp [updU,e3,e5] <;> (repeat' apply And.intro) <;> rfl),HI.out.val hL (by decide) (by rw [HFG.out.1]; exact rfl)⟩
          · have hL:f 11 = false:=by
              cases g11:f 11 with
              | false => rfl
              | true =>
                have g7:=hcl 11 _ rfl g11 ⟨7,.phase⟩ (by simp) rfl
                exact Bool.noConfusion (g7.symm.trans hfi)
            have e6:u 6 = .int .i64 (a2 - a1):=HI.out.get HFG.out.1 hL (i:=6) (hdep ⟨6,.data⟩ (by simp) rfl)
            go_simp
            exact hK _ _ ⟨updU u 7 (.int .i64 (a2 - a1 + 1)),(by simp [updU,e6] <;> (repeat' apply And.intro) <;> rfl),HI.out.val hL (by decide) (by rw [HFG.out.1]; exact rfl)⟩
          · have hL:f 11 = false:=by
              cases g11:f 11 with
              | false => rfl
              | true =>
                have g8:=hcl 11 _ rfl g11 ⟨8,.phase⟩ (by simp) rfl
                exact Bool.noConfusion (g8.symm.trans hfi)
            obtain ⟨⟨q1_0,q1_1⟩,⟨q2_0,q2_1⟩,⟨q3_0,q3_1,q3_2⟩,⟨q4_0,q4_1,q4_2,q4_3,q4_4,q4_5,q4_6,q4_7,q4_8⟩⟩:=HC7.out w' (HI.out.a hL).1
            go_simp
            exact hK _ _ ⟨updU u 8 (.agg #[.slice zB zm zd,.bool zt,.int .i64 ze]),rfl,HI.out.val hL (by decide) (by rw [HFG.out.1]; exact rfl)⟩
          · have hL:f 11 = false:=by
              cases g11:f 11 with
              | false => rfl
              | true =>
                have g9:=hcl 11 _ rfl g11 ⟨9,.chain⟩ (by simp) rfl
                exact Bool.noConfusion (g9.symm.trans hfi)
            have e8:u 8 = .agg #[.slice zB zm zd,.bool zt,.int .i64 ze]:=HI.out.get HFG.out.1 hL (i:=8) (hdep ⟨8,.data⟩ (by simp) rfl)
            refine step_call _ (by rfl) 33 #[.agg #[.slice zB zm zd,.bool zt,.int .i64 ze]] (by go_simp) _ (HWD.out w' (HS5.out.1.trans (HI.out.a hL).1)) (by rintro e w' ⟨he,_⟩; exact ⟨_,he⟩) ?_
            rintro v4 w4 ⟨hv4,hf4⟩
            injection hv4 with hv4
            subst hv4
            try go_simp
            exact hK _ _ ⟨updU u 9 (.int .i64 (m:Nat)),(by simp [updU,e8] <;> (repeat' apply And.intro) <;> rfl),HI.out.call hL (by decide) (HM.out _ _ hf4) hf4 (by rw [HFG.out.1]; exact rfl)⟩
          · have hL:f 11 = false:=by
              cases g11:f 11 with
              | false => rfl
              | true =>
                have g10:=hcl 11 _ rfl g11 ⟨10,.data⟩ (by simp) rfl
                exact Bool.noConfusion (g10.symm.trans hfi)
            have e1:u 1 = .int .i64 a1:=HI.out.get HFG.out.1 hL (i:=1) (hdep ⟨1,.data⟩ (by simp) rfl)
            have e7:u 7 = .int .i64 (a2 - a1 + 1):=HI.out.get HFG.out.1 hL (i:=7) (hdep ⟨7,.data⟩ (by simp) rfl)
            have e9:u 9 = .int .i64 (m:Nat):=HI.out.get HFG.out.1 hL (i:=9) (hdep ⟨9,.data⟩ (by simp) rfl)
            go_simp
            exact hK _ _ ⟨updU u 10 (.agg #[.int .i64 a1,.int .i64 0,.int .i64 (a2 - a1 + 1),.int .i64 (m:Nat)]),(by simp [updU,e1,e7,e9] <;> (repeat' apply And.intro) <;> rfl),HI.out.val hL (by decide) (by rw [HFG.out.1]; exact rfl)⟩
          · have hL:f 11 = false:=hfi
            have e10:u 10 = .agg #[.int .i64 a1,.int .i64 0,.int .i64 (a2 - a1 + 1),.int .i64 (m:Nat)]:=HI.out.get HFG.out.1 hL (i:=10) (hdep ⟨10,.data⟩ (by simp) rfl)
            obtain ⟨⟨q1_0,q1_1⟩,⟨q2_0,q2_1⟩,⟨q3_0,q3_1,q3_2⟩,⟨q4_0,q4_1,q4_2,q4_3,q4_4,q4_5,q4_6,q4_7,q4_8⟩⟩:=HC7.out w' (HI.out.a hL).1
            go_simp
            refine hK _ _ ⟨u,(by first | rfl | (simp [e10] <;> rfl)),RInv.last ?_⟩
            rw [HFG.out.2]
            exact ⟨w',(HI.out.a hL).1,rfl⟩
        rintro f a wr7 hall ⟨u7,rfl,HI⟩
        have hG:=HI.out.b (hall 11 (by decide))
        rw [HFG.out.2] at hG
        obtain ⟨wr7a,hfwr7,hw1⟩:=hG
        subst hw1
        have HS8:Hid (Fr [] w wr7a ∧ Blk wr7a B1 35 #[.slice zB zm zd,.bool zt,.int .i64 ze] ∧ Blk wr7a B2 24 #[.int .i64 a1,.int .i64 c1] ∧ Blk wr7a B3 24 #[.int .i64 a2,.int .i64 c2] ∧ Blk wr7a B4 45 #[.int .i64 0,.int .i64 0,.int .i64 0,.int .i64 0]):=⟨HS5.out.1.trans hfwr7,HS5.out.2.1.fr hfwr7 (by simp),HS5.out.2.2.1.fr hfwr7 (by simp),HS5.out.2.2.2.1.fr hfwr7 (by simp),HS5.out.2.2.2.2.fr hfwr7 (by simp)⟩
        clear hfwr7 HI hall HFG HM HC7
        obtain ⟨W9,hW9⟩:∃ Wx,Wx = ((((wr7a.setCell ⟨B4,0,none⟩ (.int .i64 a1)).setCell ⟨B4,1,none⟩ (.int .i64 0)).setCell ⟨B4,2,none⟩ (.int .i64 (a2 - a1 + 1))).setCell ⟨B4,3,none⟩ (.int .i64 (m:Nat))):=⟨_,rfl⟩
        have HS9:Hid (Fr [] w W9 ∧ Blk W9 B1 35 #[.slice zB zm zd,.bool zt,.int .i64 ze] ∧ Blk W9 B2 24 #[.int .i64 a1,.int .i64 c1] ∧ Blk W9 B3 24 #[.int .i64 a2,.int .i64 c2] ∧ Blk W9 B4 45 #[.int .i64 a1,.int .i64 0,.int .i64 (a2 - a1 + 1),.int .i64 (m:Nat)]):=by
          have mB1:=HS8.out.2.1
          replace mB1:=mB1.far (p:=⟨B4,0,none⟩) (fun e => by have e:B1 = B4:=e; have:=HNB4.out; omega) (.int .i64 a1)
          replace mB1:=mB1.far (p:=⟨B4,1,none⟩) (fun e => by have e:B1 = B4:=e; have:=HNB4.out; omega) (.int .i64 0)
          replace mB1:=mB1.far (p:=⟨B4,2,none⟩) (fun e => by have e:B1 = B4:=e; have:=HNB4.out; omega) (.int .i64 (a2 - a1 + 1))
          replace mB1:=mB1.far (p:=⟨B4,3,none⟩) (fun e => by have e:B1 = B4:=e; have:=HNB4.out; omega) (.int .i64 (m:Nat))
          have mB2:=HS8.out.2.2.1
          replace mB2:=mB2.far (p:=⟨B4,0,none⟩) (fun e => by have e:B2 = B4:=e; have:=HNB4.out; omega) (.int .i64 a1)
          replace mB2:=mB2.far (p:=⟨B4,1,none⟩) (fun e => by have e:B2 = B4:=e; have:=HNB4.out; omega) (.int .i64 0)
          replace mB2:=mB2.far (p:=⟨B4,2,none⟩) (fun e => by have e:B2 = B4:=e; have:=HNB4.out; omega) (.int .i64 (a2 - a1 + 1))
          replace mB2:=mB2.far (p:=⟨B4,3,none⟩) (fun e => by have e:B2 = B4:=e; have:=HNB4.out; omega) (.int .i64 (m:Nat))
          have mB3:=HS8.out.2.2.2.1
          replace mB3:=mB3.far (p:=⟨B4,0,none⟩) (fun e => by have e:B3 = B4:=e; have:=HNB4.out; omega) (.int .i64 a1)
          replace mB3:=mB3.far (p:=⟨B4,1,none⟩) (fun e => by have e:B3 = B4:=e; have:=HNB4.out; omega) (.int .i64 0)
          replace mB3:=mB3.far (p:=⟨B4,2,none⟩) (fun e => by have e:B3 = B4:=e; have:=HNB4.out; omega) (.int .i64 (a2 - a1 + 1))
          replace mB3:=mB3.far (p:=⟨B4,3,none⟩) (fun e => by have e:B3 = B4:=e; have:=HNB4.out; omega) (.int .i64 (m:Nat))
          have mB4:=HS8.out.2.2.2.2
          replace mB4:Blk (wr7a.setCell ⟨B4,0,none⟩ (.int .i64 a1)) B4 45 #[.int .i64 a1,.int .i64 0,.int .i64 0,.int .i64 0]:=by simpa using mB4.set_ 0 (.int .i64 a1)
          replace mB4:Blk ((wr7a.setCell ⟨B4,0,none⟩ (.int .i64 a1)).setCell ⟨B4,1,none⟩ (.int .i64 0)) B4 45 #[.int .i64 a1,.int .i64 0,.int .i64 0,.int .i64 0]:=by simpa using mB4.set_ 1 (.int .i64 0)
          replace mB4:Blk (((wr7a.setCell ⟨B4,0,none⟩ (.int .i64 a1)).setCell ⟨B4,1,none⟩ (.int .i64 0)).setCell ⟨B4,2,none⟩ (.int .i64 (a2 - a1 + 1))) B4 45 #[.int .i64 a1,.int .i64 0,.int .i64 (a2 - a1 + 1),.int .i64 0]:=by simpa using mB4.set_ 2 (.int .i64 (a2 - a1 + 1))
          replace mB4:Blk ((((wr7a.setCell ⟨B4,0,none⟩ (.int .i64 a1)).setCell ⟨B4,1,none⟩ (.int .i64 0)).setCell ⟨B4,2,none⟩ (.int .i64 (a2 - a1 + 1))).setCell ⟨B4,3,none⟩ (.int .i64 (m:Nat))) B4 45 #[.int .i64 a1,.int .i64 0,.int .i64 (a2 - a1 + 1),.int .i64 (m:Nat)]:=by simpa using mB4.set_ 3 (.int .i64 (m:Nat))
          rw [hW9]
          exact ⟨((((HS8.out.1.setB (fun h => absurd h (by have:=HNB4.out; omega)) _ _).setB (fun h => absurd h (by have:=HNB4.out; omega)) _ _).setB (fun h => absurd h (by have:=HNB4.out; omega)) _ _).setB (fun h => absurd h (by have:=HNB4.out; omega)) _ _),mB1,mB2,mB3,mB4⟩
        skip
        try rw [← hW9]
        clear hW9
        have fc1:W9.cell? ⟨B4,0,none⟩ = some (.int .i64 a1):=HS9.out.2.2.2.2.cell 0
        have fc2:W9.cell? ⟨B4,1,none⟩ = some (.int .i64 0):=HS9.out.2.2.2.2.cell 1
        have fc3:W9.cell? ⟨B4,2,none⟩ = some (.int .i64 (a2 - a1 + 1)):=HS9.out.2.2.2.2.cell 2
        have fc4:W9.cell? ⟨B4,3,none⟩ = some (.int .i64 (m:Nat)):=HS9.out.2.2.2.2.cell 3
        go_wp2_with fail
        clear fc1 fc2 fc3 fc4
        have r0B4:=HS9.out.2.2.2.2.cell 0
        have r1B4:=HS9.out.2.2.2.2.cell 1
        have r2B4:=HS9.out.2.2.2.2.cell 2
        have r3B4:=HS9.out.2.2.2.2.cell 3
        refine bodyPost_ret (v:=.agg #[.int .i64 a1,.int .i64 0,.int .i64 (a2 - a1 + 1),.int .i64 (m:Nat)]) (by simp [results,Tryz.results12,go_sem, *]) rfl ?_
        exact ⟨by rw [HEQ.out],HS9.out.1⟩
      | false =>
        have hh:=HB.out
        have hw1:IntKind.i64.wrap (a2 - a1) = a2 - a1:=IntWalk.i64_in _ (by omega)
        have hw2:IntKind.i64.wrap (a2 - a1 + 1) = a2 - a1 + 1:=IntWalk.i64_in _ (by omega)
        have hw3:IntKind.i64.wrap (c2 - c1) = c2 - c1:=IntWalk.i64_in _ (by omega)
        have hw4:IntKind.i64.wrap (c2 - c1 + 1) = c2 - c1 + 1:=IntWalk.i64_in _ (by omega)
        have HEQ:Hid (areaV false a1 c1 a2 c2 m = #[.int .i64 a1,.int .i64 c1,.int .i64 (a2 - a1 + 1),.int .i64 (c2 - c1 + 1)]):=by
          show _ = _
          unfold areaV
          simp only [cond_true,cond_false]
          rw [show min a1 a2 = a1 by omega,show max a1 a2 = a2 by omega,show min c1 c2 = c1 by omega,show max c1 c2 = c2 by omega]
        clear hh
        obtain ⟨W6,hW6⟩:∃ Wx,Wx = ((((w1.setCell ⟨B4,0,none⟩ (.int .i64 a1)).setCell ⟨B4,1,none⟩ (.int .i64 c1)).setCell ⟨B4,2,none⟩ (.int .i64 (a2 - a1 + 1))).setCell ⟨B4,3,none⟩ (.int .i64 (c2 - c1 + 1))):=⟨_,rfl⟩
        have HS6:Hid (Fr [] w W6 ∧ Blk W6 B1 35 #[.slice zB zm zd,.bool zt,.int .i64 ze] ∧ Blk W6 B2 24 #[.int .i64 a1,.int .i64 c1] ∧ Blk W6 B3 24 #[.int .i64 a2,.int .i64 c2] ∧ Blk W6 B4 45 #[.int .i64 a1,.int .i64 c1,.int .i64 (a2 - a1 + 1),.int .i64 (c2 - c1 + 1)]):=by
          have mB1:=HS5.out.2.1
          replace mB1:=mB1.far (p:=⟨B4,0,none⟩) (fun e => by have e:B1 = B4:=e; have:=HNB4.out; omega) (.int .i64 a1)
          replace mB1:=mB1.far (p:=⟨B4,1,none⟩) (fun e => by have e:B1 = B4:=e; have:=HNB4.out; omega) (.int .i64 c1)
          replace mB1:=mB1.far (p:=⟨B4,2,none⟩) (fun e => by have e:B1 = B4:=e; have:=HNB4.out; omega) (.int .i64 (a2 - a1 + 1))
          replace mB1:=mB1.far (p:=⟨B4,3,none⟩) (fun e => by have e:B1 = B4:=e; have:=HNB4.out; omega) (.int .i64 (c2 - c1 + 1))
          have mB2:=HS5.out.2.2.1
          replace mB2:=mB2.far (p:=⟨B4,0,none⟩) (fun e => by have e:B2 = B4:=e; have:=HNB4.out; omega) (.int .i64 a1)
          replace mB2:=mB2.far (p:=⟨B4,1,none⟩) (fun e => by have e:B2 = B4:=e; have:=HNB4.out; omega) (.int .i64 c1)
          replace mB2:=mB2.far (p:=⟨B4,2,none⟩) (fun e => by have e:B2 = B4:=e; have:=HNB4.out; omega) (.int .i64 (a2 - a1 + 1))
          replace mB2:=mB2.far (p:=⟨B4,3,none⟩) (fun e => by have e:B2 = B4:=e; have:=HNB4.out; omega) (.int .i64 (c2 - c1 + 1))
          have mB3:=HS5.out.2.2.2.1
          replace mB3:=mB3.far (p:=⟨B4,0,none⟩) (fun e => by have e:B3 = B4:=e; have:=HNB4.out; omega) (.int .i64 a1)
          replace mB3:=mB3.far (p:=⟨B4,1,none⟩) (fun e => by have e:B3 = B4:=e; have:=HNB4.out; omega) (.int .i64 c1)
          replace mB3:=mB3.far (p:=⟨B4,2,none⟩) (fun e => by have e:B3 = B4:=e; have:=HNB4.out; omega) (.int .i64 (a2 - a1 + 1))
          replace mB3:=mB3.far (p:=⟨B4,3,none⟩) (fun e => by have e:B3 = B4:=e; have:=HNB4.out; omega) (.int .i64 (c2 - c1 + 1))
          have mB4:=HS5.out.2.2.2.2
          replace mB4:Blk (w1.setCell ⟨B4,0,none⟩ (.int .i64 a1)) B4 45 #[.int .i64 a1,.int .i64 0,.int .i64 0,.int .i64 0]:=by simpa using mB4.set_ 0 (.int .i64 a1)
          replace mB4:Blk ((w1.setCell ⟨B4,0,none⟩ (.int .i64 a1)).setCell ⟨B4,1,none⟩ (.int .i64 c1)) B4 45 #[.int .i64 a1,.int .i64 c1,.int .i64 0,.int .i64 0]:=by simpa using mB4.set_ 1 (.int .i64 c1)
          replace mB4:Blk (((w1.setCell ⟨B4,0,none⟩ (.int .i64 a1)).setCell ⟨B4,1,none⟩ (.int .i64 c1)).setCell ⟨B4,2,none⟩ (.int .i64 (a2 - a1 + 1))) B4 45 #[.int .i64 a1,.int .i64 c1,.int .i64 (a2 - a1 + 1),.int .i64 0]:=by simpa using mB4.set_ 2 (.int .i64 (a2 - a1 + 1))
          replace mB4:Blk ((((w1.setCell ⟨B4,0,none⟩ (.int .i64 a1)).setCell ⟨B4,1,none⟩ (.int .i64 c1)).setCell ⟨B4,2,none⟩ (.int .i64 (a2 - a1 + 1))).setCell ⟨B4,3,none⟩ (.int .i64 (c2 - c1 + 1))) B4 45 #[.int .i64 a1,.int .i64 c1,.int .i64 (a2 - a1 + 1),.int .i64 (c2 - c1 + 1)]:=by simpa using mB4.set_ 3 (.int .i64 (c2 - c1 + 1))
          rw [hW6]
          exact ⟨((((HS5.out.1.setB (fun h => absurd h (by have:=HNB4.out; omega)) _ _).setB (fun h => absurd h (by have:=HNB4.out; omega)) _ _).setB (fun h => absurd h (by have:=HNB4.out; omega)) _ _).setB (fun h => absurd h (by have:=HNB4.out; omega)) _ _),mB1,mB2,mB3,mB4⟩
        have fc1:w1.cell? ⟨B2,0,none⟩ = some (.int .i64 a1):=HS5.out.2.2.1.cell 0
        have fc2:=HS5.out.2.2.1.frozen 0
        have fc3:=HS5.out.2.2.1.lt
        have fc4:w1.cell? ⟨B2,1,none⟩ = some (.int .i64 c1):=HS5.out.2.2.1.cell 1
        have fc5:=HS5.out.2.2.1.frozen 1
        have fc6:w1.cell? ⟨B3,0,none⟩ = some (.int .i64 a2):=HS5.out.2.2.2.1.cell 0
        have fc7:=HS5.out.2.2.2.1.frozen 0
        have fc8:=HS5.out.2.2.2.1.lt
        have fc9:w1.cell? ⟨B3,1,none⟩ = some (.int .i64 c2):=HS5.out.2.2.2.1.cell 1
        have fc10:=HS5.out.2.2.2.1.frozen 1
        have fc11:w1.cell? ⟨B4,0,none⟩ = some (.int .i64 0):=HS5.out.2.2.2.2.cell 0
        have fc12:=HS5.out.2.2.2.2.frozen 0
        have fc13:=HS5.out.2.2.2.2.lt
        have fc14:w1.cell? ⟨B4,1,none⟩ = some (.int .i64 0):=HS5.out.2.2.2.2.cell 1
        have fc15:=HS5.out.2.2.2.2.frozen 1
        have fc16:w1.cell? ⟨B4,2,none⟩ = some (.int .i64 0):=HS5.out.2.2.2.2.cell 2
        have fc17:=HS5.out.2.2.2.2.frozen 2
        have fc18:w1.cell? ⟨B4,3,none⟩ = some (.int .i64 0):=HS5.out.2.2.2.2.cell 3
        have fc19:=HS5.out.2.2.2.2.frozen 3
        have fc20:¬ B2 = B3:=fun e => by have e:B2 = B3:=e; have:=HNB3.out; omega
        have fc21:¬ B2 = B4:=fun e => by have e:B2 = B4:=e; have:=HNB4.out; omega
        have fc22:¬ B3 = B2:=fun e => by have e:B3 = B2:=e; have:=HNB3.out; omega
        have fc23:¬ B3 = B4:=fun e => by have e:B3 = B4:=e; have:=HNB4.out; omega
        have fc24:¬ B4 = B2:=fun e => by have e:B4 = B2:=e; have:=HNB4.out; omega
        have fc25:¬ B4 = B3:=fun e => by have e:B4 = B3:=e; have:=HNB4.out; omega
        go_wp2_with fail
        try rw [← hW6]
        clear fc1 fc2 fc3 fc4 fc5 fc6 fc7 fc8 fc9 fc10 fc11 fc12 fc13 fc14 fc15 fc16 fc17 fc18 fc19 fc20 fc21 fc22 fc23 fc24 fc25 hW6
        have r0B4:=HS6.out.2.2.2.2.cell 0
        have r1B4:=HS6.out.2.2.2.2.cell 1
        have r2B4:=HS6.out.2.2.2.2.cell 2
        have r3B4:=HS6.out.2.2.2.2.cell 3
        refine bodyPost_ret (v:=.agg #[.int .i64 a1,.int .i64 c1,.int .i64 (a2 - a1 + 1),.int .i64 (c2 - c1 + 1)]) (by simp [results,Tryz.results12,go_sem, *]) rfl ?_
        exact ⟨by rw [HEQ.out],HS6.out.1⟩
end Go.Proofs.YteohomdiklkbfaaGreat
