import Derived.Test.YteohomdiklkbfaaGreatA40
import Derived.Test.YteohomdiklkbfaaGreatA29
namespace Go.Proofs.YteohomdiklkbfaaGreat
open Go.RowKit Go.Proofs.Dm

set_option maxHeartbeats 800000 in
theorem held_any (w:World) (n most r:Int) (h0:0 ≤ most) (h1:most ≤ 100000) (hr:r = max (min n (most - 1)) 0) :
    Calls Tryz.prog 60 #[.int .i64 n,.int .i64 most] w fun en w' => en = .returned (.int .i64 r) ∧ Fr [] w w':=by
  have HR:=Lib.hid hr
  by_cases c1:most ≤ n
  · have hw:IntKind.i64.wrap (most - 1) = most - 1:=IntWalk.i64_in _ (by omega)
    by_cases c2:most - 1 < 0
    · have HE:Hid (r = 0):=by show _ = _; omega
      clear hr h0 h1
      go_enter Tryz.func60,Tryz.ntmps60
      go_wp2_with fail
      go_ret
      exact ⟨by rw [HE.out]; rfl,Fr.refl _ _⟩
    · have HE:Hid (r = most - 1):=by show _ = _; omega
      clear hr h0 h1
      go_enter Tryz.func60,Tryz.ntmps60
      go_wp2_with fail
      go_ret
      exact ⟨by rw [HE.out]; rfl,Fr.refl _ _⟩
  · have d1:decide (most ≤ n) = false:=decide_eq_false c1
    by_cases c2:n < 0
    · have HE:Hid (r = 0):=by show _ = _; omega
      clear hr h0 h1
      go_enter Tryz.func60,Tryz.ntmps60
      go_wp2_with fail
      go_ret
      exact ⟨by rw [HE.out]; rfl,Fr.refl _ _⟩
    · have HE:Hid (r = n):=by show _ = _; omega
      clear hr h0 h1
      go_enter Tryz.func60,Tryz.ntmps60
      go_wp2_with fail
      go_ret
      exact ⟨by rw [HE.out]; rfl,Fr.refl _ _⟩
set_option maxHeartbeats 800000 in
theorem dshown_yes (w:World) (x:GD) (xs:List RV) (k:Nat) (b:Bool) (h:DGr x xs w) (hk:k < x.m) (hb:b = !hidAt xs k) :
    Calls Tryz.prog 61 #[.agg #[.slice x.B x.m x.d,.bool x.t,.int .i64 x.e],.int .i64 (k:Nat)] w fun en w' => en = .returned (.bool b) ∧ Fr [] w w':=by
  have hm:=h.n4
  obtain ⟨y,hy⟩:∃ y,x.rs[k]? = some y:=⟨x.rs[k]'(by have:=h.gd.2.1; omega),List.getElem?_eq_getElem _⟩
  have hyh:(!y.h) = b:=by rw [hb,(h.row k y hy).1]
  obtain ⟨bx,hB,e0,e1⟩:=sl_elem (f:=RD.cells) (sz:=3) (fun _ => rfl) h.gd.1 (j:=k) (by have:=h.gd.2.1; omega) (by omega)
  have hyl:x.rs[k]'(by have:=h.gd.2.1; omega) = y:=by rw [List.getElem?_eq_getElem (by have:=h.gd.2.1; omega)] at hy; injection hy
  rw [hyl] at e0 e1
  obtain ⟨A,n,c,ds,t,e⟩:=x
  simp only at hB hk hm hy ⊢
  subst hB
  obtain ⟨yB,ym,yd,ycs,ye,yh⟩:=y
  simp only at hyh
  subst hyh
  obtain ⟨W1,hW1⟩:∃ W1,W1 = w.alloc (.cells #[.slice (some bx) n c,.bool t,.int .i64 e] TD11):=⟨_,rfl⟩
  have HF:Hid (Fr [] w W1 ∧ Blk W1 w.heap.size TD11 #[.slice (some bx) n c,.bool t,.int .i64 e]):=by rw [hW1]; exact ⟨(Fr.refl [] w).alloc _,Blk.new ..⟩
  have HC:Hid (∀ w',Fr [] W1 w' → w'.cell? ⟨w.heap.size,0,none⟩ = some (.slice (some bx) n c) ∧ w'.cell? ⟨(bx.add (k * 3)).block,(bx.add (k * 3)).off + 2,none⟩ = some (.bool yh)):=by
    show ∀ _,_
    intro w' hf
    refine ⟨(HF.out.2.fr hf (by simp)).cell 0,?_⟩
    have c0:w.cell? ⟨(bx.add (k * 3)).block,(bx.add (k * 3)).off + 2,none⟩ = some (.bool yh):=e1 1 _ rfl
    rw [(HF.out.1.trans hf).cell (World.block_lt_of_cell? w _ c0) List.not_mem_nil]
    exact c0
  have x0:(0:Int) ≤ (k:Int):=by omega
  have x1:(k:Int) < (n:Int):=by omega
  have HHS:=Lib.hid (dhas_any W1 (some bx) n c t e (k:Nat))
  rw [decide_eq_true (⟨x0,x1⟩:(0:Int) ≤ (k:Int) ∧ (k:Int) < (n:Int))] at HHS
  have HW1:=Lib.hid hW1
  clear hW1 e0 e1 hy hyl h hk hb hm
  go_enter Tryz.func61,Tryz.ntmps61
  go_wp2_with fail
  rw [← HW1.out]
  refine HHS.out.mono ?_
  rintro en w2 ⟨rfl,hf2⟩
  obtain ⟨c0,c1⟩:=HC.out w2 hf2
  have HF2:=Lib.hid hf2
  clear hf2
  go_wp2_with fail
  go_ret
  exact ⟨rfl,HF.out.1.trans HF2.out⟩
set_option maxRecDepth 100000 in
set_option maxHeartbeats 1600000 in
theorem dsettle_any (w:World) (x:GD) (xs:List RV) (pr pc:Int) (R C:Nat) (h:DGr x xs w) (hs:Sett xs pr pc R C) (hw40:widthP xs ≤ 40) :
    Calls Tryz.prog 32 #[.agg #[.slice x.B x.m x.d,.bool x.t,.int .i64 x.e],.agg #[.int .i64 pr,.int .i64 pc]] w fun en w' => en = .returned (.agg #[.int .i64 (R:Nat),.int .i64 (C:Nat)]) ∧ Fr [] w w':=by
  obtain ⟨a,ha,hR⟩:=hs.row
  obtain ⟨W1,hW1⟩:∃ W1,W1 = ((w.alloc (.cells #[.slice x.B x.m x.d,.bool x.t,.int .i64 x.e] TD11)).alloc (.cells #[.int .i64 pr,.int .i64 pc] 24)).alloc (.cells #[.int .i64 0,.int .i64 0] 24):=⟨_,rfl⟩
  obtain ⟨GB,hGB⟩:∃ GB,GB = w.heap.size:=⟨_,rfl⟩
  obtain ⟨PB,hPB⟩:∃ PB,PB = w.heap.size + 1:=⟨_,rfl⟩
  obtain ⟨RB,hRB⟩:∃ RB,RB = w.heap.size + 1 + 1:=⟨_,rfl⟩
  have HF:Hid (Fr [] w W1 ∧ Blk W1 GB TD11 #[.slice x.B x.m x.d,.bool x.t,.int .i64 x.e] ∧ Blk W1 PB 24 #[.int .i64 pr,.int .i64 pc] ∧ Blk W1 RB 24 #[.int .i64 0,.int .i64 0]):=by
    have b1:=Blk.new (w.alloc (.cells #[.slice x.B x.m x.d,.bool x.t,.int .i64 x.e] TD11)) 24 #[.int .i64 pr,.int .i64 pc]
    have b3:=Blk.new ((w.alloc (.cells #[.slice x.B x.m x.d,.bool x.t,.int .i64 x.e] TD11)).alloc (.cells #[.int .i64 pr,.int .i64 pc] 24)) 24 #[.int .i64 0,.int .i64 0]
    rw [World.size_alloc,← hPB] at b1
    exact ⟨by rw [hW1]; exact (((Fr.refl [] w).alloc _).alloc _).alloc _,by rw [hW1,hGB]; exact ((Blk.new w _ _).alloc _).alloc _,by rw [hW1]; exact b1.alloc _,by rw [hRB,hW1]; simpa using b3⟩
  have HC:Hid (∀ w',Fr [] W1 w' → w'.cell? ⟨GB,0,none⟩ = some (.slice x.B x.m x.d) ∧ w'.cell? ⟨GB,1,none⟩ = some (.bool x.t) ∧ w'.cell? ⟨GB,2,none⟩ = some (.int .i64 x.e) ∧ w'.cell? ⟨PB,0,none⟩ = some (.int .i64 pr) ∧ w'.cell? ⟨PB,1,none⟩ = some (.int .i64 pc)):=by
    show ∀ _,_
    intro w' hf
    have h1:=HF.out.2.1.fr hf (by simp)
    have h2:=HF.out.2.2.1.fr hf (by simp)
    exact ⟨h1.cell 0,h1.cell 1,h1.cell 2,h2.cell 0,h2.cell 1⟩
  have HD:=Lib.hid (h.fr0 HF.out.1)
  have HH1:Hid (∀ w',Calls Tryz.prog 60 #[.int .i64 pr,.int .i64 (x.m:Nat)] w' fun en w'' => en = .returned (.int .i64 (a:Nat)) ∧ Fr [] w' w''):=by
    show ∀ _,_
    intro w'
    exact held_any w' pr x.m a (by omega) (by have:=h.n4; omega) (by rw [ha,h.len])
  have HH2:Hid (∀ w',Calls Tryz.prog 60 #[.int .i64 pc,.int .i64 (widthP xs:Nat)] w' fun en w'' => en = .returned (.int .i64 (C:Nat)) ∧ Fr [] w' w''):=by
    show ∀ _,_
    intro w'
    exact held_any w' pc (widthP xs:Nat) C (by omega) (by omega) hs.col
  have HWD:Hid (∀ w',Fr [] W1 w' → Calls Tryz.prog 33 #[.agg #[.slice x.B x.m x.d,.bool x.t,.int .i64 x.e]] w' fun en w'' => en = .returned (.int .i64 (widthP xs:Nat)) ∧ Fr [] w' w''):=by
    show ∀ _,_
    intro w' hf
    have h1:=dwidth_any w' x (HD.out.fr0 hf).gd (by have:=h.n4; omega) (fun r hr => by have:=h.r4 r hr; omega)
    rw [h.wid] at h1
    exact h1
  have HSH:Hid (∀ w' (k:Nat),Fr [] W1 w' → k < x.m → Calls Tryz.prog 61 #[.agg #[.slice x.B x.m x.d,.bool x.t,.int .i64 x.e],.int .i64 (k:Nat)] w' fun en w'' => en = .returned (.bool (!hidAt xs k)) ∧ Fr [] w' w''):=by
    show ∀ _,_
    intro w' k hf hk
    exact dshown_yes w' x xs k _ (HD.out.fr0 hf) hk rfl
  have HX:Hid (x.m = xs.length ∧ x.m ≤ 400 ∧ (a:Int) = max (min pr ((xs.length:Int) - 1)) 0 ∧ settP xs a (min (a + 1) xs.length) = (R:Nat)):=⟨h.len,h.n4,ha,hR⟩
  obtain ⟨xB,xm,xd,xrs,xt,xe⟩:=x
  simp only at HX HSH HWD HH1 HC hW1 HF
  have HW1:=Lib.hid hW1
  have HRB:Hid (RB = w.heap.size + 1 + 1):=hRB
  clear h hs ha hR hW1 HD hw40
  go_enter Tryz.func32,Tryz.ntmps32
  go_wp2_with fail
  rw [← HW1.out,← hRB,← hPB,← hGB]
  clear hGB hPB hRB
  obtain ⟨F,hF⟩:∃ F:World → Nat → Value → Prop,F = (fun (w:World) (i:Nat) (v:Value) => match i with | 0 => v = .pointer (some ⟨PB,0,none⟩) | 1 => v = .int .i64 pr | 2 => v = .pointer (some ⟨GB,0,none⟩) | 3 => v = .slice xB xm xd | 4 => v = .int .i64 (xm:Nat) | 5 => v = .int .i64 (a:Nat) | 6 => v = .pointer (some ⟨PB,1,none⟩) | 7 => v = .int .i64 pc | 8 => v = .agg #[.slice xB xm xd,.bool xt,.int .i64 xe] | 9 => v = .int .i64 (widthP xs:Nat) | 10 => v = .int .i64 (C:Nat) | 11 => v = .agg #[.int .i64 (a:Nat),.int .i64 (C:Nat)] | 12 => ∃ Q,v = .pointer (some ⟨Q,0,none⟩) ∧ Blk w Q 24 #[.int .i64 0,.int .i64 0] ∧ W1.heap.size ≤ Q | _ => True):=⟨_,rfl⟩
  obtain ⟨G,hG⟩:∃ G:(Nat → Value) → World → Prop,G = (fun u w => ∃ Q,u 12 = .pointer (some ⟨Q,0,none⟩) ∧ Blk w Q 24 #[.int .i64 (a:Nat),.int .i64 (C:Nat)] ∧ W1.heap.size ≤ Q ∧ Fr [] W1 w):=⟨_,rfl⟩
  have HM:Hid (∀ w1 w2:World,Fr [] w1 w2 → ∀ j x,F w1 j x → F w2 j x):=by
    show ∀ _,_
    intro w1 w2 hf j x h
    subst hF
    match j,h with
    | 12,⟨Q,h1,h2,h3⟩ => exact ⟨Q,h1,h2.fr hf (by simp),h3⟩
    | 0,h => exact h
    | 1,h => exact h
    | 2,h => exact h
    | 3,h => exact h
    | 4,h => exact h
    | 5,h => exact h
    | 6,h => exact h
    | 7,h => exact h
    | 8,h => exact h
    | 9,h => exact h
    | 10,h => exact h
    | 11,h => exact h
    | n + 13,h => trivial
  have HFG:=Lib.hid (And.intro hF hG)
  clear hF hG
  refine wp_region_invc (by kernel_rfl) (fun f a w' => ∃ u:Nat → Value,a = { tmps:=#[.agg #[.slice xB xm xd,.bool xt,.int .i64 xe],.agg #[.int .i64 pr,.int .i64 pc],.pointer (some ⟨GB,0,none⟩),.pointer (some ⟨PB,0,none⟩),.pointer (some ⟨RB,0,none⟩),u 12,undef,undef,u 0,u 1,u 2,u 3,u 4,u 5,u 6,u 7,u 8,u 9,u 10,u 11,undef,undef,undef,undef,undef,undef,undef,undef,undef,undef,undef,undef,undef,undef,undef,undef,undef,undef,undef,undef,undef,undef,undef,undef,undef,undef,undef,undef,undef,undef,undef,undef],defers:=[] } ∧ Hid (RInv F G W1 13 f u w')) (by kernel_rfl) ?_ ?_ ?_
  · exact ⟨fun _ => undef,rfl,RInv.start _⟩
  · simp only [EachOp]
    refine ⟨?_,?_,?_,?_,?_,?_,?_,?_,?_,?_,?_,?_,?_,?_,trivial⟩
    all_goals rintro f a w' hfi hdep hcl ⟨u,rfl,HI⟩ K hK
    all_goals first
      | have hL:f 13 = false:=hfi
      | have hL:=hcl.no (L:=13) _ rfl hfi ⟨_,.phase⟩ (by simp) rfl rfl
    · go_simp
      exact hK _ _ ⟨updU u 0 (.pointer (some ⟨PB,0,none⟩)),rfl,HI.out.val hL (by decide) (by rw [HFG.out.1]; exact rfl)⟩
    · have e0:u 0 = .pointer (some ⟨PB,0,none⟩):=HI.out.get HFG.out.1 hL (i:=0) (hdep ⟨0,.data⟩ (by simp) rfl)
      obtain ⟨c0,c1,c2,c3,c4⟩:=HC.out w' (HI.out.a hL).1
      go_simp
      exact hK _ _ ⟨updU u 1 (.int .i64 pr),(by simp [updU,e0] <;> (repeat' apply And.intro) <;> rfl),HI.out.val hL (by decide) (by rw [HFG.out.1]; exact rfl)⟩
    · go_simp
      exact hK _ _ ⟨updU u 2 (.pointer (some ⟨GB,0,none⟩)),rfl,HI.out.val hL (by decide) (by rw [HFG.out.1]; exact rfl)⟩
    · have e2:u 2 = .pointer (some ⟨GB,0,none⟩):=HI.out.get HFG.out.1 hL (i:=2) (hdep ⟨2,.data⟩ (by simp) rfl)
      obtain ⟨c0,c1,c2,c3,c4⟩:=HC.out w' (HI.out.a hL).1
      go_simp
      exact hK _ _ ⟨updU u 3 (.slice xB xm xd),(by simp [updU,e2] <;> (repeat' apply And.intro) <;> rfl),HI.out.val hL (by decide) (by rw [HFG.out.1]; exact rfl)⟩
    · have e3:u 3 = .slice xB xm xd:=HI.out.get HFG.out.1 hL (i:=3) (hdep ⟨3,.data⟩ (by simp) rfl)
      go_simp
      exact hK _ _ ⟨updU u 4 (.int .i64 (xm:Nat)),(by simp [updU,e3] <;> (repeat' apply And.intro) <;> rfl),HI.out.val hL (by decide) (by rw [HFG.out.1]; exact rfl)⟩
    · have e1:u 1 = .int .i64 pr:=HI.out.get HFG.out.1 hL (i:=1) (hdep ⟨1,.data⟩ (by simp) rfl)
      have e4:u 4 = .int .i64 (xm:Nat):=HI.out.get HFG.out.1 hL (i:=4) (hdep ⟨4,.data⟩ (by simp) rfl)
      refine step_call _ (by rfl) 60 #[.int .i64 pr,.int .i64 (xm:Nat)] (by go_simp) _ (HH1.out w') (by rintro e w' ⟨he,_⟩; exact ⟨_,he⟩) ?_
      rintro v4 w4 ⟨hv4,hf4⟩
      injection hv4 with hv4
      subst hv4
      try go_simp
      exact hK _ _ ⟨updU u 5 (.int .i64 (a:Nat)),(by simp [updU,e1,e4] <;> (repeat' apply And.intro) <;> rfl),HI.out.call hL (by decide) (HM.out _ _ hf4) hf4 (by rw [HFG.out.1]; exact rfl)⟩
    · go_simp
      exact hK _ _ ⟨updU u 6 (.pointer (some ⟨PB,1,none⟩)),rfl,HI.out.val hL (by decide) (by rw [HFG.out.1]; exact rfl)⟩
    · have e6:u 6 = .pointer (some ⟨PB,1,none⟩):=HI.out.get HFG.out.1 hL (i:=6) (hdep ⟨6,.data⟩ (by simp) rfl)
      obtain ⟨c0,c1,c2,c3,c4⟩:=HC.out w' (HI.out.a hL).1
      go_simp
      exact hK _ _ ⟨updU u 7 (.int .i64 pc),(by simp [updU,e6] <;> (repeat' apply And.intro) <;> rfl),HI.out.val hL (by decide) (by rw [HFG.out.1]; exact rfl)⟩
    · obtain ⟨c0,c1,c2,c3,c4⟩:=HC.out w' (HI.out.a hL).1
      go_simp
      exact hK _ _ ⟨updU u 8 (.agg #[.slice xB xm xd,.bool xt,.int .i64 xe]),rfl,HI.out.val hL (by decide) (by rw [HFG.out.1]; exact rfl)⟩
    · have e8:u 8 = .agg #[.slice xB xm xd,.bool xt,.int .i64 xe]:=HI.out.get HFG.out.1 hL (i:=8) (hdep ⟨8,.data⟩ (by simp) rfl)
      refine step_call _ (by rfl) 33 #[.agg #[.slice xB xm xd,.bool xt,.int .i64 xe]] (by go_simp) _ (HWD.out w' (HI.out.a hL).1) (by rintro e w' ⟨he,_⟩; exact ⟨_,he⟩) ?_
      rintro v4 w4 ⟨hv4,hf4⟩
      injection hv4 with hv4
      subst hv4
      try go_simp
      exact hK _ _ ⟨updU u 9 (.int .i64 (widthP xs:Nat)),(by simp [updU,e8] <;> (repeat' apply And.intro) <;> rfl),HI.out.call hL (by decide) (HM.out _ _ hf4) hf4 (by rw [HFG.out.1]; exact rfl)⟩
    · have e7:u 7 = .int .i64 pc:=HI.out.get HFG.out.1 hL (i:=7) (hdep ⟨7,.data⟩ (by simp) rfl)
      have e9:u 9 = .int .i64 (widthP xs:Nat):=HI.out.get HFG.out.1 hL (i:=9) (hdep ⟨9,.data⟩ (by simp) rfl)
      refine step_call _ (by rfl) 60 #[.int .i64 pc,.int .i64 (widthP xs:Nat)] (by go_simp) _ (HH2.out w') (by rintro e w' ⟨he,_⟩; exact ⟨_,he⟩) ?_
      rintro v4 w4 ⟨hv4,hf4⟩
      injection hv4 with hv4
      subst hv4
      try go_simp
      exact hK _ _ ⟨updU u 10 (.int .i64 (C:Nat)),(by simp [updU,e7,e9] <;> (repeat' apply And.intro) <;> rfl),HI.out.call hL (by decide) (HM.out _ _ hf4) hf4 (by rw [HFG.out.1]; exact rfl)⟩
    · have e5:u 5 = .int .i64 (a:Nat):=HI.out.get HFG.out.1 hL (i:=5) (hdep ⟨5,.data⟩ (by simp) rfl)
      have e10:u 10 = .int .i64 (C:Nat):=HI.out.get HFG.out.1 hL (i:=10) (hdep ⟨10,.data⟩ (by simp) rfl)
      go_simp
      exact hK _ _ ⟨updU u 11 (.agg #[.int .i64 (a:Nat),.int .i64 (C:Nat)]),(by simp [updU,e5,e10] <;> (repeat' apply And.intro) <;> rfl),HI.out.val hL (by decide) (by rw [HFG.out.1]; exact rfl)⟩
    · go_simp
      exact hK _ _ ⟨updU u 12 (.pointer (some ⟨w'.heap.size,0,none⟩)),rfl,HI.out.call hL (by decide) (HM.out _ _ ((Fr.refl [] w').alloc _)) ((Fr.refl [] w').alloc _) (by rw [HFG.out.1]; exact ⟨_,rfl,Blk.new ..,(HI.out.a hL).1.size⟩)⟩
    · have e11:u 11 = .agg #[.int .i64 (a:Nat),.int .i64 (C:Nat)]:=HI.out.get HFG.out.1 hL (i:=11) (hdep ⟨11,.data⟩ (by simp) rfl)
      have e12:=HI.out.get HFG.out.1 hL (i:=12) (hdep ⟨12,.data⟩ (by simp) rfl)
      obtain ⟨Q,e12,hb,hq⟩:=e12
      have q0:w'.cell? ⟨Q,0,none⟩ = some (.int .i64 0):=hb.cell 0
      have q1:w'.cell? ⟨Q,1,none⟩ = some (.int .i64 0):=hb.cell 1
      have z0:=hb.frozen 0
      have z1:=hb.frozen 1
      have lq:=hb.lt
      go_simp
      refine hK _ _ ⟨u,(by simp [e11,e12]),RInv.last ?_⟩
      rw [HFG.out.2]
      refine ⟨Q,e12,by simpa using (hb.set_ 0 (.int .i64 (a:Nat))).set_ 1 (.int .i64 (C:Nat)),hq,((HI.out.a hL).1.setB (fun h => absurd h (by omega)) _ _).setB (fun h => absurd h (by omega)) _ _⟩
  · rintro f a w' hall ⟨u,rfl,HI⟩
    have hG:=HI.out.b (hall 13 (by decide))
    rw [HFG.out.2] at hG
    obtain ⟨Q,e12,hb,hq,hf1⟩:=hG
    rw [e12]
    dsimp only
    generalize u 0 = u0
    generalize u 1 = u1
    generalize u 2 = u2
    generalize u 3 = u3
    generalize u 4 = u4
    generalize u 5 = u5
    generalize u 6 = u6
    generalize u 7 = u7
    generalize u 8 = u8
    generalize u 9 = u9
    generalize u 10 = u10
    generalize u 11 = u11
    have HE:Hid (Fr [] W1 w' ∧ Blk w' Q 24 #[.int .i64 (a:Nat),.int .i64 (C:Nat)]):=⟨hf1,hb⟩
    have HCE:Hid (∀ w2,Fr [] w' w2 → w2.cell? ⟨GB,0,none⟩ = some (.slice xB xm xd) ∧ w2.cell? ⟨GB,1,none⟩ = some (.bool xt) ∧ w2.cell? ⟨GB,2,none⟩ = some (.int .i64 xe) ∧ w2.cell? ⟨Q,0,none⟩ = some (.int .i64 (a:Nat)) ∧ w2.cell? ⟨Q,1,none⟩ = some (.int .i64 (C:Nat)) ∧ w2.cell? ⟨RB,0,none⟩ = some (.int .i64 0) ∧ w2.cell? ⟨RB,1,none⟩ = some (.int .i64 0) ∧ w2.frozen? ⟨RB,0,none⟩ = false ∧ w2.frozen? ⟨RB,1,none⟩ = false ∧ RB < w2.heap.size):=by
      show ∀ _,_
      intro w2 hf
      obtain ⟨a0,a1,a2,_,_⟩:=HC.out w2 (HE.out.1.trans hf)
      have h1:=HE.out.2.fr hf (by simp)
      have h2:=HF.out.2.2.2.fr (HE.out.1.trans hf) (by simp)
      exact ⟨a0,a1,a2,h1.cell 0,h1.cell 1,h2.cell 0,h2.cell 1,h2.frozen 0,h2.frozen 1,h2.lt⟩
    have HFIN:Hid (∀ w2 v0 v1,Fr [] w' w2 → Fr [] w ((w2.setCell ⟨RB,0,none⟩ v0).setCell ⟨RB,1,none⟩ v1)):=by
      show ∀ _,_
      intro w2 v0 v1 hf
      exact (((HF.out.1.trans HE.out.1).trans hf).setB (fun h => absurd h (by have:=HRB.out; omega)) _ _).setB (fun h => absurd h (by have:=HRB.out; omega)) _ _
    have hxm:(xm:Int) ≤ 400:=by have:=HX.out.2.1; omega
    clear hb hq hf1 e12 HI hall HFG HM
    obtain ⟨c0,c1,c2,q0,q1,r0,r1,z0,z1,lr⟩:=HCE.out w' (Fr.refl _ _)
    clear c1 c2 q1 r0 r1 z0 z1 lr
    go_wp2_with fail
    go_loopg [6] (xm - a) (fun k rv wr => ∃ j:Nat,k + j = xm ∧ rv = .int .i64 j ∧ Hid (Fr [] w' wr ∧ nextP xs a = nextP xs j))
    case atStart => exact ⟨a,by have:=HX.out; omega,rfl,Fr.refl _ _,rfl⟩
    case round =>
      clear c0 q0
      obtain ⟨j,hj,rfl,HI⟩:=hrel
      obtain ⟨c0,c1,c2,q0,q1,r0,r1,z0,z1,lr⟩:=HCE.out wr HI.out.1
      by_cases hlt:j < xm
      · have hj0:(0:Int) ≤ (j:Int):=by omega
        have hj1:(j:Int) < (xm:Int):=by omega
        have HNX:Hid (nextP xs a = if hidAt xs j then nextP xs (j + 1) else (j:Int)):=by
          show _ = _
          rw [HI.out.2]
          exact next_rec xs j (by have:=HX.out.1; omega)
        have HS:=Lib.hid (HSH.out wr j (HE.out.1.trans HI.out.1) hlt)
        clear q0 q1 r0 r1 z0 z1 lr
        cases hh:hidAt xs j with
        | true =>
          rw [hh] at HNX HS
          clear hh
          go_wp2_with fail
          refine HS.out.mono ?_
          rintro en w2 ⟨rfl,hf2⟩
          have HF2:Hid (Fr [] w' w2):=HI.out.1.trans hf2
          clear hf2 HI c0 c1 c2
          go_wp2_with fail
          go_roundg (xm - (j + 1))
          case rel => exact ⟨j + 1,by omega,by go_num,HF2.out,HNX.out⟩
          case measure => omega
        | false =>
          rw [hh] at HNX HS
          clear hh
          have HRJ:Hid (R = j):=by
            have h1:=HX.out.2.2.2
            have h2:nextP xs a = (j:Int):=HNX.out
            unfold settP at h1
            rw [h2,if_pos (by omega)] at h1
            show _ = _
            omega
          go_wp2_with fail
          refine HS.out.mono ?_
          rintro en w2 ⟨rfl,hf2⟩
          have HF2:Hid (Fr [] w' w2):=HI.out.1.trans hf2
          clear hf2 HI c0 c1 c2
          obtain ⟨c0,c1,c2,q0,q1,r0,r1,z0,z1,lr⟩:=HCE.out w2 HF2.out
          clear c0 c1 c2
          go_wp2_with fail
          refine bodyPost_ret (v:=.agg #[.int .i64 (j:Nat),.int .i64 (C:Nat)]) (by simp [results,Tryz.results32,go_sem, *]) rfl ?_
          exact ⟨by rw [HRJ.out],HFIN.out _ _ _ HF2.out⟩
      · obtain rfl:j = xm:=by omega
        have HPV:Hid (settP xs a (min (a + 1) xs.length) = max (prevP xs (min (a + 1) xs.length)) 0):=by
          show _ = _
          unfold settP
          rw [HI.out.2,next_end xs j (by have:=HX.out.1; omega),if_neg (by omega)]
        have HF2:=Lib.hid HI.out.1
        clear HI hlt hj c1 c2 q1 r0 r1 z0 z1 lr
        go_wp2_with fail
        go_loopg [7] a (fun k rv w5 => ∃ i:Nat,k = i ∧ i ≤ a ∧ rv = .int .i64 i ∧ Hid (Fr [] w' w5 ∧ (0 < i → (R:Int) = max (prevP xs (i + 1)) 0) ∧ (i = 0 → R = 0)))
        case atStart =>
          refine ⟨a,rfl,Nat.le_refl _,rfl,HF2.out,fun h => ?_,fun h => ?_⟩
          · have h1:=HX.out
            have h2:=HPV.out
            rw [show min (a + 1) xs.length = a + 1 by omega] at h1 h2
            rw [← h2]
            exact h1.2.2.2.symm
          · have h1:=HX.out.2.2.2
            rw [HPV.out] at h1
            subst h
            rcases Nat.eq_zero_or_pos xs.length with h0 | h0
            · rw [h0,show min (0 + 1) 0 = 0 by omega,prev_zero] at h1
              omega
            · rw [show min (0 + 1) xs.length = 0 + 1 by omega,prev_rec,prev_zero] at h1
              split at h1 <;> omega
        case round =>
          clear c0 q0
          obtain ⟨i,hki,hia,rfl,HI⟩:=hrel
          obtain ⟨c0,c1,c2,q0,q1,r0,r1,z0,z1,lr⟩:=HCE.out wr HI.out.1
          by_cases hi:0 < i
          · have hi0:(0:Int) < (i:Int):=by omega
            have hiw:IntKind.i64.wrap ((i:Int) - 1) = ((i - 1:Nat):Int):=by rw [IntWalk.i64_in _ (by have:=HX.out; omega)]; omega
            have HNX:=HI.out.2.1 hi
            rw [prev_rec] at HNX
            have HNX:=Lib.hid HNX
            have HS:=Lib.hid (HSH.out wr i (HE.out.1.trans HI.out.1) (by have:=HX.out; omega))
            clear q0 q1 r0 r1 z0 z1 lr
            cases hh:hidAt xs i with
            | true =>
              rw [hh] at HNX HS
              clear hh
              go_wp2_with fail
              refine HS.out.mono ?_
              rintro en w2 ⟨rfl,hf2⟩
              have HF3:Hid (Fr [] w' w2):=HI.out.1.trans hf2
              clear hf2 HI c0 c1 c2
              go_wp2_with fail
              go_roundg (i - 1)
              case rel =>
                refine ⟨i - 1,rfl,by omega,by first | rfl | go_num,HF3.out,fun h => ?_,fun h => ?_⟩
                · have h1:(R:Int) = max (prevP xs i) 0:=HNX.out
                  rwa [show i = i - 1 + 1 by omega] at h1
                · have h1:(R:Int) = max (prevP xs i) 0:=HNX.out
                  rw [show i = 0 + 1 by omega,prev_rec,prev_zero] at h1
                  split at h1 <;> omega
              case measure => omega
            | false =>
              rw [hh] at HNX HS
              clear hh
              have HRJ:Hid (R = i):=by
                have h2:(R:Int) = max (i:Int) 0:=HNX.out
                show _ = _
                omega
              go_wp2_with fail
              refine HS.out.mono ?_
              rintro en w2 ⟨rfl,hf2⟩
              have HF3:Hid (Fr [] w' w2):=HI.out.1.trans hf2
              clear hf2 HI c0 c1 c2
              obtain ⟨c0,c1,c2,q0,q1,r0,r1,z0,z1,lr⟩:=HCE.out w2 HF3.out
              clear c0 c1 c2
              go_wp2_with fail
              refine bodyPost_ret (v:=.agg #[.int .i64 (i:Nat),.int .i64 (C:Nat)]) (by simp [results,Tryz.results32,go_sem, *]) rfl ?_
              exact ⟨by rw [HRJ.out],HFIN.out _ _ _ HF3.out⟩
          · obtain rfl:i = 0:=by omega
            have HR0:Hid (R = 0):=HI.out.2.2 rfl
            have HF3:=Lib.hid HI.out.1
            clear HI hi hia c0 c1 c2
            go_wp2_with fail
            refine bodyPost_ret (v:=.agg #[.int .i64 0,.int .i64 (C:Nat)]) (by simp [results,Tryz.results32,go_sem, *]) rfl ?_
            exact ⟨by rw [HR0.out]; rfl,HFIN.out _ _ _ HF3.out⟩
end Go.Proofs.YteohomdiklkbfaaGreat
