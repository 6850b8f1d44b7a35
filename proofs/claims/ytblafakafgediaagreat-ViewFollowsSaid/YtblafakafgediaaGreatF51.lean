import Derived.Test.YtblafakafgediaaGreatF49
import Derived.Test.YtblafakafgediaaGreatF50
namespace Go.Proofs.YtblafakafgediaaGreat
open Go.RowKit Go.Proofs.Dm

set_option maxRecDepth 100000 in
set_option maxHeartbeats 6400000 in
theorem dscroll_any (w:World) (x:GD) (xs:List RV) (h:DGr x xs w) (hw40:widthP xs ≤ 40) {pr pc n nc:Int} {R C RT CT top left hh wid T lf:Nat} (hs:Sett xs pr pc R C) (hst:Sett xs (top:Nat) 0 RT CT) (hcl:ClampN n nc)
    (h1:1 ≤ hh) (h4:hh ≤ 400) (w1:1 ≤ wid) (w4:wid ≤ 40) (ht:top ≤ 2 ^ 40) (hl:left ≤ 2 ^ 50)
    (hT:T = follT xs (movedP xs R nc) (movedP xs RT nc) hh (hidAt xs (movedP xs R nc))) (hlf:(lf:Int) = max (min (left:Int) C) ((C:Int) - wid + 1)) :
    Calls Tryz.prog 46 #[.agg #[.int .i64 (top:Nat),.int .i64 (left:Nat),.int .i64 (hh:Nat),.int .i64 (wid:Nat)],.agg #[.slice x.B x.m x.d,.bool x.t,.int .i64 x.e],.agg #[.int .i64 pr,.int .i64 pc],.int .i64 n] w fun en w' => en = .returned (.tuple #[.agg #[.int .i64 (T:Nat),.int .i64 (lf:Nat),.int .i64 (hh:Nat),.int .i64 (wid:Nat)],.agg #[.int .i64 (movedP xs R nc:Nat),.int .i64 (C:Nat)]]) ∧ Fr [] w w':=by
  have hb:-400 ≤ nc ∧ nc ≤ 400:=by unfold ClampN at hcl; omega
  obtain ⟨S,hS⟩:∃ S,S = movedP xs R nc:=⟨_,rfl⟩
  obtain ⟨T2,hT2⟩:∃ T2,T2 = movedP xs RT nc:=⟨_,rfl⟩
  have hset:Sett xs (S:Nat) (C:Nat) S C:=hs.at_ (by rw [hS]; exact moved_set nc hs.set_)
  have hT2b:T2 ≤ 400:=by
    have h5:=moved_set nc hst.set_
    rw [← hT2] at h5
    have h6:=h5.le
    have h7:=h.len
    have h8:=h.n4
    omega
  obtain ⟨W1,hW1⟩:∃ W1,W1 = ((((w.alloc (.cells #[.int .i64 (top:Nat),.int .i64 (left:Nat),.int .i64 (hh:Nat),.int .i64 (wid:Nat)] 24)).alloc (.cells #[.slice x.B x.m x.d,.bool x.t,.int .i64 x.e] TD11)).alloc (.cells #[.int .i64 pr,.int .i64 pc] 26)).alloc (.cells #[.int .i64 0,.int .i64 0,.int .i64 0,.int .i64 0] 24)).alloc (.cells #[.int .i64 0,.int .i64 0] 26):=⟨_,rfl⟩
  have HM1:Hid (∀ w',Fr [] w w' → Calls Tryz.prog 104 #[.agg #[.slice x.B x.m x.d,.bool x.t,.int .i64 x.e],.agg #[.int .i64 pr,.int .i64 pc],.int .i64 nc] w' fun en w'' => en = .returned (.agg #[.int .i64 (S:Nat),.int .i64 (C:Nat)]) ∧ Fr [] w' w''):=by
    show ∀ _,_
    intro w' hf
    rw [hS]
    exact dmoved_any w' x xs nc (h.fr0 hf) hs hw40 hb.1 hb.2
  have HM2:Hid (∀ w',Fr [] w w' → Calls Tryz.prog 104 #[.agg #[.slice x.B x.m x.d,.bool x.t,.int .i64 x.e],.agg #[.int .i64 (top:Nat),.int .i64 0],.int .i64 nc] w' fun en w'' => en = .returned (.agg #[.int .i64 (T2:Nat),.int .i64 (CT:Nat)]) ∧ Fr [] w' w''):=by
    show ∀ _,_
    intro w' hf
    rw [hT2]
    exact dmoved_any w' x xs nc (h.fr0 hf) hst hw40 hb.1 hb.2
  have HFO:Hid (∀ w',Fr [] w w' → Calls Tryz.prog 48 #[.agg #[.int .i64 (T2:Nat),.int .i64 (left:Nat),.int .i64 (hh:Nat),.int .i64 (wid:Nat)],.agg #[.slice x.B x.m x.d,.bool x.t,.int .i64 x.e],.agg #[.int .i64 (S:Nat),.int .i64 (C:Nat)]] w' fun en w'' => en = .returned (.agg #[.int .i64 (T:Nat),.int .i64 (lf:Nat),.int .i64 (hh:Nat),.int .i64 (wid:Nat)]) ∧ Fr [] w' w''):=by
    show ∀ _,_
    intro w' hf
    exact dfollow_any w' x xs (h.fr0 hf) hset hw40 h1 h4 w1 w4 (by omega) hl (by rw [hT,hS,hT2]) hlf
  rw [← hS]
  obtain ⟨VB,hVB⟩:∃ VB,VB = w.heap.size:=⟨_,rfl⟩
  obtain ⟨GB,hGB⟩:∃ GB,GB = w.heap.size + 1:=⟨_,rfl⟩
  obtain ⟨PB,hPB⟩:∃ PB,PB = w.heap.size + 1 + 1:=⟨_,rfl⟩
  obtain ⟨Q1,hQ1⟩:∃ Q1,Q1 = w.heap.size + 1 + 1 + 1:=⟨_,rfl⟩
  obtain ⟨Q2,hQ2⟩:∃ Q2,Q2 = w.heap.size + 1 + 1 + 1 + 1:=⟨_,rfl⟩
  have HF:Hid (Fr [] w W1 ∧ Blk W1 VB 24 #[.int .i64 (top:Nat),.int .i64 (left:Nat),.int .i64 (hh:Nat),.int .i64 (wid:Nat)] ∧ Blk W1 GB TD11 #[.slice x.B x.m x.d,.bool x.t,.int .i64 x.e] ∧ Blk W1 PB 26 #[.int .i64 pr,.int .i64 pc] ∧ Blk W1 Q1 24 #[.int .i64 0,.int .i64 0,.int .i64 0,.int .i64 0] ∧ Blk W1 Q2 26 #[.int .i64 0,.int .i64 0]):=by
    have b1:=Blk.new (w.alloc (.cells #[.int .i64 (top:Nat),.int .i64 (left:Nat),.int .i64 (hh:Nat),.int .i64 (wid:Nat)] 24)) TD11 #[.slice x.B x.m x.d,.bool x.t,.int .i64 x.e]
    have b2:=Blk.new ((w.alloc (.cells #[.int .i64 (top:Nat),.int .i64 (left:Nat),.int .i64 (hh:Nat),.int .i64 (wid:Nat)] 24)).alloc (.cells #[.slice x.B x.m x.d,.bool x.t,.int .i64 x.e] TD11)) 26 #[.int .i64 pr,.int .i64 pc]
    have b3:=Blk.new (((w.alloc (.cells #[.int .i64 (top:Nat),.int .i64 (left:Nat),.int .i64 (hh:Nat),.int .i64 (wid:Nat)] 24)).alloc (.cells #[.slice x.B x.m x.d,.bool x.t,.int .i64 x.e] TD11)).alloc (.cells #[.int .i64 pr,.int .i64 pc] 26)) 24 #[.int .i64 0,.int .i64 0,.int .i64 0,.int .i64 0]
    have b4:=Blk.new ((((w.alloc (.cells #[.int .i64 (top:Nat),.int .i64 (left:Nat),.int .i64 (hh:Nat),.int .i64 (wid:Nat)] 24)).alloc (.cells #[.slice x.B x.m x.d,.bool x.t,.int .i64 x.e] TD11)).alloc (.cells #[.int .i64 pr,.int .i64 pc] 26)).alloc (.cells #[.int .i64 0,.int .i64 0,.int .i64 0,.int .i64 0] 24)) 26 #[.int .i64 0,.int .i64 0]
    simp only [World.size_alloc] at b1 b2 b3 b4
    rw [hW1,hVB,hGB,hPB,hQ1,hQ2]
    exact ⟨(((((Fr.refl [] w).alloc _).alloc _).alloc _).alloc _).alloc _,((((Blk.new w _ _).alloc _).alloc _).alloc _).alloc _,((b1.alloc _).alloc _).alloc _,(b2.alloc _).alloc _,b3.alloc _,b4⟩
  have HNB:Hid (VB = w.heap.size ∧ GB = w.heap.size + 1 ∧ PB = w.heap.size + 1 + 1 ∧ Q1 = w.heap.size + 1 + 1 + 1 ∧ Q2 = w.heap.size + 1 + 1 + 1 + 1):=⟨hVB,hGB,hPB,hQ1,hQ2⟩
  -- only the view and the place are turned
  have HFW:Hid (∀ w',Fr [some VB,some PB] W1 w' → Fr [] w w'):=by
    show ∀ _,_
    intro w' hf
    refine HF.out.1.seq hf fun z hz => ?_
    have hn:=HNB.out
    rcases List.mem_cons.1 hz with e | e
    · exact .inr (.inr ⟨VB,by omega,e⟩)
    · rw [List.mem_singleton] at e; exact .inr (.inr ⟨PB,by omega,e⟩)
  have HCG:Hid (∀ w',Fr [some VB,some PB] W1 w' → w'.cell? ⟨GB,0,none⟩ = some (.slice x.B x.m x.d) ∧ w'.cell? ⟨GB,1,none⟩ = some (.bool x.t) ∧ w'.cell? ⟨GB,2,none⟩ = some (.int .i64 x.e)):=by
    show ∀ _,_
    intro w' hf
    have e1:=HF.out.2.2.1.fr hf (by have:=HNB.out; simp; omega)
    exact ⟨e1.cell 0,e1.cell 1,e1.cell 2⟩
  have n1:¬ GB = PB:=by omega
  have n2:¬ VB = PB:=by omega
  have n3:¬ PB = VB:=by omega
  have n4:¬ GB = VB:=by omega
  have HTL:=Lib.hid (And.intro ht hl)
  have hfd:∀ w:World,(Instr.field 26 (.agg #[.int .i64 (T2:Nat),.int .i64 (CT:Nat)]) 0).run Tryz.prog w = .ok (.int .i64 (T2:Nat)) w:=fun _ => by kernel_rfl
  obtain ⟨xB,xm,xd,xrs,xt,xe⟩:=x
  simp only at HF HM1 HM2 HFO HCG hW1
  have HW1:=Lib.hid hW1
  clear h hs hst hw40 h1 h4 w1 w4 ht hl hT hlf hb hS hT2 hset hT2b hW1
  rcases hcl with ⟨c1,rfl⟩ | ⟨c1,c2,rfl⟩ | ⟨c1,c2,rfl⟩
  all_goals go_enter Tryz.func46,Tryz.ntmps46
  all_goals go_wp2_with fail
  all_goals rw [← HW1.out,← hQ2,← hQ1,← hPB,← hGB,← hVB]
  all_goals clear hQ2 hQ1 hPB hGB hVB
  all_goals
    refine (HM1.out W1 HF.out.1).mono ?_
    rintro en w2 ⟨rfl,hf2⟩
    have hb2:=HF.out.2.2.2.1.fr hf2 (by simp)
    have hv2:=HF.out.2.1.fr hf2 (by simp)
    have p0:w2.cell? ⟨PB,0,none⟩ = some (.int .i64 pr):=hb2.cell 0
    have p1:w2.cell? ⟨PB,1,none⟩ = some (.int .i64 pc):=hb2.cell 1
    have y0:=hb2.frozen 0
    have y1:=hb2.frozen 1
    have lp:=hb2.lt
    have v0:w2.cell? ⟨VB,0,none⟩ = some (.int .i64 (top:Nat)):=hv2.cell 0
    obtain ⟨g0,g1,g2⟩:=HCG.out w2 hf2.of_nil
    obtain ⟨W3,hW3⟩:∃ W3,W3 = (w2.setCell ⟨PB,0,none⟩ (.int .i64 (S:Nat))).setCell ⟨PB,1,none⟩ (.int .i64 (C:Nat)):=⟨_,rfl⟩
    have HE3:Hid (Blk W3 PB 26 #[.int .i64 (S:Nat),.int .i64 (C:Nat)] ∧ Blk W3 VB 24 #[.int .i64 (top:Nat),.int .i64 (left:Nat),.int .i64 (hh:Nat),.int .i64 (wid:Nat)] ∧ Fr [some VB,some PB] W1 W3):=by
      rw [hW3]
      exact ⟨by simpa using (hb2.set_ 0 (.int .i64 (S:Nat))).set_ 1 (.int .i64 (C:Nat)),(hv2.far (fun e => by have e:VB = PB:=e; omega) _).far (fun e => by have e:VB = PB:=e; omega) _,(hf2.of_nil.setB (fun _ => by simp) _ _).setB (fun _ => by simp) _ _⟩
    have HW3:=Lib.hid hW3
    clear hb2 hv2 hf2 hW3
    go_wp2_with fail
    rw [← HW3.out]
    clear p0 p1 y0 y1 lp v0 g0 g1 g2
    refine (HM2.out W3 (HFW.out W3 HE3.out.2.2)).mono ?_
    rintro en w4 ⟨rfl,hf4⟩
    have hb4:=HE3.out.1.fr hf4 (by simp)
    have hv4:=HE3.out.2.1.fr hf4 (by simp)
    have v0:w4.cell? ⟨VB,0,none⟩ = some (.int .i64 (top:Nat)):=hv4.cell 0
    have y0:=hv4.frozen 0
    have lv:=hv4.lt
    obtain ⟨W5,hW5⟩:∃ W5,W5 = w4.setCell ⟨VB,0,none⟩ (.int .i64 (T2:Nat)):=⟨_,rfl⟩
    have HE5:Hid (Blk W5 PB 26 #[.int .i64 (S:Nat),.int .i64 (C:Nat)] ∧ Blk W5 VB 24 #[.int .i64 (T2:Nat),.int .i64 (left:Nat),.int .i64 (hh:Nat),.int .i64 (wid:Nat)] ∧ Fr [some VB,some PB] W1 W5):=by
      rw [hW5]
      exact ⟨hb4.far (fun e => by have e:PB = VB:=e; omega) _,by simpa using hv4.set_ 0 (.int .i64 (T2:Nat)),(HE3.out.2.2.trans hf4.of_nil).setB (fun _ => by simp) _ _⟩
    clear hb4 hv4 hf4
    go_wp2_with fail
    rw [← hW5]
    clear hW5 v0 y0 lv
    obtain ⟨g0,g1,g2⟩:=HCG.out W5 HE5.out.2.2
    have p0:W5.cell? ⟨PB,0,none⟩ = some (.int .i64 (S:Nat)):=HE5.out.1.cell 0
    have p1:W5.cell? ⟨PB,1,none⟩ = some (.int .i64 (C:Nat)):=HE5.out.1.cell 1
    have v0:W5.cell? ⟨VB,0,none⟩ = some (.int .i64 (T2:Nat)):=HE5.out.2.1.cell 0
    have v1:W5.cell? ⟨VB,1,none⟩ = some (.int .i64 (left:Nat)):=HE5.out.2.1.cell 1
    have v2:W5.cell? ⟨VB,2,none⟩ = some (.int .i64 (hh:Nat)):=HE5.out.2.1.cell 2
    have v3:W5.cell? ⟨VB,3,none⟩ = some (.int .i64 (wid:Nat)):=HE5.out.2.1.cell 3
    have m1:¬ VB = Q1:=by have:=HNB.out; omega
    have m2:¬ VB = Q2:=by have:=HNB.out; omega
    have m3:¬ PB = Q1:=by have:=HNB.out; omega
    have m4:¬ PB = Q2:=by have:=HNB.out; omega
    have m5:¬ GB = Q1:=by have:=HNB.out; omega
    have m6:¬ GB = Q2:=by have:=HNB.out; omega
    have m7:¬ Q1 = Q2:=by have:=HNB.out; omega
    have m8:¬ Q2 = Q1:=by have:=HNB.out; omega
    have m9:¬ Q1 = VB:=fun e => m1 e.symm
    have m10:¬ Q2 = VB:=fun e => m2 e.symm
    have m11:¬ Q1 = PB:=fun e => m3 e.symm
    have m12:¬ Q2 = PB:=fun e => m4 e.symm
    have m13:¬ Q1 = GB:=fun e => m5 e.symm
    have m14:¬ Q2 = GB:=fun e => m6 e.symm
    have hq:Hid (∀ w',Fr [] W5 w' → (w'.cell? ⟨Q1,0,none⟩ = some (.int .i64 0) ∧ w'.cell? ⟨Q1,1,none⟩ = some (.int .i64 0) ∧ w'.cell? ⟨Q1,2,none⟩ = some (.int .i64 0) ∧ w'.cell? ⟨Q1,3,none⟩ = some (.int .i64 0)) ∧ (w'.frozen? ⟨Q1,0,none⟩ = false ∧ w'.frozen? ⟨Q1,1,none⟩ = false ∧ w'.frozen? ⟨Q1,2,none⟩ = false ∧ w'.frozen? ⟨Q1,3,none⟩ = false ∧ Q1 < w'.heap.size) ∧ (w'.cell? ⟨Q2,0,none⟩ = some (.int .i64 0) ∧ w'.cell? ⟨Q2,1,none⟩ = some (.int .i64 0) ∧ w'.frozen? ⟨Q2,0,none⟩ = false ∧ w'.frozen? ⟨Q2,1,none⟩ = false ∧ Q2 < w'.heap.size)):=by
      show ∀ _,_
      intro w' hf
      have e1:=HF.out.2.2.2.2.1.fr (HE5.out.2.2.trans hf.of_nil) (by have:=HNB.out; simp; omega)
      have e2:=HF.out.2.2.2.2.2.fr (HE5.out.2.2.trans hf.of_nil) (by have:=HNB.out; simp; omega)
      exact ⟨⟨e1.cell 0,e1.cell 1,e1.cell 2,e1.cell 3⟩,⟨e1.frozen 0,e1.frozen 1,e1.frozen 2,e1.frozen 3,e1.lt⟩,e2.cell 0,e2.cell 1,e2.frozen 0,e2.frozen 1,e2.lt⟩
    have HFR5:Hid (Fr [] w W5):=HFW.out W5 HE5.out.2.2
    go_region_held3 (fun w' => w'.cell? ⟨GB,0,none⟩ = some (.slice xB xm xd) ∧ w'.cell? ⟨GB,1,none⟩ = some (.bool xt) ∧ w'.cell? ⟨GB,2,none⟩ = some (.int .i64 xe) ∧ w'.cell? ⟨PB,0,none⟩ = some (.int .i64 (S:Nat)) ∧ w'.cell? ⟨PB,1,none⟩ = some (.int .i64 (C:Nat)) ∧ w'.cell? ⟨VB,0,none⟩ = some (.int .i64 (T2:Nat)) ∧ w'.cell? ⟨VB,1,none⟩ = some (.int .i64 (left:Nat)) ∧ w'.cell? ⟨VB,2,none⟩ = some (.int .i64 (hh:Nat)) ∧ w'.cell? ⟨VB,3,none⟩ = some (.int .i64 (wid:Nat))) (go_keep) ((first
      | (go_at_call 48; go_must (
           refine (HFO.out _ HFR5.out.drew).mono ?_
           rintro e w7 ⟨rfl,hf7⟩
           have HF7:Hid (Fr [] W5 w7):=(Fr.refl [] W5).drew.trans hf7
           have HQ7:=Lib.hid (hq.out w7 HF7.out)
           have g0':w7.cell? ⟨GB,0,none⟩ = some (.slice xB xm xd):=(HCG.out w7 (HE5.out.2.2.trans HF7.out.of_nil)).1
           have g1':w7.cell? ⟨GB,1,none⟩ = some (.bool xt):=(HCG.out w7 (HE5.out.2.2.trans HF7.out.of_nil)).2.1
           have g2':w7.cell? ⟨GB,2,none⟩ = some (.int .i64 xe):=(HCG.out w7 (HE5.out.2.2.trans HF7.out.of_nil)).2.2
           have p0':w7.cell? ⟨PB,0,none⟩ = some (.int .i64 (S:Nat)):=(HE5.out.1.fr HF7.out (by simp)).cell 0
           have p1':w7.cell? ⟨PB,1,none⟩ = some (.int .i64 (C:Nat)):=(HE5.out.1.fr HF7.out (by simp)).cell 1
           have v0':w7.cell? ⟨VB,0,none⟩ = some (.int .i64 (T2:Nat)):=(HE5.out.2.1.fr HF7.out (by simp)).cell 0
           have v1':w7.cell? ⟨VB,1,none⟩ = some (.int .i64 (left:Nat)):=(HE5.out.2.1.fr HF7.out (by simp)).cell 1
           have v2':w7.cell? ⟨VB,2,none⟩ = some (.int .i64 (hh:Nat)):=(HE5.out.2.1.fr HF7.out (by simp)).cell 2
           have v3':w7.cell? ⟨VB,3,none⟩ = some (.int .i64 (wid:Nat)):=(HE5.out.2.1.fr HF7.out (by simp)).cell 3
           obtain ⟨⟨a0,a1,a2,a3⟩,⟨z0,z1,z2,z3,l1⟩,b0,b1,t0,t1,l2⟩:=HQ7.out
           clear hf7))))
    all_goals go_simp
    all_goals go_wp2
    all_goals refine bodyPost_ret (v:=.tuple #[.agg #[.int .i64 (T:Nat),.int .i64 (lf:Nat),.int .i64 (hh:Nat),.int .i64 (wid:Nat)],.agg #[.int .i64 (S:Nat),.int .i64 (C:Nat)]]) (by simp [results,Tryz.results46,go_sem, *]) rfl ?_
    all_goals have e1:Q1 < w.heap.size → some Q1 ∈ ([]:List (Option Nat)):=fun h => absurd h (by have:=HNB.out; omega)
    all_goals have e2:Q2 < w.heap.size → some Q2 ∈ ([]:List (Option Nat)):=fun h => absurd h (by have:=HNB.out; omega)
    all_goals exact ⟨rfl,((((((HFR5.out.trans HF7.out).setB e1 _ _).setB e1 _ _).setB e1 _ _).setB e1 _ _).setB e2 _ _).setB e2 _ _⟩
end Go.Proofs.YtblafakafgediaaGreat
