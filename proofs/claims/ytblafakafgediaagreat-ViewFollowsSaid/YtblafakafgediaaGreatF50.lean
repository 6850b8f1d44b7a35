import Derived.Test.YtblafakafgediaaGreatF49
import Derived.Test.YtblafakafgediaaGreatF48
namespace Go.Proofs.YtblafakafgediaaGreat
open Go.RowKit Go.Proofs.Dm

structure FLp (W1 w:World) (VB PB:Nat) (T L hh wid R C:Int):Prop where
  vb:Blk w VB 24 #[.int .i64 T,.int .i64 L,.int .i64 hh,.int .i64 wid]
  pb:Blk w PB 26 #[.int .i64 R,.int .i64 C]
  fr:Fr [some VB,some PB] W1 w
theorem FLp.fr0 {W1 w w':World} {VB PB:Nat} {T L hh wid R C:Int} (h:FLp W1 w VB PB T L hh wid R C) (hf:Fr [] w w'):FLp W1 w' VB PB T L hh wid R C:=⟨h.vb.fr hf (by simp),h.pb.fr hf (by simp),h.fr.trans hf.of_nil⟩
theorem FLp.top {W1 w:World} {VB PB:Nat} {T L hh wid R C:Int} (h:FLp W1 w VB PB T L hh wid R C) (hne:¬ PB = VB) (T':Int):FLp W1 (w.setCell ⟨VB,0,none⟩ (.int .i64 T')) VB PB T' L hh wid R C :=
  ⟨by simpa using h.vb.set_ 0 (.int .i64 T'),h.pb.far (fun e => hne e) _,h.fr.setB (fun _ => by simp) _ _⟩
theorem FLp.left {W1 w:World} {VB PB:Nat} {T L hh wid R C:Int} (h:FLp W1 w VB PB T L hh wid R C) (hne:¬ PB = VB) (L':Int):FLp W1 (w.setCell ⟨VB,1,none⟩ (.int .i64 L')) VB PB T L' hh wid R C :=
  ⟨by simpa using h.vb.set_ 1 (.int .i64 L'),h.pb.far (fun e => hne e) _,h.fr.setB (fun _ => by simp) _ _⟩
set_option maxRecDepth 100000 in
set_option maxHeartbeats 6400000 in
theorem dfollow_any (w:World) (x:GD) (xs:List RV) {pr pc:Int} {R C top left hh wid T lf:Nat} (hd:DGr x xs w) (hs:Sett xs pr pc R C) (hw40:widthP xs ≤ 40) (h1:1 ≤ hh) (h4:hh ≤ 400) (w1:1 ≤ wid) (w4:wid ≤ 40) (ht:top ≤ 2 ^ 50) (hl:left ≤ 2 ^ 50)
    (hT:T = follT xs R top hh (hidAt xs R)) (hlf:(lf:Int) = max (min (left:Int) C) ((C:Int) - wid + 1)) :
    Calls Tryz.prog 48 #[.agg #[.int .i64 (top:Nat),.int .i64 (left:Nat),.int .i64 (hh:Nat),.int .i64 (wid:Nat)],.agg #[.slice x.B x.m x.d,.bool x.t,.int .i64 x.e],.agg #[.int .i64 pr,.int .i64 pc]] w fun en w' => en = .returned (.agg #[.int .i64 (T:Nat),.int .i64 (lf:Nat),.int .i64 (hh:Nat),.int .i64 (wid:Nat)]) ∧ Fr [] w w':=by
  obtain ⟨W1,hW1⟩:∃ W1,W1 = (((w.alloc (.cells #[.int .i64 (top:Nat),.int .i64 (left:Nat),.int .i64 (hh:Nat),.int .i64 (wid:Nat)] 24)).alloc (.cells #[.slice x.B x.m x.d,.bool x.t,.int .i64 x.e] TD11)).alloc (.cells #[.int .i64 pr,.int .i64 pc] 26)).alloc (.cells #[.int .i64 0,.int .i64 0,.int .i64 0,.int .i64 0] 24):=⟨_,rfl⟩
  obtain ⟨VB,hVB⟩:∃ VB,VB = w.heap.size:=⟨_,rfl⟩
  obtain ⟨GB,hGB⟩:∃ GB,GB = w.heap.size + 1:=⟨_,rfl⟩
  obtain ⟨PB,hPB⟩:∃ PB,PB = w.heap.size + 1 + 1:=⟨_,rfl⟩
  obtain ⟨RB,hRB⟩:∃ RB,RB = w.heap.size + 1 + 1 + 1:=⟨_,rfl⟩
  have HF:Hid (Fr [] w W1 ∧ Blk W1 VB 24 #[.int .i64 (top:Nat),.int .i64 (left:Nat),.int .i64 (hh:Nat),.int .i64 (wid:Nat)] ∧ Blk W1 GB TD11 #[.slice x.B x.m x.d,.bool x.t,.int .i64 x.e] ∧ Blk W1 PB 26 #[.int .i64 pr,.int .i64 pc] ∧ Blk W1 RB 24 #[.int .i64 0,.int .i64 0,.int .i64 0,.int .i64 0]):=by
    have b1:=Blk.new (w.alloc (.cells #[.int .i64 (top:Nat),.int .i64 (left:Nat),.int .i64 (hh:Nat),.int .i64 (wid:Nat)] 24)) TD11 #[.slice x.B x.m x.d,.bool x.t,.int .i64 x.e]
    have b2:=Blk.new ((w.alloc (.cells #[.int .i64 (top:Nat),.int .i64 (left:Nat),.int .i64 (hh:Nat),.int .i64 (wid:Nat)] 24)).alloc (.cells #[.slice x.B x.m x.d,.bool x.t,.int .i64 x.e] TD11)) 26 #[.int .i64 pr,.int .i64 pc]
    have b3:=Blk.new (((w.alloc (.cells #[.int .i64 (top:Nat),.int .i64 (left:Nat),.int .i64 (hh:Nat),.int .i64 (wid:Nat)] 24)).alloc (.cells #[.slice x.B x.m x.d,.bool x.t,.int .i64 x.e] TD11)).alloc (.cells #[.int .i64 pr,.int .i64 pc] 26)) 24 #[.int .i64 0,.int .i64 0,.int .i64 0,.int .i64 0]
    simp only [World.size_alloc] at b1 b2 b3
    rw [hW1,hVB,hGB,hPB,hRB]
    exact ⟨((((Fr.refl [] w).alloc _).alloc _).alloc _).alloc _,(((Blk.new w _ _).alloc _).alloc _).alloc _,(b1.alloc _).alloc _,b2.alloc _,b3⟩
  have HNB:Hid (VB = w.heap.size ∧ GB = w.heap.size + 1 ∧ PB = w.heap.size + 1 + 1 ∧ RB = w.heap.size + 1 + 1 + 1):=⟨hVB,hGB,hPB,hRB⟩
  have HFW:Hid (∀ w',Fr [some VB,some PB] W1 w' → Fr [] w w'):=by
    show ∀ _,_
    intro w' hf
    refine HF.out.1.seq hf fun z hz => ?_
    have hn:=HNB.out
    rcases List.mem_cons.1 hz with e | e
    · exact .inr (.inr ⟨VB,by omega,e⟩)
    · rw [List.mem_singleton] at e; exact .inr (.inr ⟨PB,by omega,e⟩)
  have HC:Hid (∀ w',Fr [some VB,some PB] W1 w' → w'.cell? ⟨GB,0,none⟩ = some (.slice x.B x.m x.d) ∧ w'.cell? ⟨GB,1,none⟩ = some (.bool x.t) ∧ w'.cell? ⟨GB,2,none⟩ = some (.int .i64 x.e)):=by
    show ∀ _,_
    intro w' hf
    have e1:=HF.out.2.2.1.fr hf (by have:=HNB.out; simp; omega)
    exact ⟨e1.cell 0,e1.cell 1,e1.cell 2⟩
  have HCR:Hid (∀ w',Fr [some VB,some PB] W1 w' → w'.cell? ⟨RB,0,none⟩ = some (.int .i64 0) ∧ w'.cell? ⟨RB,1,none⟩ = some (.int .i64 0) ∧ w'.cell? ⟨RB,2,none⟩ = some (.int .i64 0) ∧ w'.cell? ⟨RB,3,none⟩ = some (.int .i64 0) ∧ w'.frozen? ⟨RB,0,none⟩ = false ∧ w'.frozen? ⟨RB,1,none⟩ = false ∧ w'.frozen? ⟨RB,2,none⟩ = false ∧ w'.frozen? ⟨RB,3,none⟩ = false ∧ RB < w'.heap.size):=by
    show ∀ _,_
    intro w' hf
    have e1:=HF.out.2.2.2.2.fr hf (by have:=HNB.out; simp; omega)
    exact ⟨e1.cell 0,e1.cell 1,e1.cell 2,e1.cell 3,e1.frozen 0,e1.frozen 1,e1.frozen 2,e1.frozen 3,e1.lt⟩
  have HFE:Hid (∀ w' a b c d,Fr [some VB,some PB] W1 w' → Fr [] w ((((w'.setCell ⟨RB,0,none⟩ a).setCell ⟨RB,1,none⟩ b).setCell ⟨RB,2,none⟩ c).setCell ⟨RB,3,none⟩ d)):=by
    show ∀ _,_
    intro w' a b c d hf
    have e1:RB < w.heap.size → some RB ∈ ([]:List (Option Nat)):=fun h => absurd h (by have:=HNB.out; omega)
    exact (((((HFW.out w' hf).setB e1 _ _).setB e1 _ _).setB e1 _ _).setB e1 _ _)
  have HST:=Lib.hid (dsettle_any W1 x xs pr pc R C (hd.fr0 HF.out.1) hs hw40)
  obtain ⟨L,hL⟩:∃ L,L = visI xs xs.length:=⟨_,rfl⟩
  have HVS:Hid (∀ w',Fr [] w w' → Calls Tryz.prog 53 #[.agg #[.slice x.B x.m x.d,.bool x.t,.int .i64 x.e]] w' (IntsN w' L)):=by
    show ∀ _,_
    intro w' hf
    rw [hL]
    exact dvisible_any w' x xs (hd.fr0 hf)
  obtain ⟨sb,hsb⟩:∃ sb,sb = decide (((R:Nat):Int) ∈ RowsI xs (min top xs.length) hh):=⟨_,rfl⟩
  have HSE:Hid (∀ w',Fr [] w w' → Calls Tryz.prog 105 #[.agg #[.int .i64 (top:Nat),.int .i64 (left:Nat),.int .i64 (hh:Nat),.int .i64 (wid:Nat)],.agg #[.slice x.B x.m x.d,.bool x.t,.int .i64 x.e],.int .i64 (R:Nat)] w' fun en w'' => en = .returned (.bool sb) ∧ Fr [] w' w''):=by
    show ∀ _,_
    intro w' hf
    rw [hsb]
    exact dseen_any w' x xs top hh left wid (R:Nat) (hd.fr0 hf) h4 ht
  have HLL:Hid (L.length ≤ 400):=by rw [hL]; have h5:=visI_len xs xs.length; have h6:=hd.len; have h7:=hd.n4; show _ ≤ _; omega
  -- what T is
  have HTT:Hid ((L.length = 0 ∧ T = 0) ∨ (L.length ≠ 0 ∧ R < top ∧ T = R) ∨ (L.length ≠ 0 ∧ ¬ R < top ∧ sb = true ∧ T = top) ∨ (L.length ≠ 0 ∧ ¬ R < top ∧ sb = false ∧ ∃ i0:Nat,L[i0]? = some (R:Int) ∧ (∀ j,L[j]? = some (R:Int) → j = i0) ∧ i0 < L.length ∧ (T:Int) = topD L i0 hh)):=by
    rcases hs.set_ with ⟨e1,e2⟩ | ⟨e1,e2⟩
    · have hat:=visI_at xs R e1 e2
      have hlt:(visI xs R).length < L.length:=by
        rcases Nat.lt_or_ge (visI xs R).length L.length with h | h
        · exact h
        · rw [← hL,List.getElem?_eq_none h] at hat; cases hat
      have hT2:=hT
      rw [e2] at hT2
      unfold follT at hT2
      rw [if_neg (by simp; intro e; simp [e] at e1)] at hT2
      refine .inr ?_
      by_cases c1:R < top
      · rw [if_pos c1] at hT2
        exact .inl ⟨by omega,c1,hT2⟩
      · rw [if_neg c1] at hT2
        by_cases c2:((R:Nat):Int) ∈ RowsI xs (min top xs.length) hh
        · refine .inr (.inl ⟨by omega,c1,by rw [hsb]; exact decide_eq_true c2,?_⟩)
          rw [hT2]
          exact if_pos c2
        · refine .inr (.inr ⟨by omega,c1,by rw [hsb]; exact decide_eq_false c2,(visI xs R).length,by rw [hL]; exact hat,fun j hj => visI_uniq xs R j e1 e2 (by rw [← hL]; exact hj),hlt,?_⟩)
          rw [hL,← high_top xs R hh e1 e2 h1,hT2]
          exact congrArg _ (if_neg c2)
    · refine .inl ⟨?_,?_⟩
      · rw [hL]
        unfold visI
        rw [List.length_map]
        exact vis_nil.2 e2
      · rw [hT]
        unfold follT
        rcases Nat.eq_zero_or_pos xs.length with h0 | h0
        · exact if_pos (.inl h0)
        · exact if_pos (.inr (by rw [e1]; exact e2 0 h0))
  have HCC:Hid (C ≤ 40):=by have:=hs.col; show _ ≤ _; omega
  have HWL:Hid (1 ≤ wid ∧ wid ≤ 40 ∧ top ≤ 2 ^ 50 ∧ left ≤ 2 ^ 50 ∧ 1 ≤ hh ∧ hh ≤ 400 ∧ (lf:Int) = max (min (left:Int) C) ((C:Int) - wid + 1)):=⟨w1,w4,ht,hl,h1,h4,hlf⟩
  have n1:¬ GB = PB:=by omega
  have n2:¬ VB = PB:=by omega
  have n3:¬ PB = VB:=by omega
  have n4:¬ GB = VB:=by omega
  have n5:¬ VB = RB:=by omega
  have n6:¬ PB = RB:=by omega
  obtain ⟨xB,xm,xd,xrs,xt,xe⟩:=x
  simp only at HF HST HVS HSE HC hW1
  have HW1:=Lib.hid hW1
  clear hd hs hw40 h1 h4 w1 w4 ht hl hT hlf hL hsb hW1
  go_enter Tryz.func48,Tryz.ntmps48
  go_wp2_with fail
  rw [← HW1.out,← hRB,← hPB,← hGB,← hVB]
  clear hRB hPB hGB hVB
  obtain ⟨g0,g1,g2⟩:=HC.out W1 (Fr.refl _ _)
  have p0:W1.cell? ⟨PB,0,none⟩ = some (.int .i64 pr):=HF.out.2.2.2.1.cell 0
  have p1:W1.cell? ⟨PB,1,none⟩ = some (.int .i64 pc):=HF.out.2.2.2.1.cell 1
  go_wp2_with fail
  refine HST.out.mono ?_
  rintro en w2 ⟨rfl,hf2⟩
  have hb2:=HF.out.2.2.2.1.fr hf2 (by simp)
  have hv2:=HF.out.2.1.fr hf2 (by simp)
  have p0:w2.cell? ⟨PB,0,none⟩ = some (.int .i64 pr):=hb2.cell 0
  have p1:w2.cell? ⟨PB,1,none⟩ = some (.int .i64 pc):=hb2.cell 1
  have y0:=hb2.frozen 0
  have y1:=hb2.frozen 1
  have lp:=hb2.lt
  obtain ⟨g0,g1,g2⟩:=HC.out w2 hf2.of_nil
  obtain ⟨W3,hW3⟩:∃ W3,W3 = (w2.setCell ⟨PB,0,none⟩ (.int .i64 (R:Nat))).setCell ⟨PB,1,none⟩ (.int .i64 (C:Nat)):=⟨_,rfl⟩
  have HE3:Hid (FLp W1 W3 VB PB (top:Nat) (left:Nat) (hh:Nat) (wid:Nat) (R:Nat) (C:Nat)):=by
    rw [hW3]
    exact ⟨(hv2.far (fun e => n2 e) _).far (fun e => n2 e) _,by simpa using (hb2.set_ 0 (.int .i64 (R:Nat))).set_ 1 (.int .i64 (C:Nat)),(hf2.of_nil.setB (fun _ => by simp) _ _).setB (fun _ => by simp) _ _⟩
  clear hb2 hv2 hf2
  go_wp2_with fail
  rw [← hW3]
  clear hW3 p0 p1 y0 y1 lp g0 g1 g2
  refine (HVS.out W3 (HFW.out W3 HE3.out.fr)).mono ?_
  rintro en w4 ⟨B4,n4',c4,rfl,hn4,hs4,hf4,hw4⟩
  have HE4:=Lib.hid (HE3.out.fr0 hf4)
  have HS4:Hid (Sl w4 B4 (intsV L) ∧ n4' = L.length):=⟨hs4,hn4⟩
  have hn6:(n4':Int) ≤ 400:=by have:=HLL.out; omega
  have HSL:Hid (∀ wr,Fr [some VB,some PB] w4 wr → Sl wr B4 (intsV L)):=by
    show ∀ _,_
    intro wr hf
    refine HS4.out.1.fr hf ?_
    cases hB:bk B4 with
    | none => exact .inl rfl
    | some k =>
      refine .inr fun e => ?_
      have h1:=hw4 k hB
      have h2:=HE3.out.vb.lt
      have h3:=HE3.out.pb.lt
      rcases List.mem_cons.1 e with e | e
      · injection e with e; omega
      · rw [List.mem_singleton] at e; injection e with e; omega
  have HFN:Hid (∀ wr a b c d,Fr [some VB,some PB] W1 wr → Fr [] w ((((wr.setCell ⟨RB,0,none⟩ a).setCell ⟨RB,1,none⟩ b).setCell ⟨RB,2,none⟩ c).setCell ⟨RB,3,none⟩ d)):=HFE
  clear hn4 hs4 hf4 hw4 HE3 HVS HST
  obtain ⟨e1,e2,he1,he2⟩:∃ e1 e2:Int,e1 = (C:Int) - (wid:Int) ∧ e2 = (C:Int) - (wid:Int) + 1:=⟨_,_,rfl,rfl⟩
  have hwa:IntKind.i64.wrap ((C:Int) - (wid:Int)) = e1:=by rw [IntWalk.i64_in _ (by have h1:=HWL.out; have h2:=HCC.out; omega)]; exact he1.symm
  have hwb:IntKind.i64.wrap (e1 + 1) = e2:=by rw [IntWalk.i64_in _ (by have h1:=HWL.out; have h2:=HCC.out; omega)]; omega
  have HE12:Hid (e2 = (C:Int) - (wid:Int) + 1):=he2
  clear he1 he2
  have n7:¬ RB = VB:=fun e => n5 e.symm
  have n8:¬ RB = PB:=fun e => n6 e.symm
  have n9:¬ VB = GB:=fun e => n4 e.symm
  have hn4L:Hid (n4' = L.length):=HS4.out.2
  rcases HTT.out with ⟨t1,t2⟩ | ⟨t1,t2,t3⟩ | ⟨t1,t2,t3,t4⟩ | ⟨t1,t2,t3,i0,t4,t5,t6,t7⟩
  · have hz:((n4':Int) == 0) = true:=by have:=hn4L.out; simp; omega
    have HTQ:Hid ((T:Int) = 0):=by show _ = _; omega
    clear t1 t2
    have v0:w4.cell? ⟨VB,0,none⟩ = some (.int .i64 (top:Nat)):=HE4.out.vb.cell 0
    have v1:w4.cell? ⟨VB,1,none⟩ = some (.int .i64 (left:Nat)):=HE4.out.vb.cell 1
    have v2:w4.cell? ⟨VB,2,none⟩ = some (.int .i64 (hh:Nat)):=HE4.out.vb.cell 2
    have v3:w4.cell? ⟨VB,3,none⟩ = some (.int .i64 (wid:Nat)):=HE4.out.vb.cell 3
    have p0:w4.cell? ⟨PB,0,none⟩ = some (.int .i64 (R:Nat)):=HE4.out.pb.cell 0
    have p1:w4.cell? ⟨PB,1,none⟩ = some (.int .i64 (C:Nat)):=HE4.out.pb.cell 1
    have f0:=HE4.out.vb.frozen 0
    have f1:=HE4.out.vb.frozen 1
    have lv:=HE4.out.vb.lt
    obtain ⟨r0,r1,r2,r3,z0,z1,z2,z3,lr⟩:=HCR.out w4 HE4.out.fr
    by_cases c1:(C:Int) < (left:Int)
    · have HLQ:Hid ((lf:Int) = (C:Nat)):=by have h1:=HWL.out; show _ = _; omega
      have c2:¬ (C:Int) < e2:=by have h1:=HE12.out; have h2:=HWL.out; omega
      have HX:=Lib.hid (fun a b c d => HFN.out ((w4.setCell ⟨VB,0,none⟩ (.int .i64 0)).setCell ⟨VB,1,none⟩ (.int .i64 (C:Nat))) a b c d ((HE4.out.top n3 0).left n3 (C:Nat)).fr)
      go_wp2_with fail
      refine bodyPost_ret (v:=.agg #[.int .i64 0,.int .i64 (C:Nat),.int .i64 (hh:Nat),.int .i64 (wid:Nat)]) (by simp [results,Tryz.results48,go_sem, *]) rfl ?_
      exact ⟨by rw [HTQ.out,HLQ.out],HX.out _ _ _ _⟩
    · by_cases c2:(left:Int) < e2
      · have HLQ:Hid ((lf:Int) = e2):=by have h1:=HWL.out; have h2:=HE12.out; show _ = _; omega
        have HX:=Lib.hid (fun a b c d => HFN.out ((w4.setCell ⟨VB,0,none⟩ (.int .i64 0)).setCell ⟨VB,1,none⟩ (.int .i64 e2)) a b c d ((HE4.out.top n3 0).left n3 e2).fr)
        go_wp2_with fail
        refine bodyPost_ret (v:=.agg #[.int .i64 0,.int .i64 e2,.int .i64 (hh:Nat),.int .i64 (wid:Nat)]) (by simp [results,Tryz.results48,go_sem, *]) rfl ?_
        exact ⟨by rw [HTQ.out,HLQ.out],HX.out _ _ _ _⟩
      · have HLQ:Hid ((lf:Int) = (left:Nat)):=by have h1:=HWL.out; have h2:=HE12.out; show _ = _; omega
        have HX:=Lib.hid (fun a b c d => HFN.out (w4.setCell ⟨VB,0,none⟩ (.int .i64 0)) a b c d ((HE4.out.top n3 0)).fr)
        go_wp2_with fail
        refine bodyPost_ret (v:=.agg #[.int .i64 0,.int .i64 (left:Nat),.int .i64 (hh:Nat),.int .i64 (wid:Nat)]) (by simp [results,Tryz.results48,go_sem, *]) rfl ?_
        exact ⟨by rw [HTQ.out,HLQ.out],HX.out _ _ _ _⟩
  · have hz:((n4':Int) == 0) = false:=by have:=hn4L.out; rw [beq_eq_false_iff_ne]; omega
    have hz2:¬ (n4':Int) = 0:=by have:=hn4L.out; omega
    have hrt:(R:Int) < (top:Int):=by omega
    have HTQ:Hid ((T:Int) = (R:Nat)):=by show _ = _; omega
    clear t1 t2 t3
    have v0:w4.cell? ⟨VB,0,none⟩ = some (.int .i64 (top:Nat)):=HE4.out.vb.cell 0
    have v1:w4.cell? ⟨VB,1,none⟩ = some (.int .i64 (left:Nat)):=HE4.out.vb.cell 1
    have v2:w4.cell? ⟨VB,2,none⟩ = some (.int .i64 (hh:Nat)):=HE4.out.vb.cell 2
    have v3:w4.cell? ⟨VB,3,none⟩ = some (.int .i64 (wid:Nat)):=HE4.out.vb.cell 3
    have p0:w4.cell? ⟨PB,0,none⟩ = some (.int .i64 (R:Nat)):=HE4.out.pb.cell 0
    have p1:w4.cell? ⟨PB,1,none⟩ = some (.int .i64 (C:Nat)):=HE4.out.pb.cell 1
    have f0:=HE4.out.vb.frozen 0
    have f1:=HE4.out.vb.frozen 1
    have lv:=HE4.out.vb.lt
    obtain ⟨r0,r1,r2,r3,z0,z1,z2,z3,lr⟩:=HCR.out w4 HE4.out.fr
    by_cases c1:(C:Int) < (left:Int)
    · have HLQ:Hid ((lf:Int) = (C:Nat)):=by have h1:=HWL.out; show _ = _; omega
      have c2:¬ (C:Int) < e2:=by have h1:=HE12.out; have h2:=HWL.out; omega
      have HX:=Lib.hid (fun a b c d => HFN.out ((w4.setCell ⟨VB,0,none⟩ (.int .i64 (R:Nat))).setCell ⟨VB,1,none⟩ (.int .i64 (C:Nat))) a b c d ((HE4.out.top n3 (R:Nat)).left n3 (C:Nat)).fr)
      go_wp2_with fail
      refine bodyPost_ret (v:=.agg #[.int .i64 (R:Nat),.int .i64 (C:Nat),.int .i64 (hh:Nat),.int .i64 (wid:Nat)]) (by simp [results,Tryz.results48,go_sem, *]) rfl ?_
      exact ⟨by rw [HTQ.out,HLQ.out],HX.out _ _ _ _⟩
    · by_cases c2:(left:Int) < e2
      · have HLQ:Hid ((lf:Int) = e2):=by have h1:=HWL.out; have h2:=HE12.out; show _ = _; omega
        have HX:=Lib.hid (fun a b c d => HFN.out ((w4.setCell ⟨VB,0,none⟩ (.int .i64 (R:Nat))).setCell ⟨VB,1,none⟩ (.int .i64 e2)) a b c d ((HE4.out.top n3 (R:Nat)).left n3 e2).fr)
        go_wp2_with fail
        refine bodyPost_ret (v:=.agg #[.int .i64 (R:Nat),.int .i64 e2,.int .i64 (hh:Nat),.int .i64 (wid:Nat)]) (by simp [results,Tryz.results48,go_sem, *]) rfl ?_
        exact ⟨by rw [HTQ.out,HLQ.out],HX.out _ _ _ _⟩
      · have HLQ:Hid ((lf:Int) = (left:Nat)):=by have h1:=HWL.out; have h2:=HE12.out; show _ = _; omega
        have HX:=Lib.hid (fun a b c d => HFN.out (w4.setCell ⟨VB,0,none⟩ (.int .i64 (R:Nat))) a b c d ((HE4.out.top n3 (R:Nat))).fr)
        go_wp2_with fail
        refine bodyPost_ret (v:=.agg #[.int .i64 (R:Nat),.int .i64 (left:Nat),.int .i64 (hh:Nat),.int .i64 (wid:Nat)]) (by simp [results,Tryz.results48,go_sem, *]) rfl ?_
        exact ⟨by rw [HTQ.out,HLQ.out],HX.out _ _ _ _⟩
  · have hz:((n4':Int) == 0) = false:=by have:=hn4L.out; rw [beq_eq_false_iff_ne]; omega
    have hz2:¬ (n4':Int) = 0:=by have:=hn4L.out; omega
    have hrt:¬ (R:Int) < (top:Int):=by omega
    have HTQ:Hid ((T:Int) = (top:Nat)):=by show _ = _; omega
    clear t1 t2 t4
    subst t3
    have v0:w4.cell? ⟨VB,0,none⟩ = some (.int .i64 (top:Nat)):=HE4.out.vb.cell 0
    have v1:w4.cell? ⟨VB,1,none⟩ = some (.int .i64 (left:Nat)):=HE4.out.vb.cell 1
    have v2:w4.cell? ⟨VB,2,none⟩ = some (.int .i64 (hh:Nat)):=HE4.out.vb.cell 2
    have v3:w4.cell? ⟨VB,3,none⟩ = some (.int .i64 (wid:Nat)):=HE4.out.vb.cell 3
    have p0:w4.cell? ⟨PB,0,none⟩ = some (.int .i64 (R:Nat)):=HE4.out.pb.cell 0
    have p1:w4.cell? ⟨PB,1,none⟩ = some (.int .i64 (C:Nat)):=HE4.out.pb.cell 1
    have f0:=HE4.out.vb.frozen 0
    have f1:=HE4.out.vb.frozen 1
    have lv:=HE4.out.vb.lt
    obtain ⟨g0,g1,g2⟩:=HC.out w4 HE4.out.fr
    go_wp2_with fail
    refine (HSE.out w4 (HFW.out w4 HE4.out.fr)).mono ?_
    rintro en w5 ⟨rfl,hf5⟩
    have HE5:=Lib.hid (HE4.out.fr0 hf5)
    clear v0 v1 v2 v3 p0 p1 f0 f1 lv g0 g1 g2
    clear hf5
    have v0:w5.cell? ⟨VB,0,none⟩ = some (.int .i64 (top:Nat)):=HE5.out.vb.cell 0
    have v1:w5.cell? ⟨VB,1,none⟩ = some (.int .i64 (left:Nat)):=HE5.out.vb.cell 1
    have v2:w5.cell? ⟨VB,2,none⟩ = some (.int .i64 (hh:Nat)):=HE5.out.vb.cell 2
    have v3:w5.cell? ⟨VB,3,none⟩ = some (.int .i64 (wid:Nat)):=HE5.out.vb.cell 3
    have p0:w5.cell? ⟨PB,0,none⟩ = some (.int .i64 (R:Nat)):=HE5.out.pb.cell 0
    have p1:w5.cell? ⟨PB,1,none⟩ = some (.int .i64 (C:Nat)):=HE5.out.pb.cell 1
    have f0:=HE5.out.vb.frozen 0
    have f1:=HE5.out.vb.frozen 1
    have lv:=HE5.out.vb.lt
    obtain ⟨r0,r1,r2,r3,z0,z1,z2,z3,lr⟩:=HCR.out w5 HE5.out.fr
    by_cases c1:(C:Int) < (left:Int)
    · have HLQ:Hid ((lf:Int) = (C:Nat)):=by have h1:=HWL.out; show _ = _; omega
      have c2:¬ (C:Int) < e2:=by have h1:=HE12.out; have h2:=HWL.out; omega
      have HX:=Lib.hid (fun a b c d => HFN.out (w5.setCell ⟨VB,1,none⟩ (.int .i64 (C:Nat))) a b c d (HE5.out.left n3 (C:Nat)).fr)
      go_wp2_with fail
      refine bodyPost_ret (v:=.agg #[.int .i64 (top:Nat),.int .i64 (C:Nat),.int .i64 (hh:Nat),.int .i64 (wid:Nat)]) (by simp [results,Tryz.results48,go_sem, *]) rfl ?_
      exact ⟨by rw [HTQ.out,HLQ.out],HX.out _ _ _ _⟩
    · by_cases c2:(left:Int) < e2
      · have HLQ:Hid ((lf:Int) = e2):=by have h1:=HWL.out; have h2:=HE12.out; show _ = _; omega
        have HX:=Lib.hid (fun a b c d => HFN.out (w5.setCell ⟨VB,1,none⟩ (.int .i64 e2)) a b c d (HE5.out.left n3 e2).fr)
        go_wp2_with fail
        refine bodyPost_ret (v:=.agg #[.int .i64 (top:Nat),.int .i64 e2,.int .i64 (hh:Nat),.int .i64 (wid:Nat)]) (by simp [results,Tryz.results48,go_sem, *]) rfl ?_
        exact ⟨by rw [HTQ.out,HLQ.out],HX.out _ _ _ _⟩
      · have HLQ:Hid ((lf:Int) = (left:Nat)):=by have h1:=HWL.out; have h2:=HE12.out; show _ = _; omega
        have HX:=Lib.hid (fun a b c d => HFN.out w5 a b c d (HE5.out).fr)
        go_wp2_with fail
        refine bodyPost_ret (v:=.agg #[.int .i64 (top:Nat),.int .i64 (left:Nat),.int .i64 (hh:Nat),.int .i64 (wid:Nat)]) (by simp [results,Tryz.results48,go_sem, *]) rfl ?_
        exact ⟨by rw [HTQ.out,HLQ.out],HX.out _ _ _ _⟩
  · have hz:((n4':Int) == 0) = false:=by have:=hn4L.out; rw [beq_eq_false_iff_ne]; omega
    have hz2:¬ (n4':Int) = 0:=by have:=hn4L.out; omega
    have hrt:¬ (R:Int) < (top:Int):=by omega
    have HI0:Hid (L[i0]? = some (R:Int) ∧ (∀ j,L[j]? = some (R:Int) → j = i0) ∧ i0 < L.length ∧ (T:Int) = topD L i0 hh):=⟨t4,t5,t6,t7⟩
    clear t1 t2 t4 t5 t6 t7
    subst t3
    have v0:w4.cell? ⟨VB,0,none⟩ = some (.int .i64 (top:Nat)):=HE4.out.vb.cell 0
    have v1:w4.cell? ⟨VB,1,none⟩ = some (.int .i64 (left:Nat)):=HE4.out.vb.cell 1
    have v2:w4.cell? ⟨VB,2,none⟩ = some (.int .i64 (hh:Nat)):=HE4.out.vb.cell 2
    have v3:w4.cell? ⟨VB,3,none⟩ = some (.int .i64 (wid:Nat)):=HE4.out.vb.cell 3
    have p0:w4.cell? ⟨PB,0,none⟩ = some (.int .i64 (R:Nat)):=HE4.out.pb.cell 0
    have p1:w4.cell? ⟨PB,1,none⟩ = some (.int .i64 (C:Nat)):=HE4.out.pb.cell 1
    have f0:=HE4.out.vb.frozen 0
    have f1:=HE4.out.vb.frozen 1
    have lv:=HE4.out.vb.lt
    obtain ⟨g0,g1,g2⟩:=HC.out w4 HE4.out.fr
    go_wp2_with fail
    refine (HSE.out w4 (HFW.out w4 HE4.out.fr)).mono ?_
    rintro en w5 ⟨rfl,hf5⟩
    have HE5:=Lib.hid (HE4.out.fr0 hf5)
    clear v0 v1 v2 v3 p0 p1 f0 f1 lv g0 g1 g2
    have HF5:=Lib.hid hf5
    clear hf5 hz hz2 hrt
    go_wp2_with fail
    go_loopg [36] n4' (fun k iv wr => ∃ j:Nat,k + j = n4' ∧ iv = .int .i64 j ∧ Hid (∃ tv:Int,FLp W1 wr VB PB tv (left:Nat) (hh:Nat) (wid:Nat) (R:Nat) (C:Nat) ∧ Fr [some VB,some PB] w4 wr ∧ ((j ≤ i0 ∧ tv = (top:Nat)) ∨ (i0 < j ∧ tv = (T:Nat)))))
    case atStart => exact ⟨0,by omega,rfl,(top:Nat),HE5.out,HF5.out.of_nil,.inl ⟨Nat.zero_le _,rfl⟩⟩
    case round =>
      obtain ⟨j,hj,rfl,HI⟩:=hrel
      obtain ⟨tv,htv⟩:=HI.out
      have HT:=Lib.hid htv
      clear htv HI
      by_cases hlt:j < n4'
      · have hil:j < L.length:=by have:=hn4L.out; omega
        obtain ⟨ad,rfl,hcell⟩:=intsV_at (HSL.out wr HT.out.2.1) hil
        obtain ⟨r,hr⟩:∃ r,r = L[j]:=⟨_,rfl⟩
        rw [← hr] at hcell
        have hj0:(0:Int) ≤ (j:Int):=by omega
        have hj1:(j:Int) < (n4':Int):=by omega
        have HJ:Hid (j < n4' ∧ n4' ≤ 400):=⟨hlt,by omega⟩
        have v0:wr.cell? ⟨VB,0,none⟩ = some (.int .i64 tv):=HT.out.1.vb.cell 0
        have v2:wr.cell? ⟨VB,2,none⟩ = some (.int .i64 (hh:Nat)):=HT.out.1.vb.cell 2
        have p0:wr.cell? ⟨PB,0,none⟩ = some (.int .i64 (R:Nat)):=HT.out.1.pb.cell 0
        have f0:=HT.out.1.vb.frozen 0
        have lv:=HT.out.1.vb.lt
        by_cases hrR:r = (R:Int)
        · have hrr:(r == (R:Int)) = true:=by simpa using hrR
          have HJI:Hid (j = i0):=HI0.out.2.1 j (by rw [List.getElem?_eq_getElem hil,← hr,hrR])
          obtain ⟨a1,a2,ha1,ha2⟩:∃ a1 a2:Int,a1 = (j:Int) - (hh:Int) ∧ a2 = (j:Int) - (hh:Int) + 1:=⟨_,_,rfl,rfl⟩
          have hwc:IntKind.i64.wrap ((j:Int) - (hh:Int)) = a1:=by rw [IntWalk.i64_in _ (by have h1:=HWL.out; omega)]; exact ha1.symm
          have hwd:IntKind.i64.wrap (a1 + 1) = a2:=by rw [IntWalk.i64_in _ (by have h1:=HWL.out; omega)]; omega
          have HTP:Hid (∀ u,L[j + 1 - hh]? = some u → (T:Int) = u):=by
            show ∀ _,_
            intro u hu
            rw [HI0.out.2.2.2,← HJI.out]
            unfold topD
            rw [hu]
            rfl
          have HA2:Hid (a2 = (j:Int) - (hh:Int) + 1):=ha2
          clear hr hrR ha1 ha2
          by_cases hneg:a2 < 0
          · have hkl:0 < L.length:=by omega
            obtain ⟨ad0,hade,hc0⟩:=intsV_at (HSL.out wr HT.out.2.1) hkl
            injection hade with hade
            subst hade
            obtain ⟨u,hu⟩:∃ u,u = L[0]:=⟨_,rfl⟩
            rw [← hu] at hc0
            have hc1:wr.cell? ad = some (.int .i64 u):=by rwa [show ad.add 0 = ad by cases ad; simp [Addr.add]] at hc0
            have HTU:Hid ((T:Int) = u):=HTP.out u (by rw [show j + 1 - hh = 0 by have:=HA2.out; omega,List.getElem?_eq_getElem hkl,hu])
            have HNX:Hid (FLp W1 (wr.setCell ⟨VB,0,none⟩ (.int .i64 u)) VB PB u (left:Nat) (hh:Nat) (wid:Nat) (R:Nat) (C:Nat) ∧ Fr [some VB,some PB] w4 (wr.setCell ⟨VB,0,none⟩ (.int .i64 u))):=⟨HT.out.1.top n3 u,HT.out.2.1.setB (fun _ => by simp) _ _⟩
            have hn0:(0:Int) < (n4':Int):=by omega
            clear hu hkl hil
            go_wp2_with fail
            go_roundg (n4' - (j + 1))
            case rel => exact ⟨j + 1,by have:=HJ.out; omega,by go_num,u,HNX.out.1,HNX.out.2,.inr ⟨by have:=HJI.out; omega,HTU.out.symm⟩⟩
            case measure => have:=HJ.out; omega
          · obtain ⟨kk,rfl⟩:∃ kk:Nat,a2 = (kk:Int):=Int.eq_ofNat_of_zero_le (by omega)
            have hkl:kk < L.length:=by have h1:=HA2.out; have h2:=HWL.out; omega
            obtain ⟨ad0,hade,hc0⟩:=intsV_at (HSL.out wr HT.out.2.1) hkl
            injection hade with hade
            subst hade
            obtain ⟨u,hu⟩:∃ u,u = L[kk]:=⟨_,rfl⟩
            rw [← hu] at hc0
            have HTU:Hid ((T:Int) = u):=HTP.out u (by rw [show j + 1 - hh = kk by have:=HA2.out; omega,List.getElem?_eq_getElem hkl,hu])
            have HNX:Hid (FLp W1 (wr.setCell ⟨VB,0,none⟩ (.int .i64 u)) VB PB u (left:Nat) (hh:Nat) (wid:Nat) (R:Nat) (C:Nat) ∧ Fr [some VB,some PB] w4 (wr.setCell ⟨VB,0,none⟩ (.int .i64 u))):=⟨HT.out.1.top n3 u,HT.out.2.1.setB (fun _ => by simp) _ _⟩
            have hk0:(0:Int) ≤ (kk:Int):=by omega
            have hk1:(kk:Int) < (n4':Int):=by have:=hn4L.out; omega
            clear hu hkl hil
            go_wp2_with fail
            go_roundg (n4' - (j + 1))
            case rel => exact ⟨j + 1,by have:=HJ.out; omega,by go_num,u,HNX.out.1,HNX.out.2,.inr ⟨by have:=HJI.out; omega,HTU.out.symm⟩⟩
            case measure => have:=HJ.out; omega
        · have hrr:(r == (R:Int)) = false:=by simpa using hrR
          have HJI:Hid (j ≠ i0):=by
            show _ ≠ _
            intro e
            have h1:=HI0.out.1
            rw [← e,List.getElem?_eq_getElem hil,← hr] at h1
            exact hrR (Option.some.inj h1)
          clear hr hrR hil
          go_wp2_with fail
          go_roundg (n4' - (j + 1))
          case rel => exact ⟨j + 1,by have:=HJ.out; omega,by go_num,tv,HT.out.1,HT.out.2.1,by
            have h1:=HJI.out
            rcases HT.out.2.2 with ⟨h2,h3⟩ | ⟨h2,h3⟩
            · exact .inl ⟨by omega,h3⟩
            · exact .inr ⟨by omega,h3⟩⟩
          case measure => have:=HJ.out; omega
      · obtain rfl:j = n4':=by omega
        have HEQ:Hid (tv = (T:Nat)):=by
          rcases HT.out.2.2 with ⟨h2,_⟩ | ⟨_,h3⟩
          · have h4:=HI0.out.2.2.1
            have h5:=hn4L.out
            omega
          · exact h3
        have HTF:Hid (FLp W1 wr VB PB (T:Nat) (left:Nat) (hh:Nat) (wid:Nat) (R:Nat) (C:Nat)):=by have h1:=HT.out.1; rwa [HEQ.out] at h1
        clear HT hlt hj HEQ
        have v0:wr.cell? ⟨VB,0,none⟩ = some (.int .i64 (T:Nat)):=HTF.out.vb.cell 0
        have v1:wr.cell? ⟨VB,1,none⟩ = some (.int .i64 (left:Nat)):=HTF.out.vb.cell 1
        have v2:wr.cell? ⟨VB,2,none⟩ = some (.int .i64 (hh:Nat)):=HTF.out.vb.cell 2
        have v3:wr.cell? ⟨VB,3,none⟩ = some (.int .i64 (wid:Nat)):=HTF.out.vb.cell 3
        have p0:wr.cell? ⟨PB,0,none⟩ = some (.int .i64 (R:Nat)):=HTF.out.pb.cell 0
        have p1:wr.cell? ⟨PB,1,none⟩ = some (.int .i64 (C:Nat)):=HTF.out.pb.cell 1
        have f0:=HTF.out.vb.frozen 0
        have f1:=HTF.out.vb.frozen 1
        have lv:=HTF.out.vb.lt
        obtain ⟨r0,r1,r2,r3,z0,z1,z2,z3,lr⟩:=HCR.out wr HTF.out.fr
        by_cases c1:(C:Int) < (left:Int)
        · have HLQ:Hid ((lf:Int) = (C:Nat)):=by have h1:=HWL.out; show _ = _; omega
          have c2:¬ (C:Int) < e2:=by have h1:=HE12.out; have h2:=HWL.out; omega
          have HX:=Lib.hid (fun a b c d => HFN.out (wr.setCell ⟨VB,1,none⟩ (.int .i64 (C:Nat))) a b c d (HTF.out.left n3 (C:Nat)).fr)
          go_wp2_with fail
          refine bodyPost_ret (v:=.agg #[.int .i64 (T:Nat),.int .i64 (C:Nat),.int .i64 (hh:Nat),.int .i64 (wid:Nat)]) (by simp [results,Tryz.results48,go_sem, *]) rfl ?_
          exact ⟨by rw [HLQ.out],HX.out _ _ _ _⟩
        · by_cases c2:(left:Int) < e2
          · have HLQ:Hid ((lf:Int) = e2):=by have h1:=HWL.out; have h2:=HE12.out; show _ = _; omega
            have HX:=Lib.hid (fun a b c d => HFN.out (wr.setCell ⟨VB,1,none⟩ (.int .i64 e2)) a b c d (HTF.out.left n3 e2).fr)
            go_wp2_with fail
            refine bodyPost_ret (v:=.agg #[.int .i64 (T:Nat),.int .i64 e2,.int .i64 (hh:Nat),.int .i64 (wid:Nat)]) (by simp [results,Tryz.results48,go_sem, *]) rfl ?_
            exact ⟨by rw [HLQ.out],HX.out _ _ _ _⟩
          · have HLQ:Hid ((lf:Int) = (left:Nat)):=by have h1:=HWL.out; have h2:=HE12.out; show _ = _; omega
            have HX:=Lib.hid (fun a b c d => HFN.out wr a b c d (HTF.out).fr)
            go_wp2_with fail
            refine bodyPost_ret (v:=.agg #[.int .i64 (T:Nat),.int .i64 (left:Nat),.int .i64 (hh:Nat),.int .i64 (wid:Nat)]) (by simp [results,Tryz.results48,go_sem, *]) rfl ?_
            exact ⟨by rw [HLQ.out],HX.out _ _ _ _⟩

end Go.Proofs.YtblafakafgediaaGreat
