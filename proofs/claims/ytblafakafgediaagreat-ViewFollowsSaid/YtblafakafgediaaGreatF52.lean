import Derived.Test.YtblafakafgediaaGreatF44
import Derived.Test.YtblafakafgediaaGreatF29
import Derived.Test.YtblafakafgediaaGreatF51
import Derived.Test.YtblafakafgediaaGreatF49
namespace Go.Proofs.YtblafakafgediaaGreat
open Go.RowKit Go.Proofs.Dm

set_option maxRecDepth 100000 in
set_option maxHeartbeats 1600000 in
theorem ours_any (w:World) (t l h x:Int) :
    Calls Tryz.prog 47 #[.agg #[.int .i64 t,.int .i64 l,.int .i64 h,.int .i64 x]] w fun e w' => e = .returned (.agg #[.int .i64 t,.int .i64 l,.int .i64 h,.int .i64 x]) ∧ Fr [] w w':=by
  have HF:Hid (∀ o o':Obj,Fr [] w ((w.alloc o).alloc o')):=fun _ _ => ((Fr.refl [] w).alloc _).alloc _
  go_enter Tryz.func47,Tryz.ntmps47
  go_wp2_with fail
  refine bodyPost_ret (v:=.agg #[.int .i64 t,.int .i64 l,.int .i64 h,.int .i64 x]) (by simp [results,Tryz.results47,go_sem, *] <;> rfl) rfl ?_
  exact ⟨rfl,HF.out _ _⟩
end Go.Proofs.YtblafakafgediaaGreat
namespace Go.Proofs.YtblafakafgediaaGreat
open Go.RowKit Go.Proofs.Dm

set_option maxRecDepth 100000 in
set_option maxHeartbeats 6400000 in
theorem viewFollows_any (w:World) (s0:List UInt8) (m t l h x pr pc nn:Int) :
    Calls Tryz.prog 7 #[.string ⟨s0.toArray⟩,.int .u64 m,.agg #[.int .i64 t,.int .i64 l,.int .i64 h,.int .i64 x,.int .i64 pr,.int .i64 pc,.int .i64 nn]] w fun e w' => e = .returned (.bool true) ∧ Fr [] w w':=by
  obtain ⟨W1,hW1⟩:∃ W1,W1 = w.alloc (.cells #[.int .i64 t,.int .i64 l,.int .i64 h,.int .i64 x,.int .i64 pr,.int .i64 pc,.int .i64 nn] 28):=⟨_,rfl⟩
  obtain ⟨X5,hX5⟩:∃ X5,X5 = w.heap.size:=⟨_,rfl⟩
  have HW:Hid (Fr [] w W1 ∧ Blk W1 X5 28 #[.int .i64 t,.int .i64 l,.int .i64 h,.int .i64 x,.int .i64 pr,.int .i64 pc,.int .i64 nn]):=by
    rw [hW1,hX5]
    exact ⟨(Fr.refl [] w).alloc _,Blk.new w _ _⟩
  have HHI:=Lib.hid (hide_any W1 s0 m)
  have HW1:=Lib.hid hW1
  clear hW1
  go_enter Tryz.func7,Tryz.ntmps7
  go_wp2_with fail
  rw [← HW1.out,← hX5]
  clear hX5
  refine HHI.out.mono ?_
  rintro en w2 ⟨g,p,tl,eo,s,rs,⟨zB,zm,zd,zrs,zt,ze⟩,ok,rfl,hg2,hf2⟩
  simp only
  have HG2:=Lib.hid hg2
  have HF2:=Lib.hid hf2
  obtain ⟨G7,hG7⟩:∃ G7,G7 = w2.heap.size:=⟨_,rfl⟩
  obtain ⟨D9,hD9⟩:∃ D9,D9 = w2.heap.size + 1:=⟨_,rfl⟩
  obtain ⟨W3,hW3⟩:∃ W3,W3 = (w2.alloc (.cells #[.pointer p,.bool tl,.int .i64 eo] TGr)).alloc (.cells #[.slice zB zm zd,.bool zt,.int .i64 ze] TD11):=⟨_,rfl⟩
  have HE3:Hid (Fr [] w W3 ∧ Blk W3 X5 28 #[.int .i64 t,.int .i64 l,.int .i64 h,.int .i64 x,.int .i64 pr,.int .i64 pc,.int .i64 nn] ∧ Blk W3 G7 TGr #[.pointer p,.bool tl,.int .i64 eo] ∧ HG [] s g p tl eo rs ⟨zB,zm,zd,zrs,zt,ze⟩ W3 ∧ Blk W3 D9 TD11 #[.slice zB zm zd,.bool zt,.int .i64 ze]):=by
    have hf:Fr [] w2 W3:=by rw [hW3]; exact ((Fr.refl [] w2).alloc _).alloc _
    have b9:=Blk.new (w2.alloc (.cells #[.pointer p,.bool tl,.int .i64 eo] TGr)) TD11 #[.slice zB zm zd,.bool zt,.int .i64 ze]
    rw [World.size_alloc,← hW3,← hD9] at b9
    exact ⟨(HW.out.1.trans HF2.out).trans hf,(HW.out.2.fr HF2.out (by simp)).fr hf (by simp),by rw [hW3,hG7]; exact (Blk.new w2 TGr _).alloc _,HG2.out.fr0 hf,b9⟩
  have x0:W3.cell? ⟨X5,0,none⟩ = some (.int .i64 t):=HE3.out.2.1.cell 0
  have x1:W3.cell? ⟨X5,1,none⟩ = some (.int .i64 l):=HE3.out.2.1.cell 1
  have x2:W3.cell? ⟨X5,2,none⟩ = some (.int .i64 h):=HE3.out.2.1.cell 2
  have x3:W3.cell? ⟨X5,3,none⟩ = some (.int .i64 x):=HE3.out.2.1.cell 3
  rw [hW3] at x0 x1 x2 x3
  have HW3:=Lib.hid hW3
  clear hW3 hg2 hf2
  go_wp2_with fail
  rw [← HW3.out,← hD9,← hG7]
  clear hD9 hG7 x0 x1 x2 x3
  refine (right29_any W3 t l h x).mono ?_
  rintro en w4 ⟨rfl,hf4⟩
  obtain ⟨is,his⟩:∃ is,is = decide (RightV t l h x):=⟨_,rfl⟩
  rw [← his]
  have HIS:=Lib.hid his
  obtain ⟨V11,hV11⟩:∃ V11,V11 = w4.heap.size:=⟨_,rfl⟩
  obtain ⟨U12,hU12⟩:∃ U12,U12 = w4.heap.size + 1:=⟨_,rfl⟩
  obtain ⟨W5,hW5⟩:∃ W5,W5 = (w4.alloc (.cells #[.int .i64 t,.int .i64 l,.int .i64 h,.int .i64 x] 40)).alloc (.cells #[.int .i64 t,.int .i64 l,.int .i64 h,.int .i64 x] 24):=⟨_,rfl⟩
  have HE5:Hid (Fr [] w W5 ∧ Blk W5 X5 28 #[.int .i64 t,.int .i64 l,.int .i64 h,.int .i64 x,.int .i64 pr,.int .i64 pc,.int .i64 nn] ∧ Blk W5 G7 TGr #[.pointer p,.bool tl,.int .i64 eo] ∧ HG [] s g p tl eo rs ⟨zB,zm,zd,zrs,zt,ze⟩ W5 ∧ Blk W5 V11 40 #[.int .i64 t,.int .i64 l,.int .i64 h,.int .i64 x] ∧ Blk W5 D9 TD11 #[.slice zB zm zd,.bool zt,.int .i64 ze] ∧ Blk W5 U12 24 #[.int .i64 t,.int .i64 l,.int .i64 h,.int .i64 x]):=by
    have hf:Fr [] w4 W5:=by rw [hW5]; exact ((Fr.refl [] w4).alloc _).alloc _
    have b12:=Blk.new (w4.alloc (.cells #[.int .i64 t,.int .i64 l,.int .i64 h,.int .i64 x] 40)) 24 #[.int .i64 t,.int .i64 l,.int .i64 h,.int .i64 x]
    rw [World.size_alloc,← hW5,← hU12] at b12
    have hh:=hf4.trans hf
    exact ⟨HE3.out.1.trans hh,HE3.out.2.1.fr hh (by simp),HE3.out.2.2.1.fr hh (by simp),HE3.out.2.2.2.1.fr0 hh,by rw [hW5,hV11]; exact (Blk.new w4 _ _).alloc _,HE3.out.2.2.2.2.fr hh (by simp),b12⟩
  have HCX:Hid (∀ w',Fr [] W5 w' → w'.cell? ⟨X5,4,none⟩ = some (.int .i64 pr) ∧ w'.cell? ⟨X5,5,none⟩ = some (.int .i64 pc) ∧ w'.cell? ⟨X5,6,none⟩ = some (.int .i64 nn) ∧ w'.cell? ⟨G7,0,none⟩ = some (.pointer p) ∧ w'.cell? ⟨G7,1,none⟩ = some (.bool tl) ∧ w'.cell? ⟨G7,2,none⟩ = some (.int .i64 eo) ∧ w'.cell? ⟨V11,0,none⟩ = some (.int .i64 t) ∧ w'.cell? ⟨V11,1,none⟩ = some (.int .i64 l) ∧ w'.cell? ⟨V11,2,none⟩ = some (.int .i64 h) ∧ w'.cell? ⟨V11,3,none⟩ = some (.int .i64 x) ∧ w'.cell? ⟨U12,0,none⟩ = some (.int .i64 t) ∧ w'.cell? ⟨U12,1,none⟩ = some (.int .i64 l) ∧ w'.cell? ⟨U12,2,none⟩ = some (.int .i64 h) ∧ w'.cell? ⟨U12,3,none⟩ = some (.int .i64 x) ∧ w'.cell? ⟨D9,0,none⟩ = some (.slice zB zm zd) ∧ w'.cell? ⟨D9,1,none⟩ = some (.bool zt) ∧ w'.cell? ⟨D9,2,none⟩ = some (.int .i64 ze)):=by
    show ∀ _,_
    intro w' hf
    have h1:=HE5.out.2.1.fr hf (by simp)
    have h2:=HE5.out.2.2.1.fr hf (by simp)
    have h3:=HE5.out.2.2.2.2.1.fr hf (by simp)
    have h4:=HE5.out.2.2.2.2.2.1.fr hf (by simp)
    have h5:=HE5.out.2.2.2.2.2.2.fr hf (by simp)
    exact ⟨h1.cell 4,h1.cell 5,h1.cell 6,h2.cell 0,h2.cell 1,h2.cell 2,h3.cell 0,h3.cell 1,h3.cell 2,h3.cell 3,h5.cell 0,h5.cell 1,h5.cell 2,h5.cell 3,h4.cell 0,h4.cell 1,h4.cell 2⟩
  have HW5:=Lib.hid hW5
  clear hW5 his hf4
  cases ok with
  | false =>
    go_wp2_with fail
    rw [← HW5.out]
    clear hU12 hV11
    refine (awake29_yes W5).mono ?_
    rintro en w6 ⟨rfl,hf6⟩
    have HF6:=Lib.hid (HE5.out.1.trans hf6)
    clear hf6
    go_wp2_with fail
    go_ret
    exact ⟨rfl,HF6.out⟩
  | true =>
    cases is with
    | false =>
      go_wp2_with fail
      rw [← HW5.out]
      clear hU12 hV11
      refine (awake29_yes W5).mono ?_
      rintro en w6 ⟨rfl,hf6⟩
      have HF6:=Lib.hid (HE5.out.1.trans hf6)
      clear hf6
      go_wp2_with fail
      go_ret
      exact ⟨rfl,HF6.out⟩
    | true =>
      obtain ⟨d0,d1,_,_,_,_,_,_,_,_,_,_,_,_,_,_,_⟩:=HCX.out W5 (Fr.refl _ _)
      rw [HW5.out] at d0 d1
      go_wp2_with fail
      rw [← HW5.out,← hU12,← hV11]
      clear hU12 hV11 d0 d1
      refine (small29_any W5 pr pc).mono ?_
      rintro en w6 ⟨rfl,hf6⟩
      obtain ⟨sm,hsm⟩:∃ sm,sm = decide (SmallP pr pc):=⟨_,rfl⟩
      rw [← hsm]
      have HF6:=Lib.hid hf6
      clear hsm hf6
      cases sm with
      | false =>
        go_wp2_with fail
        refine (awake29_yes w6).mono ?_
        rintro en w7 ⟨rfl,hf7⟩
        have HF7:=Lib.hid ((HE5.out.1.trans HF6.out).trans hf7)
        clear hf7
        go_wp2_with fail
        go_ret
        exact ⟨rfl,HF7.out⟩
      | true =>
        have hrv:RightV t l h x:=of_decide_eq_true HIS.out.symm
        obtain ⟨top,rfl⟩:∃ top:Nat,t = top:=Int.eq_ofNat_of_zero_le hrv.2.2.2.2.1
        obtain ⟨left,rfl⟩:∃ left:Nat,l = left:=Int.eq_ofNat_of_zero_le hrv.2.2.2.2.2.2.1
        obtain ⟨hh,rfl⟩:∃ hh:Nat,h = hh:=Int.eq_ofNat_of_zero_le (by have:=hrv.1; omega)
        obtain ⟨wid,rfl⟩:∃ wid:Nat,x = wid:=Int.eq_ofNat_of_zero_le (by have:=hrv.2.2.1; omega)
        have HV:Hid (1 ≤ hh ∧ hh ≤ 400 ∧ 1 ≤ wid ∧ wid ≤ 40 ∧ top ≤ 1099511627776 ∧ left ≤ 1099511627776):=by
          obtain ⟨c1,c2,c3,c4,c5,c6,c7,c8⟩:=hrv
          exact ⟨by omega,by omega,by omega,by omega,by omega,by omega⟩
        clear hrv HIS
        obtain ⟨R,C,hset⟩:=sett_ex (rs.map Prod.fst) pr pc
        have HSET:=Lib.hid hset
        have HGX:Hid (HG [] s g p tl eo rs ⟨zB,zm,zd,zrs,zt,ze⟩ W5):=HE5.out.2.2.2.1
        obtain ⟨RT,CT,hset2⟩:=sett_ex (rs.map Prod.fst) (top:Nat) 0
        have HSET2:=Lib.hid hset2
        obtain ⟨nc,hnc,_⟩:=clampN_ex nn
        have HNC:=Lib.hid hnc
        clear hset hset2 hnc
        obtain ⟨lf,hlf⟩:∃ lf:Nat,(lf:Int) = max (min (left:Int) C) ((C:Int) - wid + 1):=⟨(max (min (left:Int) C) ((C:Int) - wid + 1)).toNat,by have:=HV.out; omega⟩
        obtain ⟨T1,hT1⟩:∃ T1,T1 = follT (rs.map Prod.fst) R top hh (hidAt (rs.map Prod.fst) R):=⟨_,rfl⟩
        obtain ⟨S,hS⟩:∃ S,S = movedP (rs.map Prod.fst) R nc:=⟨_,rfl⟩
        obtain ⟨T2,hT2⟩:∃ T2,T2 = follT (rs.map Prod.fst) S (movedP (rs.map Prod.fst) RT nc) hh (hidAt (rs.map Prod.fst) S):=⟨_,rfl⟩
        have HCF:Hid (∀ w',Fr [] W5 w' → (Calls Tryz.prog 16 #[.agg #[.int .i64 (top:Nat),.int .i64 (left:Nat),.int .i64 (hh:Nat),.int .i64 (wid:Nat)],.agg #[.pointer p,.bool tl,.int .i64 eo],.agg #[.int .i64 pr,.int .i64 pc]] w' fun en w'' => en = .returned (.agg #[.int .i64 (T1:Nat),.int .i64 (lf:Nat),.int .i64 (hh:Nat),.int .i64 (wid:Nat)]) ∧ Fr [] w' w'') ∧ (Calls Tryz.prog 48 #[.agg #[.int .i64 (top:Nat),.int .i64 (left:Nat),.int .i64 (hh:Nat),.int .i64 (wid:Nat)],.agg #[.slice zB zm zd,.bool zt,.int .i64 ze],.agg #[.int .i64 pr,.int .i64 pc]] w' fun en w'' => en = .returned (.agg #[.int .i64 (T1:Nat),.int .i64 (lf:Nat),.int .i64 (hh:Nat),.int .i64 (wid:Nat)]) ∧ Fr [] w' w'')):=by
          show ∀ _,_
          intro w' hf
          have h1:=HV.out
          exact ⟨(HGX.out.fr0 hf).follow HSET.out h1.1 h1.2.1 (by omega) (by omega) (by omega) hT1 hlf,dfollow_any w' ⟨zB,zm,zd,zrs,zt,ze⟩ (rs.map Prod.fst) (HGX.out.fr0 hf).dgr HSET.out HGX.out.wids.2 h1.1 h1.2.1 (by omega) (by omega) (by omega) (by omega) hT1 hlf⟩
        have HCS:Hid (∀ w',Fr [] W5 w' → (Calls Tryz.prog 45 #[.agg #[.int .i64 (top:Nat),.int .i64 (left:Nat),.int .i64 (hh:Nat),.int .i64 (wid:Nat)],.agg #[.pointer p,.bool tl,.int .i64 eo],.agg #[.int .i64 pr,.int .i64 pc],.int .i64 nn] w' fun en w'' => en = .returned (.tuple #[.agg #[.int .i64 (T2:Nat),.int .i64 (lf:Nat),.int .i64 (hh:Nat),.int .i64 (wid:Nat)],.agg #[.int .i64 (S:Nat),.int .i64 (C:Nat)]]) ∧ Fr [] w' w'') ∧ (Calls Tryz.prog 46 #[.agg #[.int .i64 (top:Nat),.int .i64 (left:Nat),.int .i64 (hh:Nat),.int .i64 (wid:Nat)],.agg #[.slice zB zm zd,.bool zt,.int .i64 ze],.agg #[.int .i64 pr,.int .i64 pc],.int .i64 nn] w' fun en w'' => en = .returned (.tuple #[.agg #[.int .i64 (T2:Nat),.int .i64 (lf:Nat),.int .i64 (hh:Nat),.int .i64 (wid:Nat)],.agg #[.int .i64 (S:Nat),.int .i64 (C:Nat)]]) ∧ Fr [] w' w'')):=by
          show ∀ _,_
          intro w' hf
          have h1:=HV.out
          subst hS
          exact ⟨(HGX.out.fr0 hf).scroll HSET.out HSET2.out HNC.out h1.1 h1.2.1 (by omega) (by omega) (by omega) hT2 hlf,dscroll_any w' ⟨zB,zm,zd,zrs,zt,ze⟩ (rs.map Prod.fst) (HGX.out.fr0 hf).dgr HGX.out.wids.2 HSET.out HSET2.out HNC.out h1.1 h1.2.1 (by omega) (by omega) (by omega) (by omega) hT2 hlf⟩
        clear hlf hT1 hS hT2
        obtain ⟨P14,hP14⟩:∃ P14,P14 = w6.heap.size:=⟨_,rfl⟩
        obtain ⟨W8,hW8⟩:∃ W8,W8 = w6.alloc (.cells #[.int .i64 pr,.int .i64 pc] 45):=⟨_,rfl⟩
        have HE8:Hid (Fr [] W5 W8 ∧ Blk W8 P14 45 #[.int .i64 pr,.int .i64 pc]):=⟨by rw [hW8]; exact HF6.out.alloc _,by rw [hW8,hP14]; exact Blk.new w6 _ _⟩
        have HC8:=Lib.hid (fun w' (hf:Fr [] W8 w') => HCX.out w' (HE8.out.1.trans hf))
        obtain ⟨c0,c1,_⟩:=HCX.out w6 HF6.out
        obtain ⟨_,_,d2,g0,g1,g2,v0,v1,v2,v3,_,_,_,_,_,_,_⟩:=HC8.out W8 (Fr.refl _ _)
        have p0:W8.cell? ⟨P14,0,none⟩ = some (.int .i64 pr):=HE8.out.2.cell 0
        have p1:W8.cell? ⟨P14,1,none⟩ = some (.int .i64 pc):=HE8.out.2.cell 1
        rw [hW8] at d2 g0 g1 g2 v0 v1 v2 v3
        rw [hW8,hP14] at p0 p1
        go_wp2_with fail
        rw [← hW8,← hP14]
        clear hW8 hP14 c0 c1 d2 g0 g1 g2 v0 v1 v2 v3 p0 p1
        refine (HCS.out W8 HE8.out.1).1.mono ?_
        rintro en w9 ⟨rfl,hf9⟩
        have HF9:=Lib.hid (HE8.out.1.trans hf9)
        have HP9:=Lib.hid (HE8.out.2.fr hf9 (by simp))
        clear hf9
        obtain ⟨Y15,hY15⟩:∃ Y15,Y15 = w9.heap.size:=⟨_,rfl⟩
        obtain ⟨Q16,hQ16⟩:∃ Q16,Q16 = w9.heap.size + 1:=⟨_,rfl⟩
        obtain ⟨W10,hW10⟩:∃ W10,W10 = (w9.alloc (.cells #[.int .i64 (T2:Nat),.int .i64 (lf:Nat),.int .i64 (hh:Nat),.int .i64 (wid:Nat)] 40)).alloc (.cells #[.int .i64 (S:Nat),.int .i64 (C:Nat)] 45):=⟨_,rfl⟩
        have HE10:Hid (Fr [] W5 W10 ∧ Blk W10 P14 45 #[.int .i64 pr,.int .i64 pc] ∧ Blk W10 Y15 40 #[.int .i64 (T2:Nat),.int .i64 (lf:Nat),.int .i64 (hh:Nat),.int .i64 (wid:Nat)] ∧ Blk W10 Q16 45 #[.int .i64 (S:Nat),.int .i64 (C:Nat)]):=by
          have b2:=Blk.new (w9.alloc (.cells #[.int .i64 (T2:Nat),.int .i64 (lf:Nat),.int .i64 (hh:Nat),.int .i64 (wid:Nat)] 40)) 45 #[.int .i64 (S:Nat),.int .i64 (C:Nat)]
          rw [World.size_alloc,← hW10,← hQ16] at b2
          have hf:Fr [] w9 W10:=by rw [hW10]; exact ((Fr.refl [] w9).alloc _).alloc _
          exact ⟨HF9.out.trans hf,HP9.out.fr hf (by simp),by rw [hW10,hY15]; exact (Blk.new w9 _ _).alloc _,b2⟩
        obtain ⟨c0,c1,d2,_,_,_,_,_,_,_,u0,u1,u2,u3,y0,y1,y2⟩:=HCX.out W10 HE10.out.1
        rw [hW10] at c0 c1 d2 u0 u1 u2 u3 y0 y1 y2
        go_wp2_with fail
        rw [← hW10,← hQ16,← hY15]
        clear hW10 hY15 hQ16 c0 c1 d2 u0 u1 u2 u3 y0 y1 y2
        refine (HCS.out W10 HE10.out.1).2.mono ?_
        rintro en w11 ⟨rfl,hf11⟩
        have HF11:=Lib.hid hf11
        clear hf11
        obtain ⟨Z17,hZ17⟩:∃ Z17,Z17 = w11.heap.size:=⟨_,rfl⟩
        obtain ⟨R18,hR18⟩:∃ R18,R18 = w11.heap.size + 1:=⟨_,rfl⟩
        obtain ⟨W12,hW12⟩:∃ W12,W12 = (w11.alloc (.cells #[.int .i64 (T2:Nat),.int .i64 (lf:Nat),.int .i64 (hh:Nat),.int .i64 (wid:Nat)] 24)).alloc (.cells #[.int .i64 (S:Nat),.int .i64 (C:Nat)] 26):=⟨_,rfl⟩
        have HE12:Hid (Fr [] W5 W12 ∧ Blk W12 P14 45 #[.int .i64 pr,.int .i64 pc] ∧ Blk W12 Y15 40 #[.int .i64 (T2:Nat),.int .i64 (lf:Nat),.int .i64 (hh:Nat),.int .i64 (wid:Nat)] ∧ Blk W12 Q16 45 #[.int .i64 (S:Nat),.int .i64 (C:Nat)] ∧ Blk W12 Z17 24 #[.int .i64 (T2:Nat),.int .i64 (lf:Nat),.int .i64 (hh:Nat),.int .i64 (wid:Nat)] ∧ Blk W12 R18 26 #[.int .i64 (S:Nat),.int .i64 (C:Nat)]):=by
          have b2:=Blk.new (w11.alloc (.cells #[.int .i64 (T2:Nat),.int .i64 (lf:Nat),.int .i64 (hh:Nat),.int .i64 (wid:Nat)] 24)) 26 #[.int .i64 (S:Nat),.int .i64 (C:Nat)]
          rw [World.size_alloc,← hW12,← hR18] at b2
          have hf:Fr [] w11 W12:=by rw [hW12]; exact ((Fr.refl [] w11).alloc _).alloc _
          have hh:=HF11.out.trans hf
          exact ⟨HE10.out.1.trans hh,HE10.out.2.1.fr hh (by simp),HE10.out.2.2.1.fr hh (by simp),HE10.out.2.2.2.fr hh (by simp),by rw [hW12,hZ17]; exact (Blk.new w11 _ _).alloc _,b2⟩
        go_wp2_with fail
        rw [← hW12,← hR18,← hZ17]
        clear hW12 hR18 hZ17
        have HC12:Hid (∀ w',Fr [] W12 w' → (w'.cell? ⟨X5,4,none⟩ = some (.int .i64 pr) ∧ w'.cell? ⟨X5,5,none⟩ = some (.int .i64 pc) ∧ w'.cell? ⟨X5,6,none⟩ = some (.int .i64 nn)) ∧ (w'.cell? ⟨G7,0,none⟩ = some (.pointer p) ∧ w'.cell? ⟨G7,1,none⟩ = some (.bool tl) ∧ w'.cell? ⟨G7,2,none⟩ = some (.int .i64 eo)) ∧ (w'.cell? ⟨V11,0,none⟩ = some (.int .i64 (top:Nat)) ∧ w'.cell? ⟨V11,1,none⟩ = some (.int .i64 (left:Nat)) ∧ w'.cell? ⟨V11,2,none⟩ = some (.int .i64 (hh:Nat)) ∧ w'.cell? ⟨V11,3,none⟩ = some (.int .i64 (wid:Nat))) ∧ (w'.cell? ⟨U12,0,none⟩ = some (.int .i64 (top:Nat)) ∧ w'.cell? ⟨U12,1,none⟩ = some (.int .i64 (left:Nat)) ∧ w'.cell? ⟨U12,2,none⟩ = some (.int .i64 (hh:Nat)) ∧ w'.cell? ⟨U12,3,none⟩ = some (.int .i64 (wid:Nat))) ∧ (w'.cell? ⟨D9,0,none⟩ = some (.slice zB zm zd) ∧ w'.cell? ⟨D9,1,none⟩ = some (.bool zt) ∧ w'.cell? ⟨D9,2,none⟩ = some (.int .i64 ze)) ∧ (w'.cell? ⟨P14,0,none⟩ = some (.int .i64 pr) ∧ w'.cell? ⟨P14,1,none⟩ = some (.int .i64 pc)) ∧ (w'.cell? ⟨Y15,0,none⟩ = some (.int .i64 (T2:Nat)) ∧ w'.cell? ⟨Y15,1,none⟩ = some (.int .i64 (lf:Nat)) ∧ w'.cell? ⟨Y15,2,none⟩ = some (.int .i64 (hh:Nat)) ∧ w'.cell? ⟨Y15,3,none⟩ = some (.int .i64 (wid:Nat))) ∧ (w'.cell? ⟨Q16,0,none⟩ = some (.int .i64 (S:Nat)) ∧ w'.cell? ⟨Q16,1,none⟩ = some (.int .i64 (C:Nat))) ∧ (w'.cell? ⟨Z17,0,none⟩ = some (.int .i64 (T2:Nat)) ∧ w'.cell? ⟨Z17,1,none⟩ = some (.int .i64 (lf:Nat)) ∧ w'.cell? ⟨Z17,2,none⟩ = some (.int .i64 (hh:Nat)) ∧ w'.cell? ⟨Z17,3,none⟩ = some (.int .i64 (wid:Nat))) ∧ (w'.cell? ⟨R18,0,none⟩ = some (.int .i64 (S:Nat)) ∧ w'.cell? ⟨R18,1,none⟩ = some (.int .i64 (C:Nat)))):=by
          show ∀ _,_
          intro w' hf
          obtain ⟨d0,d1,d2,g0,g1,g2,v0,v1,v2,v3,u0,u1,u2,u3,y0,y1,y2⟩:=HCX.out w' (HE12.out.1.trans hf)
          have h1:=HE12.out.2.1.fr hf (by simp)
          have h2:=HE12.out.2.2.1.fr hf (by simp)
          have h3:=HE12.out.2.2.2.1.fr hf (by simp)
          have h4:=HE12.out.2.2.2.2.1.fr hf (by simp)
          have h5:=HE12.out.2.2.2.2.2.fr hf (by simp)
          exact ⟨⟨d0,d1,d2⟩,⟨g0,g1,g2⟩,⟨v0,v1,v2,v3⟩,⟨u0,u1,u2,u3⟩,⟨y0,y1,y2⟩,⟨h1.cell 0,h1.cell 1⟩,⟨h2.cell 0,h2.cell 1,h2.cell 2,h2.cell 3⟩,⟨h3.cell 0,h3.cell 1⟩,⟨h4.cell 0,h4.cell 1,h4.cell 2,h4.cell 3⟩,⟨h5.cell 0,h5.cell 1⟩⟩
        obtain ⟨F,hF⟩:∃ F:World → Nat → Value → Prop,F = (fun (w:World) (i:Nat) (v:Value) => match i with | 0 => v = .agg #[.int .i64 (top:Nat),.int .i64 (left:Nat),.int .i64 (hh:Nat),.int .i64 (wid:Nat)] | 1 => v = .agg #[.pointer p,.bool tl,.int .i64 eo] | 2 => v = .agg #[.int .i64 pr,.int .i64 pc] | 3 => v = .agg #[.int .i64 (T1:Nat),.int .i64 (lf:Nat),.int .i64 (hh:Nat),.int .i64 (wid:Nat)] | 4 => v = .agg #[.int .i64 (T1:Nat),.int .i64 (lf:Nat),.int .i64 (hh:Nat),.int .i64 (wid:Nat)] | 5 => v = .agg #[.int .i64 (top:Nat),.int .i64 (left:Nat),.int .i64 (hh:Nat),.int .i64 (wid:Nat)] | 6 => v = .agg #[.slice zB zm zd,.bool zt,.int .i64 ze] | 7 => v = .pointer (some ⟨X5,4,none⟩) | 8 => v = .agg #[.int .i64 pr,.int .i64 pc] | 9 => v = .agg #[.int .i64 (T1:Nat),.int .i64 (lf:Nat),.int .i64 (hh:Nat),.int .i64 (wid:Nat)] | 10 => v = .bool true | 11 => v = .bool true | 12 => v = .agg #[.int .i64 (T2:Nat),.int .i64 (lf:Nat),.int .i64 (hh:Nat),.int .i64 (wid:Nat)] | 13 => v = .agg #[.int .i64 (T2:Nat),.int .i64 (lf:Nat),.int .i64 (hh:Nat),.int .i64 (wid:Nat)] | 14 => v = .agg #[.int .i64 (T2:Nat),.int .i64 (lf:Nat),.int .i64 (hh:Nat),.int .i64 (wid:Nat)] | 15 => v = .bool true | 16 => v = .bool true | 17 => v = .bool true | 18 => v = .pointer (some ⟨Q16,0,none⟩) | 19 => v = .int .i64 (S:Nat) | 20 => v = .pointer (some ⟨Q16,1,none⟩) | 21 => v = .int .i64 (C:Nat) | 22 => v = .agg #[.int .i64 (S:Nat),.int .i64 (C:Nat)] | 23 => v = .agg #[.int .i64 (S:Nat),.int .i64 (C:Nat)] | 24 => v = .bool true | 25 => v = .bool true | 26 => v = .bool true | 27 => v = .bool true | 28 => v = .bool true | _ => True):=⟨_,rfl⟩
        obtain ⟨G,hG⟩:∃ G:(Nat → Value) → World → Prop,G = (fun u w => u 29 = .bool true ∧ Fr [] W12 w):=⟨_,rfl⟩
        have HM:Hid (∀ w1 w2:World,Fr [] w1 w2 → ∀ j x,F w1 j x → F w2 j x):=by
          show ∀ _,_
          intro w1 w2 hf j x h
          subst hF
          match j,h with
          | 0,h => exact h
          | 1,h => exact h
          | 2,h => exact h
          | 3,h => exact h
          | 4,h => exact h
          | 5,h => exact h
          | 6,h => exact h
          | 7,h => exact h
          | 8,h => exact h
          | 9,h => exact h
          | 10,h => exact h
          | 11,h => exact h
          | 12,h => exact h
          | 13,h => exact h
          | 14,h => exact h
          | 15,h => exact h
          | 16,h => exact h
          | 17,h => exact h
          | 18,h => exact h
          | 19,h => exact h
          | 20,h => exact h
          | 21,h => exact h
          | 22,h => exact h
          | 23,h => exact h
          | 24,h => exact h
          | 25,h => exact h
          | 26,h => exact h
          | 27,h => exact h
          | 28,h => exact h
          | n + 29,h => trivial
        have HFG:=Lib.hid (And.intro hF hG)
        clear hF hG
        refine wp_region_invc (by kernel_rfl) (fun f a w' => ∃ u:Nat → Value,a = { tmps:=#[Value.string { data:=s0.toArray },.int .u64 m,Value.agg #[.int .i64 ↑top,.int .i64 ↑left,.int .i64 ↑hh,.int .i64 ↑wid,.int .i64 pr,.int .i64 pc,.int .i64 nn],undef,undef,.pointer (some { block:=X5,off:=0 }),u 29,.pointer (some { block:=G7,off:=0 }),.pointer (some { block:=g,off:=0 }),.pointer (some { block:=D9,off:=0 }),Value.bool true,.pointer (some { block:=V11,off:=0 }),.pointer (some { block:=U12,off:=0 }),Value.bool true,.pointer (some { block:=P14,off:=0 }),.pointer (some { block:=Y15,off:=0 }),.pointer (some { block:=Q16,off:=0 }),.pointer (some { block:=Z17,off:=0 }),.pointer (some { block:=R18,off:=0 }),Value.tuple #[Value.agg #[.pointer p,Value.bool tl,.int .i64 eo],.pointer (some { block:=g,off:=0 }),Value.agg #[.slice zB zm zd,Value.bool zt,.int .i64 ze],Value.bool true],Value.string { data:=s0.toArray },.int .u64 m,Value.tuple #[Value.agg #[.pointer p,Value.bool tl,.int .i64 eo],.pointer (some { block:=g,off:=0 }),Value.agg #[.slice zB zm zd,Value.bool zt,.int .i64 ze],Value.bool true],Value.agg #[.pointer p,Value.bool tl,.int .i64 eo],.pointer (some { block:=g,off:=0 }),Value.agg #[.slice zB zm zd,Value.bool zt,.int .i64 ze],Value.bool true,Value.tuple #[Value.agg #[.int .i64 ↑top,.int .i64 ↑left,.int .i64 ↑hh,.int .i64 ↑wid],Value.agg #[.int .i64 ↑top,.int .i64 ↑left,.int .i64 ↑hh,.int .i64 ↑wid],Value.bool true],.pointer (some { block:=X5,off:=0 }),Value.agg #[.int .i64 ↑top,.int .i64 ↑left,.int .i64 ↑hh,.int .i64 ↑wid],Value.tuple #[Value.agg #[.int .i64 ↑top,.int .i64 ↑left,.int .i64 ↑hh,.int .i64 ↑wid],Value.agg #[.int .i64 ↑top,.int .i64 ↑left,.int .i64 ↑hh,.int .i64 ↑wid],Value.bool true],Value.agg #[.int .i64 ↑top,.int .i64 ↑left,.int .i64 ↑hh,.int .i64 ↑wid],Value.agg #[.int .i64 ↑top,.int .i64 ↑left,.int .i64 ↑hh,.int .i64 ↑wid],Value.bool true,Value.bool true,Value.bool false,Value.bool false,Value.bool true,Value.bool false,Value.bool false,Value.bool false,.pointer (some { block:=X5,off:=4 }),Value.agg #[.int .i64 pr,.int .i64 pc],Value.bool true,Value.bool false,Value.bool false,undef,undef,undef,undef,undef,.pointer (some { block:=X5,off:=4 }),.pointer (some { block:=X5,off:=4 }),.int .i64 pr,.pointer (some { block:=X5,off:=4 }),.pointer (some { block:=X5,off:=5 }),.int .i64 pc,Value.agg #[.int .i64 pr,.int .i64 pc],Value.tuple #[Value.agg #[.int .i64 ↑T2,.int .i64 ↑lf,.int .i64 ↑hh,.int .i64 ↑wid],Value.agg #[.int .i64 ↑S,.int .i64 ↑C]],Value.agg #[.int .i64 ↑top,.int .i64 ↑left,.int .i64 ↑hh,.int .i64 ↑wid],Value.agg #[.pointer p,Value.bool tl,.int .i64 eo],Value.agg #[.int .i64 pr,.int .i64 pc],.pointer (some { block:=X5,off:=6 }),.int .i64 nn,Value.tuple #[Value.agg #[.int .i64 ↑T2,.int .i64 ↑lf,.int .i64 ↑hh,.int .i64 ↑wid],Value.agg #[.int .i64 ↑S,.int .i64 ↑C]],Value.agg #[.int .i64 ↑T2,.int .i64 ↑lf,.int .i64 ↑hh,.int .i64 ↑wid],Value.agg #[.int .i64 ↑S,.int .i64 ↑C],Value.tuple #[Value.agg #[.int .i64 ↑T2,.int .i64 ↑lf,.int .i64 ↑hh,.int .i64 ↑wid],Value.agg #[.int .i64 ↑S,.int .i64 ↑C]],Value.agg #[.int .i64 ↑top,.int .i64 ↑left,.int .i64 ↑hh,.int .i64 ↑wid],Value.agg #[.slice zB zm zd,Value.bool zt,.int .i64 ze],.pointer (some { block:=X5,off:=4 }),Value.agg #[.int .i64 pr,.int .i64 pc],.pointer (some { block:=X5,off:=6 }),.int .i64 nn,Value.tuple #[Value.agg #[.int .i64 ↑T2,.int .i64 ↑lf,.int .i64 ↑hh,.int .i64 ↑wid],Value.agg #[.int .i64 ↑S,.int .i64 ↑C]],Value.agg #[.int .i64 ↑T2,.int .i64 ↑lf,.int .i64 ↑hh,.int .i64 ↑wid],Value.agg #[.int .i64 ↑S,.int .i64 ↑C],u 0,u 1,u 2,u 3,u 4,u 5,u 6,u 7,u 8,u 9,u 10,u 11,u 12,u 13,u 14,u 15,u 16,u 17,u 18,u 19,u 20,u 21,u 22,u 23,u 24,u 25,u 26,u 27,u 28],defers:=[] } ∧ Hid (RInv F G W12 29 f u w')) (by kernel_rfl) ?_ ?_ ?_
        · exact ⟨fun j => cond (Nat.beq j 29) (.bool false) undef,rfl,RInv.start _⟩
        · simp only [EachOp]
          refine ⟨?_,?_,?_,?_,?_,?_,?_,?_,?_,?_,?_,?_,?_,?_,?_,?_,?_,?_,?_,?_,?_,?_,?_,?_,?_,?_,?_,?_,?_,?_,trivial⟩
          all_goals rintro f a w' hfi hdep hcl ⟨u,rfl,HI⟩ K hK
          all_goals first
            | have hL:f 29 = false:=hfi
            | have hL:=hcl.no (L:=29) _ rfl hfi ⟨_,.phase⟩ (by simp) rfl rfl
          · obtain ⟨⟨d0,d1,d2⟩,⟨g0,g1,g2⟩,⟨v0,v1,v2,v3⟩,⟨x0,x1,x2,x3⟩,⟨y0,y1,y2⟩,⟨p0,p1⟩,⟨a0,a1,a2,a3⟩,⟨b0,b1⟩,⟨c0,c1,c2,c3⟩,⟨h0,h1⟩⟩:=HC12.out w' (HI.out.a hL).1
            go_simp
            exact hK _ _ ⟨updU u 0 (.agg #[.int .i64 (top:Nat),.int .i64 (left:Nat),.int .i64 (hh:Nat),.int .i64 (wid:Nat)]),rfl,HI.out.val hL (by decide) (by rw [HFG.out.1]; exact rfl)⟩
          · obtain ⟨⟨d0,d1,d2⟩,⟨g0,g1,g2⟩,⟨v0,v1,v2,v3⟩,⟨x0,x1,x2,x3⟩,⟨y0,y1,y2⟩,⟨p0,p1⟩,⟨a0,a1,a2,a3⟩,⟨b0,b1⟩,⟨c0,c1,c2,c3⟩,⟨h0,h1⟩⟩:=HC12.out w' (HI.out.a hL).1
            go_simp
            exact hK _ _ ⟨updU u 1 (.agg #[.pointer p,.bool tl,.int .i64 eo]),rfl,HI.out.val hL (by decide) (by rw [HFG.out.1]; exact rfl)⟩
          · obtain ⟨⟨d0,d1,d2⟩,⟨g0,g1,g2⟩,⟨v0,v1,v2,v3⟩,⟨x0,x1,x2,x3⟩,⟨y0,y1,y2⟩,⟨p0,p1⟩,⟨a0,a1,a2,a3⟩,⟨b0,b1⟩,⟨c0,c1,c2,c3⟩,⟨h0,h1⟩⟩:=HC12.out w' (HI.out.a hL).1
            go_simp
            exact hK _ _ ⟨updU u 2 (.agg #[.int .i64 pr,.int .i64 pc]),rfl,HI.out.val hL (by decide) (by rw [HFG.out.1]; exact rfl)⟩
          · have e0:u 0 = .agg #[.int .i64 (top:Nat),.int .i64 (left:Nat),.int .i64 (hh:Nat),.int .i64 (wid:Nat)]:=HI.out.get HFG.out.1 hL (i:=0) (hdep ⟨0,.data⟩ (by simp) rfl)
            have e1:u 1 = .agg #[.pointer p,.bool tl,.int .i64 eo]:=HI.out.get HFG.out.1 hL (i:=1) (hdep ⟨1,.data⟩ (by simp) rfl)
            have e2:u 2 = .agg #[.int .i64 pr,.int .i64 pc]:=HI.out.get HFG.out.1 hL (i:=2) (hdep ⟨2,.data⟩ (by simp) rfl)
            refine step_call _ (by rfl) 16 #[.agg #[.int .i64 (top:Nat),.int .i64 (left:Nat),.int .i64 (hh:Nat),.int .i64 (wid:Nat)],.agg #[.pointer p,.bool tl,.int .i64 eo],.agg #[.int .i64 pr,.int .i64 pc]] (by go_simp) _ ((HCF.out w' (HE12.out.1.trans (HI.out.a hL).1)).1) (by rintro e w' ⟨he,_⟩; exact ⟨_,he⟩) ?_
            rintro v4 w4 ⟨hv4,hf4⟩
            injection hv4 with hv4
            subst hv4
            try go_simp
            exact hK _ _ ⟨updU u 3 (.agg #[.int .i64 (T1:Nat),.int .i64 (lf:Nat),.int .i64 (hh:Nat),.int .i64 (wid:Nat)]),(by simp [updU,e0,e1,e2] <;> (repeat' apply And.intro) <;> rfl),HI.out.call hL (by decide) (HM.out _ _ hf4) hf4 (by rw [HFG.out.1]; exact rfl)⟩
          · have e3:u 3 = .agg #[.int .i64 (T1:Nat),.int .i64 (lf:Nat),.int .i64 (hh:Nat),.int .i64 (wid:Nat)]:=HI.out.get HFG.out.1 hL (i:=3) (hdep ⟨3,.data⟩ (by simp) rfl)
            refine step_call _ (by rfl) 47 #[.agg #[.int .i64 (T1:Nat),.int .i64 (lf:Nat),.int .i64 (hh:Nat),.int .i64 (wid:Nat)]] (by go_simp) _ (ours_any w' _ _ _ _) (by rintro e w' ⟨he,_⟩; exact ⟨_,he⟩) ?_
            rintro v4 w4 ⟨hv4,hf4⟩
            injection hv4 with hv4
            subst hv4
            try go_simp
            exact hK _ _ ⟨updU u 4 (.agg #[.int .i64 (T1:Nat),.int .i64 (lf:Nat),.int .i64 (hh:Nat),.int .i64 (wid:Nat)]),(by simp [updU,e3] <;> (repeat' apply And.intro) <;> rfl),HI.out.call hL (by decide) (HM.out _ _ hf4) hf4 (by rw [HFG.out.1]; exact rfl)⟩
          · obtain ⟨⟨d0,d1,d2⟩,⟨g0,g1,g2⟩,⟨v0,v1,v2,v3⟩,⟨x0,x1,x2,x3⟩,⟨y0,y1,y2⟩,⟨p0,p1⟩,⟨a0,a1,a2,a3⟩,⟨b0,b1⟩,⟨c0,c1,c2,c3⟩,⟨h0,h1⟩⟩:=HC12.out w' (HI.out.a hL).1
            go_simp
            exact hK _ _ ⟨updU u 5 (.agg #[.int .i64 (top:Nat),.int .i64 (left:Nat),.int .i64 (hh:Nat),.int .i64 (wid:Nat)]),rfl,HI.out.val hL (by decide) (by rw [HFG.out.1]; exact rfl)⟩
          · obtain ⟨⟨d0,d1,d2⟩,⟨g0,g1,g2⟩,⟨v0,v1,v2,v3⟩,⟨x0,x1,x2,x3⟩,⟨y0,y1,y2⟩,⟨p0,p1⟩,⟨a0,a1,a2,a3⟩,⟨b0,b1⟩,⟨c0,c1,c2,c3⟩,⟨h0,h1⟩⟩:=HC12.out w' (HI.out.a hL).1
            go_simp
            exact hK _ _ ⟨updU u 6 (.agg #[.slice zB zm zd,.bool zt,.int .i64 ze]),rfl,HI.out.val hL (by decide) (by rw [HFG.out.1]; exact rfl)⟩
          · go_simp
            exact hK _ _ ⟨updU u 7 (.pointer (some ⟨X5,4,none⟩)),rfl,HI.out.val hL (by decide) (by rw [HFG.out.1]; exact rfl)⟩
          · have e7:u 7 = .pointer (some ⟨X5,4,none⟩):=HI.out.get HFG.out.1 hL (i:=7) (hdep ⟨7,.data⟩ (by simp) rfl)
            obtain ⟨⟨d0,d1,d2⟩,⟨g0,g1,g2⟩,⟨v0,v1,v2,v3⟩,⟨x0,x1,x2,x3⟩,⟨y0,y1,y2⟩,⟨p0,p1⟩,⟨a0,a1,a2,a3⟩,⟨b0,b1⟩,⟨c0,c1,c2,c3⟩,⟨h0,h1⟩⟩:=HC12.out w' (HI.out.a hL).1
            go_simp
            exact hK _ _ ⟨updU u 8 (.agg #[.int .i64 pr,.int .i64 pc]),(by simp [updU,e7] <;> (repeat' apply And.intro) <;> rfl),HI.out.val hL (by decide) (by rw [HFG.out.1]; exact rfl)⟩
          · have e5:u 5 = .agg #[.int .i64 (top:Nat),.int .i64 (left:Nat),.int .i64 (hh:Nat),.int .i64 (wid:Nat)]:=HI.out.get HFG.out.1 hL (i:=5) (hdep ⟨5,.data⟩ (by simp) rfl)
            have e6:u 6 = .agg #[.slice zB zm zd,.bool zt,.int .i64 ze]:=HI.out.get HFG.out.1 hL (i:=6) (hdep ⟨6,.data⟩ (by simp) rfl)
            have e8:u 8 = .agg #[.int .i64 pr,.int .i64 pc]:=HI.out.get HFG.out.1 hL (i:=8) (hdep ⟨8,.data⟩ (by simp) rfl)
            refine step_call _ (by rfl) 48 #[.agg #[.int .i64 (top:Nat),.int .i64 (left:Nat),.int .i64 (hh:Nat),.int .i64 (wid:Nat)],.agg #[.slice zB zm zd,.bool zt,.int .i64 ze],.agg #[.int .i64 pr,.int .i64 pc]] (by go_simp) _ ((HCF.out w' (HE12.out.1.trans (HI.out.a hL).1)).2) (by rintro e w' ⟨he,_⟩; exact ⟨_,he⟩) ?_
            rintro v4 w4 ⟨hv4,hf4⟩
            injection hv4 with hv4
            subst hv4
            try go_simp
            exact hK _ _ ⟨updU u 9 (.agg #[.int .i64 (T1:Nat),.int .i64 (lf:Nat),.int .i64 (hh:Nat),.int .i64 (wid:Nat)]),(by simp [updU,e5,e6,e8] <;> (repeat' apply And.intro) <;> rfl),HI.out.call hL (by decide) (HM.out _ _ hf4) hf4 (by rw [HFG.out.1]; exact rfl)⟩
          · have e4:u 4 = .agg #[.int .i64 (T1:Nat),.int .i64 (lf:Nat),.int .i64 (hh:Nat),.int .i64 (wid:Nat)]:=HI.out.get HFG.out.1 hL (i:=4) (hdep ⟨4,.data⟩ (by simp) rfl)
            have e9:u 9 = .agg #[.int .i64 (T1:Nat),.int .i64 (lf:Nat),.int .i64 (hh:Nat),.int .i64 (wid:Nat)]:=HI.out.get HFG.out.1 hL (i:=9) (hdep ⟨9,.data⟩ (by simp) rfl)
            go_simp
            exact hK _ _ ⟨updU u 10 (.bool true),(by simp [updU,e4,e9] <;> (repeat' apply And.intro) <;> rfl),HI.out.val hL (by decide) (by rw [HFG.out.1]; exact rfl)⟩
          · have e10:u 10 = .bool true:=HI.out.get HFG.out.1 hL (i:=10) (hdep ⟨10,.data⟩ (by simp) rfl)
            go_simp
            exact hK _ _ ⟨updU u 11 (.bool true),(by simp [updU,e10] <;> (repeat' apply And.intro) <;> rfl),HI.out.val hL (by decide) (by rw [HFG.out.1]; exact rfl)⟩
          · have e11:u 11 = .bool true:=HI.out.get HFG.out.1 hL (i:=11) (hdep ⟨11,.guard⟩ (by simp) rfl)
            obtain ⟨⟨d0,d1,d2⟩,⟨g0,g1,g2⟩,⟨v0,v1,v2,v3⟩,⟨x0,x1,x2,x3⟩,⟨y0,y1,y2⟩,⟨p0,p1⟩,⟨a0,a1,a2,a3⟩,⟨b0,b1⟩,⟨c0,c1,c2,c3⟩,⟨h0,h1⟩⟩:=HC12.out w' (HI.out.a hL).1
            go_simp
            exact hK _ _ ⟨updU u 12 (.agg #[.int .i64 (T2:Nat),.int .i64 (lf:Nat),.int .i64 (hh:Nat),.int .i64 (wid:Nat)]),(by simp [updU,e11] <;> (repeat' apply And.intro) <;> rfl),HI.out.val hL (by decide) (by rw [HFG.out.1]; exact rfl)⟩
          · have e12:u 12 = .agg #[.int .i64 (T2:Nat),.int .i64 (lf:Nat),.int .i64 (hh:Nat),.int .i64 (wid:Nat)]:=HI.out.get HFG.out.1 hL (i:=12) (hdep ⟨12,.data⟩ (by simp) rfl)
            have e11:u 11 = .bool true:=HI.out.get HFG.out.1 hL (i:=11) (hdep ⟨11,.guard⟩ (by simp) rfl)
            refine step_callw _ (by go_simp) 47 #[.agg #[.int .i64 (T2:Nat),.int .i64 (lf:Nat),.int .i64 (hh:Nat),.int .i64 (wid:Nat)]] (by go_simp) _ (ours_any w' _ _ _ _) (by rintro e w' ⟨he,_⟩; exact ⟨_,he⟩) ?_
            rintro v4 w4 ⟨hv4,hf4⟩
            injection hv4 with hv4
            subst hv4
            try go_simp
            exact hK _ _ ⟨updU u 13 (.agg #[.int .i64 (T2:Nat),.int .i64 (lf:Nat),.int .i64 (hh:Nat),.int .i64 (wid:Nat)]),(by simp [updU,e12,e11] <;> (repeat' apply And.intro) <;> rfl),HI.out.call hL (by decide) (HM.out _ _ hf4) hf4 (by rw [HFG.out.1]; exact rfl)⟩
          · have e11:u 11 = .bool true:=HI.out.get HFG.out.1 hL (i:=11) (hdep ⟨11,.guard⟩ (by simp) rfl)
            obtain ⟨⟨d0,d1,d2⟩,⟨g0,g1,g2⟩,⟨v0,v1,v2,v3⟩,⟨x0,x1,x2,x3⟩,⟨y0,y1,y2⟩,⟨p0,p1⟩,⟨a0,a1,a2,a3⟩,⟨b0,b1⟩,⟨c0,c1,c2,c3⟩,⟨h0,h1⟩⟩:=HC12.out w' (HI.out.a hL).1
            go_simp
            exact hK _ _ ⟨updU u 14 (.agg #[.int .i64 (T2:Nat),.int .i64 (lf:Nat),.int .i64 (hh:Nat),.int .i64 (wid:Nat)]),(by simp [updU,e11] <;> (repeat' apply And.intro) <;> rfl),HI.out.val hL (by decide) (by rw [HFG.out.1]; exact rfl)⟩
          · have e13:u 13 = .agg #[.int .i64 (T2:Nat),.int .i64 (lf:Nat),.int .i64 (hh:Nat),.int .i64 (wid:Nat)]:=HI.out.get HFG.out.1 hL (i:=13) (hdep ⟨13,.data⟩ (by simp) rfl)
            have e14:u 14 = .agg #[.int .i64 (T2:Nat),.int .i64 (lf:Nat),.int .i64 (hh:Nat),.int .i64 (wid:Nat)]:=HI.out.get HFG.out.1 hL (i:=14) (hdep ⟨14,.data⟩ (by simp) rfl)
            have e11:u 11 = .bool true:=HI.out.get HFG.out.1 hL (i:=11) (hdep ⟨11,.guard⟩ (by simp) rfl)
            go_simp
            exact hK _ _ ⟨updU u 15 (.bool true),(by simp [updU,e13,e14,e11] <;> (repeat' apply And.intro) <;> rfl),HI.out.val hL (by decide) (by rw [HFG.out.1]; exact rfl)⟩
          · have e11:u 11 = .bool true:=HI.out.get HFG.out.1 hL (i:=11) (hdep ⟨11,.data⟩ (by simp) rfl)
            have e15:u 15 = .bool true:=HI.out.get HFG.out.1 hL (i:=15) (hdep ⟨15,.data⟩ (by simp) rfl)
            go_simp
            exact hK _ _ ⟨updU u 16 (.bool true),(by simp [updU,e11,e15] <;> (repeat' apply And.intro) <;> rfl),HI.out.val hL (by decide) (by rw [HFG.out.1]; exact rfl)⟩
          · have e16:u 16 = .bool true:=HI.out.get HFG.out.1 hL (i:=16) (hdep ⟨16,.data⟩ (by simp) rfl)
            go_simp
            exact hK _ _ ⟨updU u 17 (.bool true),(by simp [updU,e16] <;> (repeat' apply And.intro) <;> rfl),HI.out.val hL (by decide) (by rw [HFG.out.1]; exact rfl)⟩
          · have e17:u 17 = .bool true:=HI.out.get HFG.out.1 hL (i:=17) (hdep ⟨17,.guard⟩ (by simp) rfl)
            go_simp
            exact hK _ _ ⟨updU u 18 (.pointer (some ⟨Q16,0,none⟩)),(by simp [updU,e17] <;> (repeat' apply And.intro) <;> rfl),HI.out.val hL (by decide) (by rw [HFG.out.1]; exact rfl)⟩
          · have e18:u 18 = .pointer (some ⟨Q16,0,none⟩):=HI.out.get HFG.out.1 hL (i:=18) (hdep ⟨18,.data⟩ (by simp) rfl)
            have e17:u 17 = .bool true:=HI.out.get HFG.out.1 hL (i:=17) (hdep ⟨17,.guard⟩ (by simp) rfl)
            obtain ⟨⟨d0,d1,d2⟩,⟨g0,g1,g2⟩,⟨v0,v1,v2,v3⟩,⟨x0,x1,x2,x3⟩,⟨y0,y1,y2⟩,⟨p0,p1⟩,⟨a0,a1,a2,a3⟩,⟨b0,b1⟩,⟨c0,c1,c2,c3⟩,⟨h0,h1⟩⟩:=HC12.out w' (HI.out.a hL).1
            go_simp
            exact hK _ _ ⟨updU u 19 (.int .i64 (S:Nat)),(by simp [updU,e18,e17] <;> (repeat' apply And.intro) <;> rfl),HI.out.val hL (by decide) (by rw [HFG.out.1]; exact rfl)⟩
          · have e17:u 17 = .bool true:=HI.out.get HFG.out.1 hL (i:=17) (hdep ⟨17,.guard⟩ (by simp) rfl)
            go_simp
            exact hK _ _ ⟨updU u 20 (.pointer (some ⟨Q16,1,none⟩)),(by simp [updU,e17] <;> (repeat' apply And.intro) <;> rfl),HI.out.val hL (by decide) (by rw [HFG.out.1]; exact rfl)⟩
          · have e20:u 20 = .pointer (some ⟨Q16,1,none⟩):=HI.out.get HFG.out.1 hL (i:=20) (hdep ⟨20,.data⟩ (by simp) rfl)
            have e17:u 17 = .bool true:=HI.out.get HFG.out.1 hL (i:=17) (hdep ⟨17,.guard⟩ (by simp) rfl)
            obtain ⟨⟨d0,d1,d2⟩,⟨g0,g1,g2⟩,⟨v0,v1,v2,v3⟩,⟨x0,x1,x2,x3⟩,⟨y0,y1,y2⟩,⟨p0,p1⟩,⟨a0,a1,a2,a3⟩,⟨b0,b1⟩,⟨c0,c1,c2,c3⟩,⟨h0,h1⟩⟩:=HC12.out w' (HI.out.a hL).1
            go_simp
            exact hK _ _ ⟨updU u 21 (.int .i64 (C:Nat)),(by simp [updU,e20,e17] <;> (repeat' apply And.intro) <;> rfl),HI.out.val hL (by decide) (by rw [HFG.out.1]; exact rfl)⟩
          · have e19:u 19 = .int .i64 (S:Nat):=HI.out.get HFG.out.1 hL (i:=19) (hdep ⟨19,.data⟩ (by simp) rfl)
            have e21:u 21 = .int .i64 (C:Nat):=HI.out.get HFG.out.1 hL (i:=21) (hdep ⟨21,.data⟩ (by simp) rfl)
            have e17:u 17 = .bool true:=HI.out.get HFG.out.1 hL (i:=17) (hdep ⟨17,.guard⟩ (by simp) rfl)
            go_simp
            exact hK _ _ ⟨updU u 22 (.agg #[.int .i64 (S:Nat),.int .i64 (C:Nat)]),(by simp [updU,e19,e21,e17] <;> (repeat' apply And.intro) <;> rfl),HI.out.val hL (by decide) (by rw [HFG.out.1]; exact rfl)⟩
          · have e17:u 17 = .bool true:=HI.out.get HFG.out.1 hL (i:=17) (hdep ⟨17,.guard⟩ (by simp) rfl)
            obtain ⟨⟨d0,d1,d2⟩,⟨g0,g1,g2⟩,⟨v0,v1,v2,v3⟩,⟨x0,x1,x2,x3⟩,⟨y0,y1,y2⟩,⟨p0,p1⟩,⟨a0,a1,a2,a3⟩,⟨b0,b1⟩,⟨c0,c1,c2,c3⟩,⟨h0,h1⟩⟩:=HC12.out w' (HI.out.a hL).1
            go_simp
            exact hK _ _ ⟨updU u 23 (.agg #[.int .i64 (S:Nat),.int .i64 (C:Nat)]),(by simp [updU,e17] <;> (repeat' apply And.intro) <;> rfl),HI.out.val hL (by decide) (by rw [HFG.out.1]; exact rfl)⟩
          · have e22:u 22 = .agg #[.int .i64 (S:Nat),.int .i64 (C:Nat)]:=HI.out.get HFG.out.1 hL (i:=22) (hdep ⟨22,.data⟩ (by simp) rfl)
            have e23:u 23 = .agg #[.int .i64 (S:Nat),.int .i64 (C:Nat)]:=HI.out.get HFG.out.1 hL (i:=23) (hdep ⟨23,.data⟩ (by simp) rfl)
            have e17:u 17 = .bool true:=HI.out.get HFG.out.1 hL (i:=17) (hdep ⟨17,.guard⟩ (by simp) rfl)
            go_simp
            exact hK _ _ ⟨updU u 24 (.bool true),(by simp [updU,e22,e23,e17] <;> (repeat' apply And.intro) <;> rfl),HI.out.val hL (by decide) (by rw [HFG.out.1]; exact rfl)⟩
          · have e17:u 17 = .bool true:=HI.out.get HFG.out.1 hL (i:=17) (hdep ⟨17,.data⟩ (by simp) rfl)
            have e24:u 24 = .bool true:=HI.out.get HFG.out.1 hL (i:=24) (hdep ⟨24,.data⟩ (by simp) rfl)
            go_simp
            exact hK _ _ ⟨updU u 25 (.bool true),(by simp [updU,e17,e24] <;> (repeat' apply And.intro) <;> rfl),HI.out.val hL (by decide) (by rw [HFG.out.1]; exact rfl)⟩
          · have e25:u 25 = .bool true:=HI.out.get HFG.out.1 hL (i:=25) (hdep ⟨25,.data⟩ (by simp) rfl)
            go_simp
            exact hK _ _ ⟨updU u 26 (.bool true),(by simp [updU,e25] <;> (repeat' apply And.intro) <;> rfl),HI.out.val hL (by decide) (by rw [HFG.out.1]; exact rfl)⟩
          · have e26:u 26 = .bool true:=HI.out.get HFG.out.1 hL (i:=26) (hdep ⟨26,.guard⟩ (by simp) rfl)
            refine step_callw _ (by go_simp) 14 #[] (by go_simp) _ (awake29_yes w') (by rintro e w' ⟨he,_⟩; exact ⟨_,he⟩) ?_
            rintro v4 w4 ⟨hv4,hf4⟩
            injection hv4 with hv4
            subst hv4
            try go_simp
            exact hK _ _ ⟨updU u 27 (.bool true),(by simp [updU,e26] <;> (repeat' apply And.intro) <;> rfl),HI.out.call hL (by decide) (HM.out _ _ hf4) hf4 (by rw [HFG.out.1]; exact rfl)⟩
          · have e26:u 26 = .bool true:=HI.out.get HFG.out.1 hL (i:=26) (hdep ⟨26,.data⟩ (by simp) rfl)
            have e27:u 27 = .bool true:=HI.out.get HFG.out.1 hL (i:=27) (hdep ⟨27,.data⟩ (by simp) rfl)
            go_simp
            exact hK _ _ ⟨updU u 28 (.bool true),(by simp [updU,e26,e27] <;> (repeat' apply And.intro) <;> rfl),HI.out.val hL (by decide) (by rw [HFG.out.1]; exact rfl)⟩
          · have e28:u 28 = .bool true:=HI.out.get HFG.out.1 hL (i:=28) (hdep ⟨28,.data⟩ (by simp) rfl)
            go_simp
            refine hK _ _ ⟨updU u 29 (.bool true),(by simp [updU,e28] <;> (repeat' apply And.intro) <;> rfl),RInv.last ?_⟩
            rw [HFG.out.2]
            exact ⟨rfl,(HI.out.a hL).1⟩
        · rintro f a w' hall ⟨u,rfl,HI⟩
          have hG:=HI.out.b (hall 29 (by decide))
          rw [HFG.out.2] at hG
          obtain ⟨e29,hf16⟩:=hG
          dsimp only
          simp only [e29]
          go_wp2_with fail
          go_ret
          exact ⟨rfl,(HE5.out.1.trans HE12.out.1).trans hf16⟩
end Go.Proofs.YtblafakafgediaaGreat
