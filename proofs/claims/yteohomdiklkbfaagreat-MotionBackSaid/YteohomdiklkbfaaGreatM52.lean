import Derived.Test.YteohomdiklkbfaaGreatM51
import Derived.Test.YteohomdiklkbfaaGreatM44
namespace Go.Proofs.YteohomdiklkbfaaGreat
open Go.RowKit Go.Proofs.Dm

theorem Sett.col_ex {xs:List RV} {pr pc:Int} {R C:Nat} (h:Sett xs pr pc R C) (z:Int):∃ C2:Nat,Sett xs (R:Nat) z R C2 ∧ (C2:Int) = max (min z ((widthP xs:Int) - 1)) 0 :=
  ⟨(max (min z ((widthP xs:Int) - 1)) 0).toNat,⟨h.again.row,by omega,h.set_⟩,by omega⟩
theorem Sett.at_ {xs:List RV} {pr pc:Int} {R C S:Nat} (h:Sett xs pr pc R C) (hS:SetR xs S):Sett xs (S:Nat) (C:Nat) S C:=by
  have h1:S < xs.length ∨ S = 0:=by
    rcases hS with h | h
    · exact .inl h.1
    · exact .inr h.1
  exact ⟨⟨S,by omega,sett_self xs S hS⟩,h.again.col,hS⟩
theorem cnt_ex (n:Int):∃ k,CntK n k:=⟨(min (max n 1) 9999).toNat,by unfold CntK; omega⟩
set_option maxRecDepth 100000 in
set_option maxHeartbeats 6400000 in
theorem motionBack_any (w:World) (s0:List UInt8) (m pr pc nn:Int) :
    Calls Tryz.prog 4 #[.string ⟨s0.toArray⟩,.int .u64 m,.agg #[.int .i64 pr,.int .i64 pc,.int .i64 nn]] w fun e w' => e = .returned (.bool true) ∧ Fr [] w w':=by
  go_enter Tryz.func4,Tryz.ntmps4
  obtain ⟨W1,hW1⟩:∃ Wx,Wx = (w.alloc (.cells #[.int .i64 pr,.int .i64 pc,.int .i64 nn] 51)):=⟨_,rfl⟩
  obtain ⟨B1,hB1⟩:∃ Bx,Bx = w.heap.size:=⟨_,rfl⟩
  have HNB1:Hid (w.heap.size ≤ B1):=by
    show _ ≤ _
    omega
  have HS1:Hid (Fr [] w W1 ∧ Blk W1 B1 51 #[.int .i64 pr,.int .i64 pc,.int .i64 nn]):=by
    have mB1:=Blk.new w 51 #[.int .i64 pr,.int .i64 pc,.int .i64 nn]
    rw [← hB1] at mB1
    rw [hW1]
    exact ⟨((Fr.refl [] w).alloc _),mB1⟩
  go_wp2_with fail
  try rw [← hW1]
  try rw [← hB1]
  clear hW1 hB1
  refine (hide_any W1 s0 m).mono ?_
  rintro en w1 ⟨g,p,tl,eo,s,rs,⟨zB,zm,zd,zrs,zt,ze⟩,ok,rfl,hg,hf1⟩
  simp only
  have HG2:=Lib.hid hg
  clear hg
  have HS2:Hid (Fr [] w w1 ∧ Blk w1 B1 51 #[.int .i64 pr,.int .i64 pc,.int .i64 nn]):=⟨HS1.out.1.trans hf1,HS1.out.2.fr hf1 (by simp)⟩
  clear hf1
  have HFH:=Lib.hid HS2.out.1
  have HS00:Hid (Fr [] w1 w1 ∧ Blk w1 B1 51 #[.int .i64 pr,.int .i64 pc,.int .i64 nn]):=⟨Fr.refl _ _,HS2.out.2⟩
  cases ok with
  | false =>
    obtain ⟨W3,hW3⟩:∃ Wx,Wx = ((w1.alloc (.cells #[.pointer p,.bool tl,.int .i64 eo] 31)).alloc (.cells #[.slice zB zm zd,.bool zt,.int .i64 ze] 35)):=⟨_,rfl⟩
    obtain ⟨B2,hB2⟩:∃ Bx,Bx = w1.heap.size:=⟨_,rfl⟩
    obtain ⟨B3,hB3⟩:∃ Bx,Bx = w1.heap.size + 1:=⟨_,rfl⟩
    have HNB2:Hid (w1.heap.size ≤ B2 ∧ B2 ≠ B1):=by
      have h0:=HS00.out.1.size
      have:=HS00.out.2.lt
      exact ⟨by omega,by omega⟩
    have HNB3:Hid (w1.heap.size ≤ B3 ∧ B3 ≠ B1 ∧ B3 ≠ B2):=by
      have h0:=HS00.out.1.size
      have:=HS00.out.2.lt
      exact ⟨by omega,by omega,by omega⟩
    have HS3:Hid (Fr [] w1 W3 ∧ Blk W3 B1 51 #[.int .i64 pr,.int .i64 pc,.int .i64 nn] ∧ Blk W3 B2 31 #[.pointer p,.bool tl,.int .i64 eo] ∧ Blk W3 B3 35 #[.slice zB zm zd,.bool zt,.int .i64 ze]):=by
      have mB1:=HS00.out.2
      replace mB1:=mB1.alloc (.cells #[.pointer p,.bool tl,.int .i64 eo] 31)
      replace mB1:=mB1.alloc (.cells #[.slice zB zm zd,.bool zt,.int .i64 ze] 35)
      have mB2:=Blk.new w1 31 #[.pointer p,.bool tl,.int .i64 eo]
      rw [← hB2] at mB2
      replace mB2:=mB2.alloc (.cells #[.slice zB zm zd,.bool zt,.int .i64 ze] 35)
      have mB3:=Blk.new (w1.alloc (.cells #[.pointer p,.bool tl,.int .i64 eo] 31)) 35 #[.slice zB zm zd,.bool zt,.int .i64 ze]
      simp only [World.size_alloc,World.size_setCell] at mB3
      rw [← hB3] at mB3
      rw [hW3]
      exact ⟨((HS00.out.1.alloc _).alloc _),mB1,mB2,mB3⟩
    go_wp2_with fail
    try rw [← hW3]
    try rw [← hB3]
    try rw [← hB2]
    clear hW3 hB2 hB3
    refine (awake26_yes W3).mono ?_
    rintro en w2 ⟨rfl,hf2⟩
    have HS4:Hid (Fr [] w1 w2 ∧ Blk w2 B1 51 #[.int .i64 pr,.int .i64 pc,.int .i64 nn] ∧ Blk w2 B2 31 #[.pointer p,.bool tl,.int .i64 eo] ∧ Blk w2 B3 35 #[.slice zB zm zd,.bool zt,.int .i64 ze]):=⟨HS3.out.1.trans hf2,HS3.out.2.1.fr hf2 (by simp),HS3.out.2.2.1.fr hf2 (by simp),HS3.out.2.2.2.fr hf2 (by simp)⟩
    clear hf2
    go_wp2_with fail
    go_ret
    exact ⟨rfl,HFH.out.trans HS4.out.1⟩
  | true =>
    obtain ⟨W3,hW3⟩:∃ Wx,Wx = ((w1.alloc (.cells #[.pointer p,.bool tl,.int .i64 eo] 31)).alloc (.cells #[.slice zB zm zd,.bool zt,.int .i64 ze] 35)):=⟨_,rfl⟩
    obtain ⟨B2,hB2⟩:∃ Bx,Bx = w1.heap.size:=⟨_,rfl⟩
    obtain ⟨B3,hB3⟩:∃ Bx,Bx = w1.heap.size + 1:=⟨_,rfl⟩
    have HNB2:Hid (w1.heap.size ≤ B2 ∧ B2 ≠ B1):=by
      have h0:=HS00.out.1.size
      have:=HS00.out.2.lt
      exact ⟨by omega,by omega⟩
    have HNB3:Hid (w1.heap.size ≤ B3 ∧ B3 ≠ B1 ∧ B3 ≠ B2):=by
      have h0:=HS00.out.1.size
      have:=HS00.out.2.lt
      exact ⟨by omega,by omega,by omega⟩
    have HS3:Hid (Fr [] w1 W3 ∧ Blk W3 B1 51 #[.int .i64 pr,.int .i64 pc,.int .i64 nn] ∧ Blk W3 B2 31 #[.pointer p,.bool tl,.int .i64 eo] ∧ Blk W3 B3 35 #[.slice zB zm zd,.bool zt,.int .i64 ze]):=by
      have mB1:=HS00.out.2
      replace mB1:=mB1.alloc (.cells #[.pointer p,.bool tl,.int .i64 eo] 31)
      replace mB1:=mB1.alloc (.cells #[.slice zB zm zd,.bool zt,.int .i64 ze] 35)
      have mB2:=Blk.new w1 31 #[.pointer p,.bool tl,.int .i64 eo]
      rw [← hB2] at mB2
      replace mB2:=mB2.alloc (.cells #[.slice zB zm zd,.bool zt,.int .i64 ze] 35)
      have mB3:=Blk.new (w1.alloc (.cells #[.pointer p,.bool tl,.int .i64 eo] 31)) 35 #[.slice zB zm zd,.bool zt,.int .i64 ze]
      simp only [World.size_alloc,World.size_setCell] at mB3
      rw [← hB3] at mB3
      rw [hW3]
      exact ⟨((HS00.out.1.alloc _).alloc _),mB1,mB2,mB3⟩
    have fc1:((w1.alloc (.cells #[.pointer p,.bool tl,.int .i64 eo] 31)).alloc (.cells #[.slice zB zm zd,.bool zt,.int .i64 ze] 35)).cell? ⟨B1,0,none⟩ = some (.int .i64 pr):=((HS00.out.2.alloc _).alloc _).cell 0
    have fc2:((w1.alloc (.cells #[.pointer p,.bool tl,.int .i64 eo] 31)).alloc (.cells #[.slice zB zm zd,.bool zt,.int .i64 ze] 35)).cell? ⟨B1,1,none⟩ = some (.int .i64 pc):=((HS00.out.2.alloc _).alloc _).cell 1
    go_wp2_with fail
    try rw [← hW3]
    try rw [← hB3]
    try rw [← hB2]
    clear fc1 fc2 hW3 hB2 hB3
    refine (small26_any W3 pr pc).mono ?_
    rintro en w2 ⟨rfl,hf2⟩
    obtain ⟨sm,hsm⟩:∃ sm,sm = decide (SmallP pr pc):=⟨_,rfl⟩
    rw [← hsm]
    clear hsm
    have HS4:Hid (Fr [] w1 w2 ∧ Blk w2 B1 51 #[.int .i64 pr,.int .i64 pc,.int .i64 nn] ∧ Blk w2 B2 31 #[.pointer p,.bool tl,.int .i64 eo] ∧ Blk w2 B3 35 #[.slice zB zm zd,.bool zt,.int .i64 ze]):=⟨HS3.out.1.trans hf2,HS3.out.2.1.fr hf2 (by simp),HS3.out.2.2.1.fr hf2 (by simp),HS3.out.2.2.2.fr hf2 (by simp)⟩
    clear hf2
    cases sm with
    | false =>
      go_wp2_with fail
      refine (awake26_yes w2).mono ?_
      rintro en w3 ⟨rfl,hf3⟩
      have HS6:Hid (Fr [] w1 w3 ∧ Blk w3 B1 51 #[.int .i64 pr,.int .i64 pc,.int .i64 nn] ∧ Blk w3 B2 31 #[.pointer p,.bool tl,.int .i64 eo] ∧ Blk w3 B3 35 #[.slice zB zm zd,.bool zt,.int .i64 ze]):=⟨HS4.out.1.trans hf3,HS4.out.2.1.fr hf3 (by simp),HS4.out.2.2.1.fr hf3 (by simp),HS4.out.2.2.2.fr hf3 (by simp)⟩
      clear hf3
      go_wp2_with fail
      go_ret
      exact ⟨rfl,HFH.out.trans HS6.out.1⟩
    | true =>
      obtain ⟨R,C,hset⟩:=sett_ex (rs.map Prod.fst) pr pc
      obtain ⟨k,hk⟩:=cnt_ex nn
      obtain ⟨C2,hs2,hC2⟩:=hset.col_ex ((C:Int) + k)
      have hwd:=HG2.out.wids.2
      have hC40:C ≤ 40:=by have:=hset.col; omega
      have hC240:C2 ≤ 40:=by omega
      have hCC:C ≤ C2:=by have:=hset.col; omega
      obtain ⟨RJ,hRJ⟩:∃ RJ,RJ = itF (fwd (rs.map Prod.fst)) k R:=⟨_,rfl⟩
      have hball:=back_all (xs:=(rs.map Prod.fst)) k R hset.set_
      rw [← hRJ] at hball
      have hRJs:SetR (rs.map Prod.fst) RJ:=by rw [hRJ]; exact itF_set (fun _ => fwd_set) k R hset.set_
      have HST:Hid (∀ w',Fr [] w1 w' → Calls Tryz.prog 15 #[.agg #[.pointer p,.bool tl,.int .i64 eo],.agg #[.int .i64 pr,.int .i64 pc]] w' fun en w'' => en = .returned (.agg #[.int .i64 (R:Nat),.int .i64 (C:Nat)]) ∧ Fr [] w' w''):=by
        show ∀ _,_
        intro w' hf
        exact (HG2.out.fr0 hf).settle hset
      have HML:Hid (∀ w',Fr [] w1 w' → Calls Tryz.prog 16 #[.agg #[.pointer p,.bool tl,.int .i64 eo],.pointer (some ⟨g,0,none⟩),.agg #[.int .i64 (R:Nat),.int .i64 (C:Nat)],.int .i64 108,.int .i64 nn] w' fun en w'' => en = .returned (.tuple #[.agg #[.int .i64 (R:Nat),.int .i64 (C2:Nat)],.bool (decide (C2 ≠ C))]) ∧ Fr [] w' w''):=by
        show ∀ _,_
        intro w' hf
        exact (HG2.out.fr0 hf).setok.mv108 hset.again _ nn k hk hC40 hs2
      have HMH:Hid (C2 ≠ C → ∀ w',Fr [] w1 w' → Calls Tryz.prog 16 #[.agg #[.pointer p,.bool tl,.int .i64 eo],.pointer (some ⟨g,0,none⟩),.agg #[.int .i64 (R:Nat),.int .i64 (C2:Nat)],.int .i64 104,.int .i64 ((C2:Int) - (C:Int))] w' fun en w'' => en = .returned (.tuple #[.agg #[.int .i64 (R:Nat),.int .i64 (C:Nat)],.bool true]) ∧ Fr [] w' w''):=by
        show _ → ∀ _,_
        intro hne w' hf
        have h1:=(HG2.out.fr0 hf).setok.mv104 hs2.again (some ⟨g,0,none⟩) ((C2:Int) - (C:Int)) (C2 - C) (by unfold CntK; omega) hC240 (C2:=C) (by
          rw [show (C2:Int) - ((C2 - C:Nat):Int) = (C:Nat) by omega]
          exact hset.again)
        rw [decide_eq_true (show C ≠ C2 by omega)] at h1
        exact h1
      have HMJ:Hid (∀ w',Fr [] w1 w' → Calls Tryz.prog 16 #[.agg #[.pointer p,.bool tl,.int .i64 eo],.pointer (some ⟨g,0,none⟩),.agg #[.int .i64 (R:Nat),.int .i64 (C:Nat)],.int .i64 106,.int .i64 nn] w' fun en w'' => en = .returned (.tuple #[.agg #[.int .i64 (RJ:Nat),.int .i64 (C:Nat)],.bool (decide (RJ ≠ R))]) ∧ Fr [] w' w''):=by
        show ∀ _,_
        intro w' hf
        rw [hRJ]
        exact (HG2.out.fr0 hf).mv106 hset.again _ nn k hk
      obtain ⟨vs,hvs⟩:∃ vs,vs = visI (rs.map Prod.fst) (rs.map Prod.fst).length:=⟨_,rfl⟩
      have HVI:Hid (∀ w',Fr [] w1 w' → Calls Tryz.prog 17 #[.agg #[.pointer p,.bool tl,.int .i64 eo]] w' (IntsA w' vs)):=by
        show ∀ _,_
        intro w' hf
        rw [hvs]
        exact (HG2.out.fr0 hf).vis
      have hvl:vs.length ≤ 400:=by rw [hvs]; have:=visI_len (rs.map Prod.fst) (rs.map Prod.fst).length; have:=HG2.out.xn; omega
      have HCN:Hid (RJ ≠ R → 1 ≤ cntB vs (R:Nat) (RJ:Nat) ∧ cntB vs (R:Nat) (RJ:Nat) ≤ 400 ∧ R < RJ):=by
        show _ → _
        intro hne
        obtain ⟨q1,q2,q3⟩:=hball.2.2.1 hne
        rw [hvs,cntB_is (rs.map Prod.fst) R RJ (by omega) q2]
        have:=visI_len (rs.map Prod.fst) (RJ + 1)
        have:=HG2.out.xn
        exact ⟨by omega,by omega,q1⟩
      have HMK:Hid (RJ ≠ R → ∀ w',Fr [] w1 w' → Calls Tryz.prog 16 #[.agg #[.pointer p,.bool tl,.int .i64 eo],.pointer (some ⟨g,0,none⟩),.agg #[.int .i64 (RJ:Nat),.int .i64 (C:Nat)],.int .i64 107,.int .i64 (cntB vs (R:Nat) (RJ:Nat):Nat)] w' fun en w'' => en = .returned (.tuple #[.agg #[.int .i64 (R:Nat),.int .i64 (C:Nat)],.bool true]) ∧ Fr [] w' w''):=by
        show _ → ∀ _,_
        intro hne w' hf
        have hc:=HCN.out hne
        have h1:=(HG2.out.fr0 hf).mv107 (hset.at_ hRJs) (some ⟨g,0,none⟩) (cntB vs (R:Nat) (RJ:Nat):Nat) (cntB vs (R:Nat) (RJ:Nat)) (by unfold CntK; omega)
        obtain ⟨q1,q2,q3⟩:=hball.2.2.1 hne
        have hb:itF (bwd (rs.map Prod.fst)) (cntB vs (R:Nat) (RJ:Nat)) RJ = R:=by
          rw [hvs,cntB_is (rs.map Prod.fst) R RJ (by omega) q2]
          exact hball.2.2.2
        rw [hb,decide_eq_true (show R ≠ RJ by omega)] at h1
        exact h1
      have HCC:Hid (C ≤ C2 ∧ C2 ≤ 40):=⟨hCC,hC240⟩
      have HVL:Hid (vs.length ≤ 400):=hvl
      clear hset hk hs2 hC2 hwd hC40 hC240 hCC hRJ hball hRJs hvs hvl
      go_wp2_with fail
      have HC6:Hid (∀ w',Fr [] w2 w' → (w'.cell? ⟨B2,0,none⟩ = some (.pointer p) ∧ w'.cell? ⟨B2,1,none⟩ = some (.bool tl) ∧ w'.cell? ⟨B2,2,none⟩ = some (.int .i64 eo)) ∧ (w'.cell? ⟨B1,0,none⟩ = some (.int .i64 pr) ∧ w'.cell? ⟨B1,1,none⟩ = some (.int .i64 pc) ∧ w'.cell? ⟨B1,2,none⟩ = some (.int .i64 nn))):=by
        show ∀ _,_
        intro w' hf
        have h0:=HS4.out.2.2.1.fr hf (by simp)
        have h1:=HS4.out.2.1.fr hf (by simp)
        exact ⟨⟨h0.cell 0,h0.cell 1,h0.cell 2⟩,⟨h1.cell 0,h1.cell 1,h1.cell 2⟩⟩
      obtain ⟨F,hF⟩:∃ F:World → Nat → Value → Prop,F = (fun (w:World) (i:Nat) (v:Value) => match i with | 0 => v = .agg #[.pointer p,.bool tl,.int .i64 eo] | 1 => v = .pointer (some ⟨B1,0,none⟩) | 2 => v = .agg #[.int .i64 pr,.int .i64 pc] | 3 => v = .agg #[.int .i64 pr,.int .i64 pc] | 4 => v = .agg #[.int .i64 (R:Nat),.int .i64 (C:Nat)] | 5 => ∃ B:Nat,w2.heap.size ≤ B ∧ v = .pointer (some ⟨B,0,none⟩) ∧ Blk w B 43 #[.int .i64 0,.int .i64 0] | _ => True):=⟨_,rfl⟩
      obtain ⟨G,hG⟩:∃ G:(Nat → Value) → World → Prop,G = (fun u w => ∃ (B:Nat) (w1:World),u 5 = .pointer (some ⟨B,0,none⟩) ∧ w2.heap.size ≤ B ∧ Fr [] w2 w1 ∧ Blk w1 B 43 #[.int .i64 0,.int .i64 0] ∧ w = ((w1.setCell ⟨B,0,none⟩ (.int .i64 (R:Nat))).setCell ⟨B,1,none⟩ (.int .i64 (C:Nat)))):=⟨_,rfl⟩
      have HM:Hid (∀ w1 w2:World,Fr [] w1 w2 → ∀ j x,F w1 j x → F w2 j x):=by
        show ∀ _,_
        intro w1 w2 hf j x h
        subst hF
        match j,h with
        | 0,h => exact h
        | 1,h => exact h
        | 2,h => exact h
        | 3,h => exact h
        | 4,h => exact h
        | 5,⟨B,h1,h2,h3⟩ => exact ⟨B,h1,h2,h3.fr hf (by simp)⟩
        | n + 6,h => trivial
      have HFG:=Lib.hid (And.intro hF hG)
      clear hF hG
      refine wp_region_invc (by kernel_rfl) (fun f a w' => ∃ u:Nat → Value,a = { tmps:=#[.string ⟨s0.toArray⟩,.int .u64 m,.agg #[.int .i64 pr,.int .i64 pc,.int .i64 nn],undef,undef,.pointer (some ⟨B1,0,none⟩),.bool false,.pointer (some ⟨B2,0,none⟩),.pointer (some ⟨g,0,none⟩),.pointer (some ⟨B3,0,none⟩),.bool true,u 5,undef,undef,undef,undef,undef,undef,undef,undef,undef,undef,undef,.tuple #[.agg #[.pointer p,.bool tl,.int .i64 eo],.pointer (some ⟨g,0,none⟩),.agg #[.slice zB zm zd,.bool zt,.int .i64 ze],.bool true],.string ⟨s0.toArray⟩,.int .u64 m,.tuple #[.agg #[.pointer p,.bool tl,.int .i64 eo],.pointer (some ⟨g,0,none⟩),.agg #[.slice zB zm zd,.bool zt,.int .i64 ze],.bool true],.agg #[.pointer p,.bool tl,.int .i64 eo],.pointer (some ⟨g,0,none⟩),.agg #[.slice zB zm zd,.bool zt,.int .i64 ze],.bool true,.bool true,.bool false,.bool false,.pointer (some ⟨B1,0,none⟩),.agg #[.int .i64 pr,.int .i64 pc],.bool true,.bool false,.bool false,undef,undef,undef,undef,undef,u 0,u 1,u 2,u 3,u 4,undef,undef,undef,undef,undef,undef,undef,undef,undef,undef,undef,undef,undef,undef,undef,undef,undef,undef,undef,undef,undef,undef,undef,undef,undef,undef,undef,undef,undef,undef,undef,undef,undef,undef,undef,undef,undef,undef,undef,undef,undef,undef,undef,undef,undef,undef,undef,undef,undef,undef,undef,undef,undef,undef,undef,undef,undef,undef,undef,undef,undef,undef,undef,undef,undef,undef,undef,undef,undef,undef,undef,undef,undef,undef,undef,undef,undef,undef,undef,undef,undef,undef,undef,undef,undef,undef,undef,undef,undef,undef],defers:=[] } ∧ Hid (RInv F G w2 6 f u w')) (by kernel_rfl) ?_ ?_ ?_
      · exact ⟨fun _ => undef,rfl,RInv.start _⟩
      · simp only [EachOp]
        refine ⟨?_,?_,?_,?_,?_,?_,?_,trivial⟩
        all_goals rintro f a w' hfi hdep hcl ⟨u,rfl,HI⟩ K hK
        · have hL:f 6 = false:=by
            cases g6:f 6 with
            | false => rfl
            | true =>
              have g0:=hcl 6 _ rfl g6 ⟨0,.phase⟩ (by simp) rfl
              exact Bool.noConfusion (g0.symm.trans hfi)
          obtain ⟨⟨q1_0,q1_1,q1_2⟩,⟨q2_0,q2_1,q2_2⟩⟩:=HC6.out w' (HI.out.a hL).1
          go_simp
          exact hK _ _ ⟨updU u 0 (.agg #[.pointer p,.bool tl,.int .i64 eo]),rfl,HI.out.val hL (by decide) (by rw [HFG.out.1]; exact rfl)⟩
        · have hL:f 6 = false:=by
            cases g6:f 6 with
            | false => rfl
            | true =>
              have g1:=hcl 6 _ rfl g6 ⟨1,.phase⟩ (by simp) rfl
              exact Bool.noConfusion (g1.symm.trans hfi)
          go_simp
          exact hK _ _ ⟨updU u 1 (.pointer (some ⟨B1,0,none⟩)),rfl,HI.out.val hL (by decide) (by rw [HFG.out.1]; exact rfl)⟩
        · have hL:f 6 = false:=by
            cases g6:f 6 with
            | false => rfl
            | true =>
              have g2:=hcl 6 _ rfl g6 ⟨2,.phase⟩ (by simp) rfl
              exact Bool.noConfusion (g2.symm.trans hfi)
          have e1:u 1 = .pointer (some ⟨B1,0,none⟩):=HI.out.get HFG.out.1 hL (i:=1) (hdep ⟨1,.data⟩ (by simp) rfl)
          obtain ⟨⟨q1_0,q1_1,q1_2⟩,⟨q2_0,q2_1,q2_2⟩⟩:=HC6.out w' (HI.out.a hL).1
          go_simp
          exact hK _ _ ⟨updU u 2 (.agg #[.int .i64 pr,.int .i64 pc]),(by simp [updU,e1] <;> (repeat' apply And.intro) <;> rfl),HI.out.val hL (by decide) (by rw [HFG.out.1]; exact rfl)⟩
        · have hL:f 6 = false:=by
            cases g6:f 6 with
            | false => rfl
            | true =>
              have g3:=hcl 6 _ rfl g6 ⟨3,.phase⟩ (by simp) rfl
              exact Bool.noConfusion (g3.symm.trans hfi)
          have e2:u 2 = .agg #[.int .i64 pr,.int .i64 pc]:=HI.out.get HFG.out.1 hL (i:=2) (hdep ⟨2,.data⟩ (by simp) rfl)
          refine step_call _ (by rfl) 11 #[.agg #[.int .i64 pr,.int .i64 pc]] (by go_simp) _ (mine26_any w' pr pc) (by rintro e w' ⟨he,_⟩; exact ⟨_,he⟩) ?_
          rintro v4 w4 ⟨hv4,hf4⟩
          injection hv4 with hv4
          subst hv4
          try go_simp
          exact hK _ _ ⟨updU u 3 (.agg #[.int .i64 pr,.int .i64 pc]),(by simp [updU,e2] <;> (repeat' apply And.intro) <;> rfl),HI.out.call hL (by decide) (HM.out _ _ hf4) hf4 (by rw [HFG.out.1]; exact rfl)⟩
        · have hL:f 6 = false:=by
            cases g6:f 6 with
            | false => rfl
            | true =>
              have g4:=hcl 6 _ rfl g6 ⟨4,.data⟩ (by simp) rfl
              exact Bool.noConfusion (g4.symm.trans hfi)
          have e0:u 0 = .agg #[.pointer p,.bool tl,.int .i64 eo]:=HI.out.get HFG.out.1 hL (i:=0) (hdep ⟨0,.data⟩ (by simp) rfl)
          have e3:u 3 = .agg #[.int .i64 pr,.int .i64 pc]:=HI.out.get HFG.out.1 hL (i:=3) (hdep ⟨3,.data⟩ (by simp) rfl)
          refine step_call _ (by rfl) 15 #[.agg #[.pointer p,.bool tl,.int .i64 eo],.agg #[.int .i64 pr,.int .i64 pc]] (by go_simp) _ (HST.out w' (HS4.out.1.trans (HI.out.a hL).1)) (by rintro e w' ⟨he,_⟩; exact ⟨_,he⟩) ?_
          rintro v4 w4 ⟨hv4,hf4⟩
          injection hv4 with hv4
          subst hv4
          try go_simp
          exact hK _ _ ⟨updU u 4 (.agg #[.int .i64 (R:Nat),.int .i64 (C:Nat)]),(by simp [updU,e0,e3] <;> (repeat' apply And.intro) <;> rfl),HI.out.call hL (by decide) (HM.out _ _ hf4) hf4 (by rw [HFG.out.1]; exact rfl)⟩
        · have hL:f 6 = false:=by
            cases g6:f 6 with
            | false => rfl
            | true =>
              have g5:=hcl 6 _ rfl g6 ⟨5,.data⟩ (by simp) rfl
              exact Bool.noConfusion (g5.symm.trans hfi)
          have hz:=(HI.out.a hL).1.size
          go_simp
          exact hK _ _ ⟨updU u 5 (.pointer (some ⟨w'.heap.size,0,none⟩)),rfl,HI.out.call hL (by decide) (HM.out _ _ ((Fr.refl [] w').alloc _)) ((Fr.refl [] w').alloc _) (by rw [HFG.out.1]; exact ⟨w'.heap.size,hz,rfl,Blk.new w' _ _⟩)⟩
        · have hL:f 6 = false:=hfi
          have e5:=HI.out.get HFG.out.1 hL (i:=5) (hdep ⟨5,.data⟩ (by simp) rfl)
          have e4:u 4 = .agg #[.int .i64 (R:Nat),.int .i64 (C:Nat)]:=HI.out.get HFG.out.1 hL (i:=4) (hdep ⟨4,.data⟩ (by simp) rfl)
          obtain ⟨B,hB1,hB2,hB3⟩:=HI.out.get HFG.out.1 hL (i:=5) (hdep ⟨5,.data⟩ (by simp) rfl)
          have b0:=hB3.cell 0
          have b0f:=hB3.frozen 0
          have b1:=hB3.cell 1
          have b1f:=hB3.frozen 1
          have bl:=hB3.lt
          simp only [List.getElem?_toArray,List.getElem?_cons_zero,List.getElem?_cons_succ] at b0 b1
          go_simp
          refine hK _ _ ⟨u,(by first | rfl | (simp [hB2,e4] <;> rfl)),RInv.last ?_⟩
          rw [HFG.out.2]
          exact ⟨B,w',hB2,hB1,(HI.out.a hL).1,hB3,rfl⟩
      rintro f a wr6 hall ⟨u6,rfl,HI⟩
      have hG:=HI.out.b (hall 6 (by decide))
      rw [HFG.out.2] at hG
      obtain ⟨B4,wr6a,hu,hge,hfwr6,hbn,hw1⟩:=hG
      subst hw1
      try dsimp only
      simp only [hu]
      clear hu
      have HS7:Hid (Fr [] w1 wr6a ∧ Blk wr6a B1 51 #[.int .i64 pr,.int .i64 pc,.int .i64 nn] ∧ Blk wr6a B2 31 #[.pointer p,.bool tl,.int .i64 eo] ∧ Blk wr6a B3 35 #[.slice zB zm zd,.bool zt,.int .i64 ze]):=⟨HS4.out.1.trans hfwr6,HS4.out.2.1.fr hfwr6 (by simp),HS4.out.2.2.1.fr hfwr6 (by simp),HS4.out.2.2.2.fr hfwr6 (by simp)⟩
      clear hfwr6 HI hall HFG HM HC6
      have HNB4:Hid (w1.heap.size ≤ B4 ∧ B4 ≠ B1 ∧ B4 ≠ B2 ∧ B4 ≠ B3):=by
        have h0:=hge
        have h1:=HS4.out.1.size
        have:=HS4.out.2.1.lt
        have:=HS4.out.2.2.1.lt
        have:=HS4.out.2.2.2.lt
        exact ⟨by omega,by omega,by omega,by omega⟩
      have HS8:Hid (Fr [] w1 wr6a ∧ Blk wr6a B1 51 #[.int .i64 pr,.int .i64 pc,.int .i64 nn] ∧ Blk wr6a B2 31 #[.pointer p,.bool tl,.int .i64 eo] ∧ Blk wr6a B3 35 #[.slice zB zm zd,.bool zt,.int .i64 ze] ∧ Blk wr6a B4 43 #[.int .i64 0,.int .i64 0]):=⟨HS7.out.1,HS7.out.2.1,HS7.out.2.2.1,HS7.out.2.2.2,hbn⟩
      clear hbn hge
      obtain ⟨W9,hW9⟩:∃ Wx,Wx = ((wr6a.setCell ⟨B4,0,none⟩ (.int .i64 (R:Nat))).setCell ⟨B4,1,none⟩ (.int .i64 (C:Nat))):=⟨_,rfl⟩
      have HS9:Hid (Fr [] w1 W9 ∧ Blk W9 B1 51 #[.int .i64 pr,.int .i64 pc,.int .i64 nn] ∧ Blk W9 B2 31 #[.pointer p,.bool tl,.int .i64 eo] ∧ Blk W9 B3 35 #[.slice zB zm zd,.bool zt,.int .i64 ze] ∧ Blk W9 B4 43 #[.int .i64 (R:Nat),.int .i64 (C:Nat)]):=by
        have mB1:=HS8.out.2.1
        replace mB1:=mB1.far (p:=⟨B4,0,none⟩) (fun e => by have e:B1 = B4:=e; have:=HNB4.out; omega) (.int .i64 (R:Nat))
        replace mB1:=mB1.far (p:=⟨B4,1,none⟩) (fun e => by have e:B1 = B4:=e; have:=HNB4.out; omega) (.int .i64 (C:Nat))
        have mB2:=HS8.out.2.2.1
        replace mB2:=mB2.far (p:=⟨B4,0,none⟩) (fun e => by have e:B2 = B4:=e; have:=HNB4.out; omega) (.int .i64 (R:Nat))
        replace mB2:=mB2.far (p:=⟨B4,1,none⟩) (fun e => by have e:B2 = B4:=e; have:=HNB4.out; omega) (.int .i64 (C:Nat))
        have mB3:=HS8.out.2.2.2.1
        replace mB3:=mB3.far (p:=⟨B4,0,none⟩) (fun e => by have e:B3 = B4:=e; have:=HNB4.out; omega) (.int .i64 (R:Nat))
        replace mB3:=mB3.far (p:=⟨B4,1,none⟩) (fun e => by have e:B3 = B4:=e; have:=HNB4.out; omega) (.int .i64 (C:Nat))
        have mB4:=HS8.out.2.2.2.2
        replace mB4:Blk (wr6a.setCell ⟨B4,0,none⟩ (.int .i64 (R:Nat))) B4 43 #[.int .i64 (R:Nat),.int .i64 0]:=by simpa using mB4.set_ 0 (.int .i64 (R:Nat))
        replace mB4:Blk ((wr6a.setCell ⟨B4,0,none⟩ (.int .i64 (R:Nat))).setCell ⟨B4,1,none⟩ (.int .i64 (C:Nat))) B4 43 #[.int .i64 (R:Nat),.int .i64 (C:Nat)]:=by simpa using mB4.set_ 1 (.int .i64 (C:Nat))
        rw [hW9]
        exact ⟨((HS8.out.1.setB (fun h => absurd h (by have:=HNB4.out; omega)) _ _).setB (fun h => absurd h (by have:=HNB4.out; omega)) _ _),mB1,mB2,mB3,mB4⟩
      skip
      try rw [← hW9]
      clear hW9
      have fc1:W9.cell? ⟨B2,0,none⟩ = some (.pointer p):=HS9.out.2.2.1.cell 0
      have fc2:W9.cell? ⟨B2,1,none⟩ = some (.bool tl):=HS9.out.2.2.1.cell 1
      have fc3:W9.cell? ⟨B2,2,none⟩ = some (.int .i64 eo):=HS9.out.2.2.1.cell 2
      have fc4:W9.cell? ⟨B4,0,none⟩ = some (.int .i64 (R:Nat)):=HS9.out.2.2.2.2.cell 0
      have fc5:W9.cell? ⟨B4,1,none⟩ = some (.int .i64 (C:Nat)):=HS9.out.2.2.2.2.cell 1
      have fc6:W9.cell? ⟨B1,2,none⟩ = some (.int .i64 nn):=HS9.out.2.1.cell 2
      go_wp2_with fail
      clear fc1 fc2 fc3 fc4 fc5 fc6
      refine (HML.out W9 HS9.out.1).mono ?_
      rintro en w3 ⟨rfl,hf3⟩
      obtain ⟨mv,hmv⟩:∃ mv,mv = decide (C2 ≠ C):=⟨_,rfl⟩
      rw [← hmv]
      have HMV:=Lib.hid hmv
      clear hmv
      have HS11:Hid (Fr [] w1 w3 ∧ Blk w3 B1 51 #[.int .i64 pr,.int .i64 pc,.int .i64 nn] ∧ Blk w3 B2 31 #[.pointer p,.bool tl,.int .i64 eo] ∧ Blk w3 B3 35 #[.slice zB zm zd,.bool zt,.int .i64 ze] ∧ Blk w3 B4 43 #[.int .i64 (R:Nat),.int .i64 (C:Nat)]):=⟨HS9.out.1.trans hf3,HS9.out.2.1.fr hf3 (by simp),HS9.out.2.2.1.fr hf3 (by simp),HS9.out.2.2.2.1.fr hf3 (by simp),HS9.out.2.2.2.2.fr hf3 (by simp)⟩
      clear hf3
      cases mv with
      | false =>
        obtain ⟨W12,hW12⟩:∃ Wx,Wx = (w3.alloc (.cells #[.int .i64 (R:Nat),.int .i64 (C2:Nat)] 43)):=⟨_,rfl⟩
        obtain ⟨B5,hB5⟩:∃ Bx,Bx = w3.heap.size:=⟨_,rfl⟩
        have HNB5:Hid (w1.heap.size ≤ B5 ∧ B5 ≠ B1 ∧ B5 ≠ B2 ∧ B5 ≠ B3 ∧ B5 ≠ B4):=by
          have h0:=HS11.out.1.size
          have:=HS11.out.2.1.lt
          have:=HS11.out.2.2.1.lt
          have:=HS11.out.2.2.2.1.lt
          have:=HS11.out.2.2.2.2.lt
          exact ⟨by omega,by omega,by omega,by omega,by omega⟩
        have HS12:Hid (Fr [] w1 W12 ∧ Blk W12 B1 51 #[.int .i64 pr,.int .i64 pc,.int .i64 nn] ∧ Blk W12 B2 31 #[.pointer p,.bool tl,.int .i64 eo] ∧ Blk W12 B3 35 #[.slice zB zm zd,.bool zt,.int .i64 ze] ∧ Blk W12 B4 43 #[.int .i64 (R:Nat),.int .i64 (C:Nat)] ∧ Blk W12 B5 43 #[.int .i64 (R:Nat),.int .i64 (C2:Nat)]):=by
          have mB1:=HS11.out.2.1
          replace mB1:=mB1.alloc (.cells #[.int .i64 (R:Nat),.int .i64 (C2:Nat)] 43)
          have mB2:=HS11.out.2.2.1
          replace mB2:=mB2.alloc (.cells #[.int .i64 (R:Nat),.int .i64 (C2:Nat)] 43)
          have mB3:=HS11.out.2.2.2.1
          replace mB3:=mB3.alloc (.cells #[.int .i64 (R:Nat),.int .i64 (C2:Nat)] 43)
          have mB4:=HS11.out.2.2.2.2
          replace mB4:=mB4.alloc (.cells #[.int .i64 (R:Nat),.int .i64 (C2:Nat)] 43)
          have mB5:=Blk.new w3 43 #[.int .i64 (R:Nat),.int .i64 (C2:Nat)]
          rw [← hB5] at mB5
          rw [hW12]
          exact ⟨(HS11.out.1.alloc _),mB1,mB2,mB3,mB4,mB5⟩
        have fc1:(w3.alloc (.cells #[.int .i64 (R:Nat),.int .i64 (C2:Nat)] 43)).cell? ⟨B2,0,none⟩ = some (.pointer p):=(HS11.out.2.2.1.alloc _).cell 0
        have fc2:(w3.alloc (.cells #[.int .i64 (R:Nat),.int .i64 (C2:Nat)] 43)).cell? ⟨B2,1,none⟩ = some (.bool tl):=(HS11.out.2.2.1.alloc _).cell 1
        have fc3:(w3.alloc (.cells #[.int .i64 (R:Nat),.int .i64 (C2:Nat)] 43)).cell? ⟨B2,2,none⟩ = some (.int .i64 eo):=(HS11.out.2.2.1.alloc _).cell 2
        have fc4:(w3.alloc (.cells #[.int .i64 (R:Nat),.int .i64 (C2:Nat)] 43)).cell? ⟨B4,0,none⟩ = some (.int .i64 (R:Nat)):=(HS11.out.2.2.2.2.alloc _).cell 0
        have fc5:(w3.alloc (.cells #[.int .i64 (R:Nat),.int .i64 (C2:Nat)] 43)).cell? ⟨B4,1,none⟩ = some (.int .i64 (C:Nat)):=(HS11.out.2.2.2.2.alloc _).cell 1
        have fc6:(w3.alloc (.cells #[.int .i64 (R:Nat),.int .i64 (C2:Nat)] 43)).cell? ⟨B1,2,none⟩ = some (.int .i64 nn):=(HS11.out.2.1.alloc _).cell 2
        go_wp2_with fail
        try rw [← hW12]
        try rw [← hB5]
        clear fc1 fc2 fc3 fc4 fc5 fc6 hW12 hB5
        refine (HMJ.out W12 HS12.out.1).mono ?_
        rintro en w4 ⟨rfl,hf4⟩
        obtain ⟨dn,hdn⟩:∃ dn,dn = decide (RJ ≠ R):=⟨_,rfl⟩
        rw [← hdn]
        have HDN:=Lib.hid hdn
        clear hdn
        have HS13:Hid (Fr [] w1 w4 ∧ Blk w4 B1 51 #[.int .i64 pr,.int .i64 pc,.int .i64 nn] ∧ Blk w4 B2 31 #[.pointer p,.bool tl,.int .i64 eo] ∧ Blk w4 B3 35 #[.slice zB zm zd,.bool zt,.int .i64 ze] ∧ Blk w4 B4 43 #[.int .i64 (R:Nat),.int .i64 (C:Nat)] ∧ Blk w4 B5 43 #[.int .i64 (R:Nat),.int .i64 (C2:Nat)]):=⟨HS12.out.1.trans hf4,HS12.out.2.1.fr hf4 (by simp),HS12.out.2.2.1.fr hf4 (by simp),HS12.out.2.2.2.1.fr hf4 (by simp),HS12.out.2.2.2.2.1.fr hf4 (by simp),HS12.out.2.2.2.2.2.fr hf4 (by simp)⟩
        clear hf4
        cases dn with
        | false =>
          have hRR:RJ = R:=Decidable.not_not.1 (of_decide_eq_false HDN.out.symm)
          subst hRR
          obtain ⟨W14,hW14⟩:∃ Wx,Wx = (w4.alloc (.cells #[.int .i64 (RJ:Nat),.int .i64 (C:Nat)] 43)):=⟨_,rfl⟩
          obtain ⟨B6,hB6⟩:∃ Bx,Bx = w4.heap.size:=⟨_,rfl⟩
          have HNB6:Hid (w1.heap.size ≤ B6 ∧ B6 ≠ B1 ∧ B6 ≠ B2 ∧ B6 ≠ B3 ∧ B6 ≠ B4 ∧ B6 ≠ B5):=by
            have h0:=HS13.out.1.size
            have:=HS13.out.2.1.lt
            have:=HS13.out.2.2.1.lt
            have:=HS13.out.2.2.2.1.lt
            have:=HS13.out.2.2.2.2.1.lt
            have:=HS13.out.2.2.2.2.2.lt
            exact ⟨by omega,by omega,by omega,by omega,by omega,by omega⟩
          have HS14:Hid (Fr [] w1 W14 ∧ Blk W14 B1 51 #[.int .i64 pr,.int .i64 pc,.int .i64 nn] ∧ Blk W14 B2 31 #[.pointer p,.bool tl,.int .i64 eo] ∧ Blk W14 B3 35 #[.slice zB zm zd,.bool zt,.int .i64 ze] ∧ Blk W14 B4 43 #[.int .i64 (RJ:Nat),.int .i64 (C:Nat)] ∧ Blk W14 B5 43 #[.int .i64 (RJ:Nat),.int .i64 (C2:Nat)] ∧ Blk W14 B6 43 #[.int .i64 (RJ:Nat),.int .i64 (C:Nat)]):=by
            have mB1:=HS13.out.2.1
            replace mB1:=mB1.alloc (.cells #[.int .i64 (RJ:Nat),.int .i64 (C:Nat)] 43)
            have mB2:=HS13.out.2.2.1
            replace mB2:=mB2.alloc (.cells #[.int .i64 (RJ:Nat),.int .i64 (C:Nat)] 43)
            have mB3:=HS13.out.2.2.2.1
            replace mB3:=mB3.alloc (.cells #[.int .i64 (RJ:Nat),.int .i64 (C:Nat)] 43)
            have mB4:=HS13.out.2.2.2.2.1
            replace mB4:=mB4.alloc (.cells #[.int .i64 (RJ:Nat),.int .i64 (C:Nat)] 43)
            have mB5:=HS13.out.2.2.2.2.2
            replace mB5:=mB5.alloc (.cells #[.int .i64 (RJ:Nat),.int .i64 (C:Nat)] 43)
            have mB6:=Blk.new w4 43 #[.int .i64 (RJ:Nat),.int .i64 (C:Nat)]
            rw [← hB6] at mB6
            rw [hW14]
            exact ⟨(HS13.out.1.alloc _),mB1,mB2,mB3,mB4,mB5,mB6⟩
          have fc1:(w4.alloc (.cells #[.int .i64 (RJ:Nat),.int .i64 (C:Nat)] 43)).cell? ⟨B4,0,none⟩ = some (.int .i64 (RJ:Nat)):=(HS13.out.2.2.2.2.1.alloc _).cell 0
          have fc2:(w4.alloc (.cells #[.int .i64 (RJ:Nat),.int .i64 (C:Nat)] 43)).cell? ⟨B4,1,none⟩ = some (.int .i64 (C:Nat)):=(HS13.out.2.2.2.2.1.alloc _).cell 1
          go_wp2_with fail
          try rw [← hW14]
          try rw [← hB6]
          clear fc1 fc2 hW14 hB6
          refine (awake26_yes W14).mono ?_
          rintro en w5 ⟨rfl,hf5⟩
          have HS15:Hid (Fr [] w1 w5 ∧ Blk w5 B1 51 #[.int .i64 pr,.int .i64 pc,.int .i64 nn] ∧ Blk w5 B2 31 #[.pointer p,.bool tl,.int .i64 eo] ∧ Blk w5 B3 35 #[.slice zB zm zd,.bool zt,.int .i64 ze] ∧ Blk w5 B4 43 #[.int .i64 (RJ:Nat),.int .i64 (C:Nat)] ∧ Blk w5 B5 43 #[.int .i64 (RJ:Nat),.int .i64 (C2:Nat)] ∧ Blk w5 B6 43 #[.int .i64 (RJ:Nat),.int .i64 (C:Nat)]):=⟨HS14.out.1.trans hf5,HS14.out.2.1.fr hf5 (by simp),HS14.out.2.2.1.fr hf5 (by simp),HS14.out.2.2.2.1.fr hf5 (by simp),HS14.out.2.2.2.2.1.fr hf5 (by simp),HS14.out.2.2.2.2.2.1.fr hf5 (by simp),HS14.out.2.2.2.2.2.2.fr hf5 (by simp)⟩
          clear hf5
          go_wp2_with fail
          go_ret
          exact ⟨rfl,HFH.out.trans HS15.out.1⟩
        | true =>
          have hne:RJ ≠ R:=of_decide_eq_true HDN.out.symm
          have HNE:=Lib.hid hne
          clear hne
          obtain ⟨W14,hW14⟩:∃ Wx,Wx = (w4.alloc (.cells #[.int .i64 (RJ:Nat),.int .i64 (C:Nat)] 43)):=⟨_,rfl⟩
          obtain ⟨B6,hB6⟩:∃ Bx,Bx = w4.heap.size:=⟨_,rfl⟩
          have HNB6:Hid (w1.heap.size ≤ B6 ∧ B6 ≠ B1 ∧ B6 ≠ B2 ∧ B6 ≠ B3 ∧ B6 ≠ B4 ∧ B6 ≠ B5):=by
            have h0:=HS13.out.1.size
            have:=HS13.out.2.1.lt
            have:=HS13.out.2.2.1.lt
            have:=HS13.out.2.2.2.1.lt
            have:=HS13.out.2.2.2.2.1.lt
            have:=HS13.out.2.2.2.2.2.lt
            exact ⟨by omega,by omega,by omega,by omega,by omega,by omega⟩
          have HS14:Hid (Fr [] w1 W14 ∧ Blk W14 B1 51 #[.int .i64 pr,.int .i64 pc,.int .i64 nn] ∧ Blk W14 B2 31 #[.pointer p,.bool tl,.int .i64 eo] ∧ Blk W14 B3 35 #[.slice zB zm zd,.bool zt,.int .i64 ze] ∧ Blk W14 B4 43 #[.int .i64 (R:Nat),.int .i64 (C:Nat)] ∧ Blk W14 B5 43 #[.int .i64 (R:Nat),.int .i64 (C2:Nat)] ∧ Blk W14 B6 43 #[.int .i64 (RJ:Nat),.int .i64 (C:Nat)]):=by
            have mB1:=HS13.out.2.1
            replace mB1:=mB1.alloc (.cells #[.int .i64 (RJ:Nat),.int .i64 (C:Nat)] 43)
            have mB2:=HS13.out.2.2.1
            replace mB2:=mB2.alloc (.cells #[.int .i64 (RJ:Nat),.int .i64 (C:Nat)] 43)
            have mB3:=HS13.out.2.2.2.1
            replace mB3:=mB3.alloc (.cells #[.int .i64 (RJ:Nat),.int .i64 (C:Nat)] 43)
            have mB4:=HS13.out.2.2.2.2.1
            replace mB4:=mB4.alloc (.cells #[.int .i64 (RJ:Nat),.int .i64 (C:Nat)] 43)
            have mB5:=HS13.out.2.2.2.2.2
            replace mB5:=mB5.alloc (.cells #[.int .i64 (RJ:Nat),.int .i64 (C:Nat)] 43)
            have mB6:=Blk.new w4 43 #[.int .i64 (RJ:Nat),.int .i64 (C:Nat)]
            rw [← hB6] at mB6
            rw [hW14]
            exact ⟨(HS13.out.1.alloc _),mB1,mB2,mB3,mB4,mB5,mB6⟩
          have fc1:(w4.alloc (.cells #[.int .i64 (RJ:Nat),.int .i64 (C:Nat)] 43)).cell? ⟨B2,0,none⟩ = some (.pointer p):=(HS13.out.2.2.1.alloc _).cell 0
          have fc2:(w4.alloc (.cells #[.int .i64 (RJ:Nat),.int .i64 (C:Nat)] 43)).cell? ⟨B2,1,none⟩ = some (.bool tl):=(HS13.out.2.2.1.alloc _).cell 1
          have fc3:(w4.alloc (.cells #[.int .i64 (RJ:Nat),.int .i64 (C:Nat)] 43)).cell? ⟨B2,2,none⟩ = some (.int .i64 eo):=(HS13.out.2.2.1.alloc _).cell 2
          go_wp2_with fail
          try rw [← hW14]
          try rw [← hB6]
          clear fc1 fc2 fc3 hW14 hB6
          refine (HVI.out W14 HS14.out.1).mono ?_
          rintro en w5 ⟨vB,vn,vc,rfl,hvn,hvs,hf5⟩
          have HVS:=Lib.hid (And.intro hvn hvs)
          clear hvn hvs
          have HS15:Hid (Fr [] w1 w5 ∧ Blk w5 B1 51 #[.int .i64 pr,.int .i64 pc,.int .i64 nn] ∧ Blk w5 B2 31 #[.pointer p,.bool tl,.int .i64 eo] ∧ Blk w5 B3 35 #[.slice zB zm zd,.bool zt,.int .i64 ze] ∧ Blk w5 B4 43 #[.int .i64 (R:Nat),.int .i64 (C:Nat)] ∧ Blk w5 B5 43 #[.int .i64 (R:Nat),.int .i64 (C2:Nat)] ∧ Blk w5 B6 43 #[.int .i64 (RJ:Nat),.int .i64 (C:Nat)]):=⟨HS14.out.1.trans hf5,HS14.out.2.1.fr hf5 (by simp),HS14.out.2.2.1.fr hf5 (by simp),HS14.out.2.2.2.1.fr hf5 (by simp),HS14.out.2.2.2.2.1.fr hf5 (by simp),HS14.out.2.2.2.2.2.1.fr hf5 (by simp),HS14.out.2.2.2.2.2.2.fr hf5 (by simp)⟩
          clear hf5
          have hv6:(vn:Int) ≤ 400:=by have:=HVS.out.1; have:=HVL.out; omega
          go_wp2_with fail
          go_loopg [18,98] vn (fun kk cv iv wr => ∃ j:Nat,kk + j = vn ∧ iv = .int .i64 (j:Nat) ∧ cv = .int .i64 (cntB (vs.take j) (R:Nat) (RJ:Nat):Nat) ∧ Hid (Fr [] w5 wr) ∧ Hid (Fr [] w1 wr ∧ Blk wr B1 51 #[.int .i64 pr,.int .i64 pc,.int .i64 nn] ∧ Blk wr B2 31 #[.pointer p,.bool tl,.int .i64 eo] ∧ Blk wr B3 35 #[.slice zB zm zd,.bool zt,.int .i64 ze] ∧ Blk wr B4 43 #[.int .i64 (R:Nat),.int .i64 (C:Nat)] ∧ Blk wr B5 43 #[.int .i64 (R:Nat),.int .i64 (C2:Nat)] ∧ Blk wr B6 43 #[.int .i64 (RJ:Nat),.int .i64 (C:Nat)]))
          case atStart => exact ⟨0,by omega,rfl,rfl,Fr.refl _ _,HS15⟩
          case round =>
            obtain ⟨j,hj,rfl,rfl,HFV,HL⟩:=hrel
            by_cases hlt:j < vn
            · have hil:j < vs.length:=by rw [← HVS.out.1]; exact hlt
              obtain ⟨ad,hvB,hcell⟩:=intsV_at (HVS.out.2.fr HFV.out (.inr List.not_mem_nil)) hil
              subst hvB
              obtain ⟨v,hv⟩:∃ v,v = vs[j]:=⟨_,rfl⟩
              rw [← hv] at hcell
              have hts:vs.take (j + 1) = vs.take j ++ [v]:=by rw [List.take_succ_eq_append_getElem hil,hv]
              have HTS:Hid (cntB (vs.take (j + 1)) (R:Nat) (RJ:Nat) = cntB (vs.take j) (R:Nat) (RJ:Nat) + if (R:Int) < v ∧ v ≤ (RJ:Int) then 1 else 0):=by show _ = _; rw [hts]; exact cntB_snoc _ _ _ _
              obtain ⟨cj,hcj⟩:∃ cj,cj = cntB (vs.take j) (R:Nat) (RJ:Nat):=⟨_,rfl⟩
              have hc4:cj ≤ 400:=by
                rw [hcj]
                unfold cntB
                have h1:=List.length_filter_le (fun v => decide ((R:Int) < v) && decide (v ≤ (RJ:Int))) (vs.take j)
                have h2:=List.length_take_le j vs
                have h3:=HVL.out
                omega
              rw [← hcj] at HTS ⊢
              have hw1:IntKind.i64.wrap ((j:Int) + 1) = ((j + 1:Nat):Int):=by rw [IntWalk.i64_in _ (by omega)]; omega
              have hw2:IntKind.i64.wrap ((cj:Int) + 1) = ((cj + 1:Nat):Int):=by rw [IntWalk.i64_in _ (by omega)]; omega
              have hj0:(0:Int) ≤ (j:Int):=by omega
              have hj1:(j:Int) < (vn:Int):=by omega
              clear hv hts hcj hil hc4
              by_cases hg1:(R:Int) < v
              · by_cases hg2:v ≤ (RJ:Int)
                · have hd1:decide ((R:Int) < v) = true:=decide_eq_true hg1
                  have hd2:decide (v ≤ (RJ:Int)) = true:=decide_eq_true hg2
                  have fc1:wr.cell? ⟨B4,0,none⟩ = some (.int .i64 (R:Nat)):=HL.out.2.2.2.2.1.cell 0
                  have fc2:wr.cell? ⟨B6,0,none⟩ = some (.int .i64 (RJ:Nat)):=HL.out.2.2.2.2.2.2.cell 0
                  go_wp2_with fail
                  clear fc1 fc2
                  go_roundg (vn - (j + 1))
                  case rel => exact ⟨j + 1,by omega,rfl,by rw [HTS.out,if_pos ⟨‹_›,‹_›⟩]; rfl,HFV,HL⟩
                  case measure => omega
                · have hd1:decide ((R:Int) < v) = true:=decide_eq_true hg1
                  have hd2:decide (v ≤ (RJ:Int)) = false:=decide_eq_false hg2
                  have fc1:wr.cell? ⟨B4,0,none⟩ = some (.int .i64 (R:Nat)):=HL.out.2.2.2.2.1.cell 0
                  have fc2:wr.cell? ⟨B6,0,none⟩ = some (.int .i64 (RJ:Nat)):=HL.out.2.2.2.2.2.2.cell 0
                  go_wp2_with fail
                  clear fc1 fc2
                  go_roundg (vn - (j + 1))
                  case rel => exact ⟨j + 1,by omega,rfl,by rw [HTS.out,if_neg (fun h => by have:=h.1; have:=h.2; omega),Nat.add_zero],HFV,HL⟩
                  case measure => omega
              · have hd1:decide ((R:Int) < v) = false:=decide_eq_false hg1
                have fc1:wr.cell? ⟨B4,0,none⟩ = some (.int .i64 (R:Nat)):=HL.out.2.2.2.2.1.cell 0
                go_wp2_with fail
                clear fc1
                go_roundg (vn - (j + 1))
                case rel => exact ⟨j + 1,by omega,rfl,by rw [HTS.out,if_neg (fun h => by have:=h.1; have:=h.2; omega),Nat.add_zero],HFV,HL⟩
                case measure => omega
            · obtain rfl:j = vn:=by omega
              have HTK:Hid (vs.take j = vs):=by show _ = _; exact List.take_of_length_le (by rw [← HVS.out.1]; exact Nat.le_refl _)
              clear hlt hj
              rw [HTK.out]
              obtain ⟨cn,hcn⟩:∃ cn,cn = cntB vs (R:Nat) (RJ:Nat):=⟨_,rfl⟩
              have HMK2:=Lib.hid (HMK.out HNE.out)
              rw [← hcn] at HMK2 ⊢
              clear hcn
              have hgt:(R:Int) < (RJ:Int):=by have:=(HCN.out HNE.out).2.2; omega
              have fc1:wr.cell? ⟨B2,0,none⟩ = some (.pointer p):=HL.out.2.2.1.cell 0
              have fc2:wr.cell? ⟨B2,1,none⟩ = some (.bool tl):=HL.out.2.2.1.cell 1
              have fc3:wr.cell? ⟨B2,2,none⟩ = some (.int .i64 eo):=HL.out.2.2.1.cell 2
              have fc4:wr.cell? ⟨B6,0,none⟩ = some (.int .i64 (RJ:Nat)):=HL.out.2.2.2.2.2.2.cell 0
              have fc5:wr.cell? ⟨B6,1,none⟩ = some (.int .i64 (C:Nat)):=HL.out.2.2.2.2.2.2.cell 1
              go_wp2_with fail
              clear fc1 fc2 fc3 fc4 fc5
              refine (HMK2.out wr HL.out.1).mono ?_
              rintro en w6 ⟨rfl,hf6⟩
              have HS18:Hid (Fr [] w1 w6 ∧ Blk w6 B1 51 #[.int .i64 pr,.int .i64 pc,.int .i64 nn] ∧ Blk w6 B2 31 #[.pointer p,.bool tl,.int .i64 eo] ∧ Blk w6 B3 35 #[.slice zB zm zd,.bool zt,.int .i64 ze] ∧ Blk w6 B4 43 #[.int .i64 (R:Nat),.int .i64 (C:Nat)] ∧ Blk w6 B5 43 #[.int .i64 (R:Nat),.int .i64 (C2:Nat)] ∧ Blk w6 B6 43 #[.int .i64 (RJ:Nat),.int .i64 (C:Nat)]):=⟨HL.out.1.trans hf6,HL.out.2.1.fr hf6 (by simp),HL.out.2.2.1.fr hf6 (by simp),HL.out.2.2.2.1.fr hf6 (by simp),HL.out.2.2.2.2.1.fr hf6 (by simp),HL.out.2.2.2.2.2.1.fr hf6 (by simp),HL.out.2.2.2.2.2.2.fr hf6 (by simp)⟩
              clear hf6
              obtain ⟨W19,hW19⟩:∃ Wx,Wx = (w6.alloc (.cells #[.int .i64 (R:Nat),.int .i64 (C:Nat)] 43)):=⟨_,rfl⟩
              obtain ⟨B7,hB7⟩:∃ Bx,Bx = w6.heap.size:=⟨_,rfl⟩
              have HNB7:Hid (w1.heap.size ≤ B7 ∧ B7 ≠ B1 ∧ B7 ≠ B2 ∧ B7 ≠ B3 ∧ B7 ≠ B4 ∧ B7 ≠ B5 ∧ B7 ≠ B6):=by
                have h0:=HS18.out.1.size
                have:=HS18.out.2.1.lt
                have:=HS18.out.2.2.1.lt
                have:=HS18.out.2.2.2.1.lt
                have:=HS18.out.2.2.2.2.1.lt
                have:=HS18.out.2.2.2.2.2.1.lt
                have:=HS18.out.2.2.2.2.2.2.lt
                exact ⟨by omega,by omega,by omega,by omega,by omega,by omega,by omega⟩
              have HS19:Hid (Fr [] w1 W19 ∧ Blk W19 B1 51 #[.int .i64 pr,.int .i64 pc,.int .i64 nn] ∧ Blk W19 B2 31 #[.pointer p,.bool tl,.int .i64 eo] ∧ Blk W19 B3 35 #[.slice zB zm zd,.bool zt,.int .i64 ze] ∧ Blk W19 B4 43 #[.int .i64 (R:Nat),.int .i64 (C:Nat)] ∧ Blk W19 B5 43 #[.int .i64 (R:Nat),.int .i64 (C2:Nat)] ∧ Blk W19 B6 43 #[.int .i64 (RJ:Nat),.int .i64 (C:Nat)] ∧ Blk W19 B7 43 #[.int .i64 (R:Nat),.int .i64 (C:Nat)]):=by
                have mB1:=HS18.out.2.1
                replace mB1:=mB1.alloc (.cells #[.int .i64 (R:Nat),.int .i64 (C:Nat)] 43)
                have mB2:=HS18.out.2.2.1
                replace mB2:=mB2.alloc (.cells #[.int .i64 (R:Nat),.int .i64 (C:Nat)] 43)
                have mB3:=HS18.out.2.2.2.1
                replace mB3:=mB3.alloc (.cells #[.int .i64 (R:Nat),.int .i64 (C:Nat)] 43)
                have mB4:=HS18.out.2.2.2.2.1
                replace mB4:=mB4.alloc (.cells #[.int .i64 (R:Nat),.int .i64 (C:Nat)] 43)
                have mB5:=HS18.out.2.2.2.2.2.1
                replace mB5:=mB5.alloc (.cells #[.int .i64 (R:Nat),.int .i64 (C:Nat)] 43)
                have mB6:=HS18.out.2.2.2.2.2.2
                replace mB6:=mB6.alloc (.cells #[.int .i64 (R:Nat),.int .i64 (C:Nat)] 43)
                have mB7:=Blk.new w6 43 #[.int .i64 (R:Nat),.int .i64 (C:Nat)]
                rw [← hB7] at mB7
                rw [hW19]
                exact ⟨(HS18.out.1.alloc _),mB1,mB2,mB3,mB4,mB5,mB6,mB7⟩
              have fc1:(w6.alloc (.cells #[.int .i64 (R:Nat),.int .i64 (C:Nat)] 43)).cell? ⟨B4,0,none⟩ = some (.int .i64 (R:Nat)):=(HS18.out.2.2.2.2.1.alloc _).cell 0
              have fc2:(w6.alloc (.cells #[.int .i64 (R:Nat),.int .i64 (C:Nat)] 43)).cell? ⟨B4,1,none⟩ = some (.int .i64 (C:Nat)):=(HS18.out.2.2.2.2.1.alloc _).cell 1
              have fc3:(w6.alloc (.cells #[.int .i64 (R:Nat),.int .i64 (C:Nat)] 43)).cell? ⟨B6,0,none⟩ = some (.int .i64 (RJ:Nat)):=(HS18.out.2.2.2.2.2.2.alloc _).cell 0
              go_wp2_with fail
              try rw [← hW19]
              try rw [← hB7]
              clear fc1 fc2 fc3 hW19 hB7
              refine (awake26_yes W19).mono ?_
              rintro en w7 ⟨rfl,hf7⟩
              have HS20:Hid (Fr [] w1 w7 ∧ Blk w7 B1 51 #[.int .i64 pr,.int .i64 pc,.int .i64 nn] ∧ Blk w7 B2 31 #[.pointer p,.bool tl,.int .i64 eo] ∧ Blk w7 B3 35 #[.slice zB zm zd,.bool zt,.int .i64 ze] ∧ Blk w7 B4 43 #[.int .i64 (R:Nat),.int .i64 (C:Nat)] ∧ Blk w7 B5 43 #[.int .i64 (R:Nat),.int .i64 (C2:Nat)] ∧ Blk w7 B6 43 #[.int .i64 (RJ:Nat),.int .i64 (C:Nat)] ∧ Blk w7 B7 43 #[.int .i64 (R:Nat),.int .i64 (C:Nat)]):=⟨HS19.out.1.trans hf7,HS19.out.2.1.fr hf7 (by simp),HS19.out.2.2.1.fr hf7 (by simp),HS19.out.2.2.2.1.fr hf7 (by simp),HS19.out.2.2.2.2.1.fr hf7 (by simp),HS19.out.2.2.2.2.2.1.fr hf7 (by simp),HS19.out.2.2.2.2.2.2.1.fr hf7 (by simp),HS19.out.2.2.2.2.2.2.2.fr hf7 (by simp)⟩
              clear hf7
              go_wp2_with fail
              go_ret
              exact ⟨rfl,HFH.out.trans HS20.out.1⟩
      | true =>
        have hws:IntKind.i64.wrap ((C2:Int) - (C:Int)) = (C2:Int) - (C:Int):=IntWalk.i64_in _ (by have:=HCC.out; omega)
        obtain ⟨W12,hW12⟩:∃ Wx,Wx = (w3.alloc (.cells #[.int .i64 (R:Nat),.int .i64 (C2:Nat)] 43)):=⟨_,rfl⟩
        obtain ⟨B5,hB5⟩:∃ Bx,Bx = w3.heap.size:=⟨_,rfl⟩
        have HNB5:Hid (w1.heap.size ≤ B5 ∧ B5 ≠ B1 ∧ B5 ≠ B2 ∧ B5 ≠ B3 ∧ B5 ≠ B4):=by
          have h0:=HS11.out.1.size
          have:=HS11.out.2.1.lt
          have:=HS11.out.2.2.1.lt
          have:=HS11.out.2.2.2.1.lt
          have:=HS11.out.2.2.2.2.lt
          exact ⟨by omega,by omega,by omega,by omega,by omega⟩
        have HS12:Hid (Fr [] w1 W12 ∧ Blk W12 B1 51 #[.int .i64 pr,.int .i64 pc,.int .i64 nn] ∧ Blk W12 B2 31 #[.pointer p,.bool tl,.int .i64 eo] ∧ Blk W12 B3 35 #[.slice zB zm zd,.bool zt,.int .i64 ze] ∧ Blk W12 B4 43 #[.int .i64 (R:Nat),.int .i64 (C:Nat)] ∧ Blk W12 B5 43 #[.int .i64 (R:Nat),.int .i64 (C2:Nat)]):=by
          have mB1:=HS11.out.2.1
          replace mB1:=mB1.alloc (.cells #[.int .i64 (R:Nat),.int .i64 (C2:Nat)] 43)
          have mB2:=HS11.out.2.2.1
          replace mB2:=mB2.alloc (.cells #[.int .i64 (R:Nat),.int .i64 (C2:Nat)] 43)
          have mB3:=HS11.out.2.2.2.1
          replace mB3:=mB3.alloc (.cells #[.int .i64 (R:Nat),.int .i64 (C2:Nat)] 43)
          have mB4:=HS11.out.2.2.2.2
          replace mB4:=mB4.alloc (.cells #[.int .i64 (R:Nat),.int .i64 (C2:Nat)] 43)
          have mB5:=Blk.new w3 43 #[.int .i64 (R:Nat),.int .i64 (C2:Nat)]
          rw [← hB5] at mB5
          rw [hW12]
          exact ⟨(HS11.out.1.alloc _),mB1,mB2,mB3,mB4,mB5⟩
        have fc1:(w3.alloc (.cells #[.int .i64 (R:Nat),.int .i64 (C2:Nat)] 43)).cell? ⟨B2,0,none⟩ = some (.pointer p):=(HS11.out.2.2.1.alloc _).cell 0
        have fc2:(w3.alloc (.cells #[.int .i64 (R:Nat),.int .i64 (C2:Nat)] 43)).cell? ⟨B2,1,none⟩ = some (.bool tl):=(HS11.out.2.2.1.alloc _).cell 1
        have fc3:(w3.alloc (.cells #[.int .i64 (R:Nat),.int .i64 (C2:Nat)] 43)).cell? ⟨B2,2,none⟩ = some (.int .i64 eo):=(HS11.out.2.2.1.alloc _).cell 2
        have fc4:(w3.alloc (.cells #[.int .i64 (R:Nat),.int .i64 (C2:Nat)] 43)).cell? ⟨B4,1,none⟩ = some (.int .i64 (C:Nat)):=(HS11.out.2.2.2.2.alloc _).cell 1
        go_wp2_with fail
        try rw [← hW12]
        try rw [← hB5]
        clear fc1 fc2 fc3 fc4 hW12 hB5
        refine (HMH.out (of_decide_eq_true HMV.out.symm) W12 HS12.out.1).mono ?_
        rintro en w4 ⟨rfl,hf4⟩
        have HS13:Hid (Fr [] w1 w4 ∧ Blk w4 B1 51 #[.int .i64 pr,.int .i64 pc,.int .i64 nn] ∧ Blk w4 B2 31 #[.pointer p,.bool tl,.int .i64 eo] ∧ Blk w4 B3 35 #[.slice zB zm zd,.bool zt,.int .i64 ze] ∧ Blk w4 B4 43 #[.int .i64 (R:Nat),.int .i64 (C:Nat)] ∧ Blk w4 B5 43 #[.int .i64 (R:Nat),.int .i64 (C2:Nat)]):=⟨HS12.out.1.trans hf4,HS12.out.2.1.fr hf4 (by simp),HS12.out.2.2.1.fr hf4 (by simp),HS12.out.2.2.2.1.fr hf4 (by simp),HS12.out.2.2.2.2.1.fr hf4 (by simp),HS12.out.2.2.2.2.2.fr hf4 (by simp)⟩
        clear hf4
        clear hws
        obtain ⟨W14,hW14⟩:∃ Wx,Wx = (w4.alloc (.cells #[.int .i64 (R:Nat),.int .i64 (C:Nat)] 43)):=⟨_,rfl⟩
        obtain ⟨B6,hB6⟩:∃ Bx,Bx = w4.heap.size:=⟨_,rfl⟩
        have HNB6:Hid (w1.heap.size ≤ B6 ∧ B6 ≠ B1 ∧ B6 ≠ B2 ∧ B6 ≠ B3 ∧ B6 ≠ B4 ∧ B6 ≠ B5):=by
          have h0:=HS13.out.1.size
          have:=HS13.out.2.1.lt
          have:=HS13.out.2.2.1.lt
          have:=HS13.out.2.2.2.1.lt
          have:=HS13.out.2.2.2.2.1.lt
          have:=HS13.out.2.2.2.2.2.lt
          exact ⟨by omega,by omega,by omega,by omega,by omega,by omega⟩
        have HS14:Hid (Fr [] w1 W14 ∧ Blk W14 B1 51 #[.int .i64 pr,.int .i64 pc,.int .i64 nn] ∧ Blk W14 B2 31 #[.pointer p,.bool tl,.int .i64 eo] ∧ Blk W14 B3 35 #[.slice zB zm zd,.bool zt,.int .i64 ze] ∧ Blk W14 B4 43 #[.int .i64 (R:Nat),.int .i64 (C:Nat)] ∧ Blk W14 B5 43 #[.int .i64 (R:Nat),.int .i64 (C2:Nat)] ∧ Blk W14 B6 43 #[.int .i64 (R:Nat),.int .i64 (C:Nat)]):=by
          have mB1:=HS13.out.2.1
          replace mB1:=mB1.alloc (.cells #[.int .i64 (R:Nat),.int .i64 (C:Nat)] 43)
          have mB2:=HS13.out.2.2.1
          replace mB2:=mB2.alloc (.cells #[.int .i64 (R:Nat),.int .i64 (C:Nat)] 43)
          have mB3:=HS13.out.2.2.2.1
          replace mB3:=mB3.alloc (.cells #[.int .i64 (R:Nat),.int .i64 (C:Nat)] 43)
          have mB4:=HS13.out.2.2.2.2.1
          replace mB4:=mB4.alloc (.cells #[.int .i64 (R:Nat),.int .i64 (C:Nat)] 43)
          have mB5:=HS13.out.2.2.2.2.2
          replace mB5:=mB5.alloc (.cells #[.int .i64 (R:Nat),.int .i64 (C:Nat)] 43)
          have mB6:=Blk.new w4 43 #[.int .i64 (R:Nat),.int .i64 (C:Nat)]
          rw [← hB6] at mB6
          rw [hW14]
          exact ⟨(HS13.out.1.alloc _),mB1,mB2,mB3,mB4,mB5,mB6⟩
        have fc1:(w4.alloc (.cells #[.int .i64 (R:Nat),.int .i64 (C:Nat)] 43)).cell? ⟨B4,0,none⟩ = some (.int .i64 (R:Nat)):=(HS13.out.2.2.2.2.1.alloc _).cell 0
        have fc2:(w4.alloc (.cells #[.int .i64 (R:Nat),.int .i64 (C:Nat)] 43)).cell? ⟨B4,1,none⟩ = some (.int .i64 (C:Nat)):=(HS13.out.2.2.2.2.1.alloc _).cell 1
        have fc3:(w4.alloc (.cells #[.int .i64 (R:Nat),.int .i64 (C:Nat)] 43)).cell? ⟨B2,0,none⟩ = some (.pointer p):=(HS13.out.2.2.1.alloc _).cell 0
        have fc4:(w4.alloc (.cells #[.int .i64 (R:Nat),.int .i64 (C:Nat)] 43)).cell? ⟨B2,1,none⟩ = some (.bool tl):=(HS13.out.2.2.1.alloc _).cell 1
        have fc5:(w4.alloc (.cells #[.int .i64 (R:Nat),.int .i64 (C:Nat)] 43)).cell? ⟨B2,2,none⟩ = some (.int .i64 eo):=(HS13.out.2.2.1.alloc _).cell 2
        have fc6:(w4.alloc (.cells #[.int .i64 (R:Nat),.int .i64 (C:Nat)] 43)).cell? ⟨B1,2,none⟩ = some (.int .i64 nn):=(HS13.out.2.1.alloc _).cell 2
        go_wp2_with fail
        try rw [← hW14]
        try rw [← hB6]
        clear fc1 fc2 fc3 fc4 fc5 fc6 hW14 hB6
        refine (HMJ.out W14 HS14.out.1).mono ?_
        rintro en w5 ⟨rfl,hf5⟩
        obtain ⟨dn,hdn⟩:∃ dn,dn = decide (RJ ≠ R):=⟨_,rfl⟩
        rw [← hdn]
        have HDN:=Lib.hid hdn
        clear hdn
        have HS15:Hid (Fr [] w1 w5 ∧ Blk w5 B1 51 #[.int .i64 pr,.int .i64 pc,.int .i64 nn] ∧ Blk w5 B2 31 #[.pointer p,.bool tl,.int .i64 eo] ∧ Blk w5 B3 35 #[.slice zB zm zd,.bool zt,.int .i64 ze] ∧ Blk w5 B4 43 #[.int .i64 (R:Nat),.int .i64 (C:Nat)] ∧ Blk w5 B5 43 #[.int .i64 (R:Nat),.int .i64 (C2:Nat)] ∧ Blk w5 B6 43 #[.int .i64 (R:Nat),.int .i64 (C:Nat)]):=⟨HS14.out.1.trans hf5,HS14.out.2.1.fr hf5 (by simp),HS14.out.2.2.1.fr hf5 (by simp),HS14.out.2.2.2.1.fr hf5 (by simp),HS14.out.2.2.2.2.1.fr hf5 (by simp),HS14.out.2.2.2.2.2.1.fr hf5 (by simp),HS14.out.2.2.2.2.2.2.fr hf5 (by simp)⟩
        clear hf5
        cases dn with
        | false =>
          have hRR:RJ = R:=Decidable.not_not.1 (of_decide_eq_false HDN.out.symm)
          subst hRR
          obtain ⟨W16,hW16⟩:∃ Wx,Wx = (w5.alloc (.cells #[.int .i64 (RJ:Nat),.int .i64 (C:Nat)] 43)):=⟨_,rfl⟩
          obtain ⟨B7,hB7⟩:∃ Bx,Bx = w5.heap.size:=⟨_,rfl⟩
          have HNB7:Hid (w1.heap.size ≤ B7 ∧ B7 ≠ B1 ∧ B7 ≠ B2 ∧ B7 ≠ B3 ∧ B7 ≠ B4 ∧ B7 ≠ B5 ∧ B7 ≠ B6):=by
            have h0:=HS15.out.1.size
            have:=HS15.out.2.1.lt
            have:=HS15.out.2.2.1.lt
            have:=HS15.out.2.2.2.1.lt
            have:=HS15.out.2.2.2.2.1.lt
            have:=HS15.out.2.2.2.2.2.1.lt
            have:=HS15.out.2.2.2.2.2.2.lt
            exact ⟨by omega,by omega,by omega,by omega,by omega,by omega,by omega⟩
          have HS16:Hid (Fr [] w1 W16 ∧ Blk W16 B1 51 #[.int .i64 pr,.int .i64 pc,.int .i64 nn] ∧ Blk W16 B2 31 #[.pointer p,.bool tl,.int .i64 eo] ∧ Blk W16 B3 35 #[.slice zB zm zd,.bool zt,.int .i64 ze] ∧ Blk W16 B4 43 #[.int .i64 (RJ:Nat),.int .i64 (C:Nat)] ∧ Blk W16 B5 43 #[.int .i64 (RJ:Nat),.int .i64 (C2:Nat)] ∧ Blk W16 B6 43 #[.int .i64 (RJ:Nat),.int .i64 (C:Nat)] ∧ Blk W16 B7 43 #[.int .i64 (RJ:Nat),.int .i64 (C:Nat)]):=by
            have mB1:=HS15.out.2.1
            replace mB1:=mB1.alloc (.cells #[.int .i64 (RJ:Nat),.int .i64 (C:Nat)] 43)
            have mB2:=HS15.out.2.2.1
            replace mB2:=mB2.alloc (.cells #[.int .i64 (RJ:Nat),.int .i64 (C:Nat)] 43)
            have mB3:=HS15.out.2.2.2.1
            replace mB3:=mB3.alloc (.cells #[.int .i64 (RJ:Nat),.int .i64 (C:Nat)] 43)
            have mB4:=HS15.out.2.2.2.2.1
            replace mB4:=mB4.alloc (.cells #[.int .i64 (RJ:Nat),.int .i64 (C:Nat)] 43)
            have mB5:=HS15.out.2.2.2.2.2.1
            replace mB5:=mB5.alloc (.cells #[.int .i64 (RJ:Nat),.int .i64 (C:Nat)] 43)
            have mB6:=HS15.out.2.2.2.2.2.2
            replace mB6:=mB6.alloc (.cells #[.int .i64 (RJ:Nat),.int .i64 (C:Nat)] 43)
            have mB7:=Blk.new w5 43 #[.int .i64 (RJ:Nat),.int .i64 (C:Nat)]
            rw [← hB7] at mB7
            rw [hW16]
            exact ⟨(HS15.out.1.alloc _),mB1,mB2,mB3,mB4,mB5,mB6,mB7⟩
          have fc1:(w5.alloc (.cells #[.int .i64 (RJ:Nat),.int .i64 (C:Nat)] 43)).cell? ⟨B4,0,none⟩ = some (.int .i64 (RJ:Nat)):=(HS15.out.2.2.2.2.1.alloc _).cell 0
          have fc2:(w5.alloc (.cells #[.int .i64 (RJ:Nat),.int .i64 (C:Nat)] 43)).cell? ⟨B4,1,none⟩ = some (.int .i64 (C:Nat)):=(HS15.out.2.2.2.2.1.alloc _).cell 1
          go_wp2_with fail
          try rw [← hW16]
          try rw [← hB7]
          clear fc1 fc2 hW16 hB7
          refine (awake26_yes W16).mono ?_
          rintro en w6 ⟨rfl,hf6⟩
          have HS17:Hid (Fr [] w1 w6 ∧ Blk w6 B1 51 #[.int .i64 pr,.int .i64 pc,.int .i64 nn] ∧ Blk w6 B2 31 #[.pointer p,.bool tl,.int .i64 eo] ∧ Blk w6 B3 35 #[.slice zB zm zd,.bool zt,.int .i64 ze] ∧ Blk w6 B4 43 #[.int .i64 (RJ:Nat),.int .i64 (C:Nat)] ∧ Blk w6 B5 43 #[.int .i64 (RJ:Nat),.int .i64 (C2:Nat)] ∧ Blk w6 B6 43 #[.int .i64 (RJ:Nat),.int .i64 (C:Nat)] ∧ Blk w6 B7 43 #[.int .i64 (RJ:Nat),.int .i64 (C:Nat)]):=⟨HS16.out.1.trans hf6,HS16.out.2.1.fr hf6 (by simp),HS16.out.2.2.1.fr hf6 (by simp),HS16.out.2.2.2.1.fr hf6 (by simp),HS16.out.2.2.2.2.1.fr hf6 (by simp),HS16.out.2.2.2.2.2.1.fr hf6 (by simp),HS16.out.2.2.2.2.2.2.1.fr hf6 (by simp),HS16.out.2.2.2.2.2.2.2.fr hf6 (by simp)⟩
          clear hf6
          go_wp2_with fail
          go_ret
          exact ⟨rfl,HFH.out.trans HS17.out.1⟩
        | true =>
          have hne:RJ ≠ R:=of_decide_eq_true HDN.out.symm
          have HNE:=Lib.hid hne
          clear hne
          obtain ⟨W16,hW16⟩:∃ Wx,Wx = (w5.alloc (.cells #[.int .i64 (RJ:Nat),.int .i64 (C:Nat)] 43)):=⟨_,rfl⟩
          obtain ⟨B7,hB7⟩:∃ Bx,Bx = w5.heap.size:=⟨_,rfl⟩
          have HNB7:Hid (w1.heap.size ≤ B7 ∧ B7 ≠ B1 ∧ B7 ≠ B2 ∧ B7 ≠ B3 ∧ B7 ≠ B4 ∧ B7 ≠ B5 ∧ B7 ≠ B6):=by
            have h0:=HS15.out.1.size
            have:=HS15.out.2.1.lt
            have:=HS15.out.2.2.1.lt
            have:=HS15.out.2.2.2.1.lt
            have:=HS15.out.2.2.2.2.1.lt
            have:=HS15.out.2.2.2.2.2.1.lt
            have:=HS15.out.2.2.2.2.2.2.lt
            exact ⟨by omega,by omega,by omega,by omega,by omega,by omega,by omega⟩
          have HS16:Hid (Fr [] w1 W16 ∧ Blk W16 B1 51 #[.int .i64 pr,.int .i64 pc,.int .i64 nn] ∧ Blk W16 B2 31 #[.pointer p,.bool tl,.int .i64 eo] ∧ Blk W16 B3 35 #[.slice zB zm zd,.bool zt,.int .i64 ze] ∧ Blk W16 B4 43 #[.int .i64 (R:Nat),.int .i64 (C:Nat)] ∧ Blk W16 B5 43 #[.int .i64 (R:Nat),.int .i64 (C2:Nat)] ∧ Blk W16 B6 43 #[.int .i64 (R:Nat),.int .i64 (C:Nat)] ∧ Blk W16 B7 43 #[.int .i64 (RJ:Nat),.int .i64 (C:Nat)]):=by
            have mB1:=HS15.out.2.1
            replace mB1:=mB1.alloc (.cells #[.int .i64 (RJ:Nat),.int .i64 (C:Nat)] 43)
            have mB2:=HS15.out.2.2.1
            replace mB2:=mB2.alloc (.cells #[.int .i64 (RJ:Nat),.int .i64 (C:Nat)] 43)
            have mB3:=HS15.out.2.2.2.1
            replace mB3:=mB3.alloc (.cells #[.int .i64 (RJ:Nat),.int .i64 (C:Nat)] 43)
            have mB4:=HS15.out.2.2.2.2.1
            replace mB4:=mB4.alloc (.cells #[.int .i64 (RJ:Nat),.int .i64 (C:Nat)] 43)
            have mB5:=HS15.out.2.2.2.2.2.1
            replace mB5:=mB5.alloc (.cells #[.int .i64 (RJ:Nat),.int .i64 (C:Nat)] 43)
            have mB6:=HS15.out.2.2.2.2.2.2
            replace mB6:=mB6.alloc (.cells #[.int .i64 (RJ:Nat),.int .i64 (C:Nat)] 43)
            have mB7:=Blk.new w5 43 #[.int .i64 (RJ:Nat),.int .i64 (C:Nat)]
            rw [← hB7] at mB7
            rw [hW16]
            exact ⟨(HS15.out.1.alloc _),mB1,mB2,mB3,mB4,mB5,mB6,mB7⟩
          have fc1:(w5.alloc (.cells #[.int .i64 (RJ:Nat),.int .i64 (C:Nat)] 43)).cell? ⟨B2,0,none⟩ = some (.pointer p):=(HS15.out.2.2.1.alloc _).cell 0
          have fc2:(w5.alloc (.cells #[.int .i64 (RJ:Nat),.int .i64 (C:Nat)] 43)).cell? ⟨B2,1,none⟩ = some (.bool tl):=(HS15.out.2.2.1.alloc _).cell 1
          have fc3:(w5.alloc (.cells #[.int .i64 (RJ:Nat),.int .i64 (C:Nat)] 43)).cell? ⟨B2,2,none⟩ = some (.int .i64 eo):=(HS15.out.2.2.1.alloc _).cell 2
          go_wp2_with fail
          try rw [← hW16]
          try rw [← hB7]
          clear fc1 fc2 fc3 hW16 hB7
          refine (HVI.out W16 HS16.out.1).mono ?_
          rintro en w6 ⟨vB,vn,vc,rfl,hvn,hvs,hf6⟩
          have HVS:=Lib.hid (And.intro hvn hvs)
          clear hvn hvs
          have HS17:Hid (Fr [] w1 w6 ∧ Blk w6 B1 51 #[.int .i64 pr,.int .i64 pc,.int .i64 nn] ∧ Blk w6 B2 31 #[.pointer p,.bool tl,.int .i64 eo] ∧ Blk w6 B3 35 #[.slice zB zm zd,.bool zt,.int .i64 ze] ∧ Blk w6 B4 43 #[.int .i64 (R:Nat),.int .i64 (C:Nat)] ∧ Blk w6 B5 43 #[.int .i64 (R:Nat),.int .i64 (C2:Nat)] ∧ Blk w6 B6 43 #[.int .i64 (R:Nat),.int .i64 (C:Nat)] ∧ Blk w6 B7 43 #[.int .i64 (RJ:Nat),.int .i64 (C:Nat)]):=⟨HS16.out.1.trans hf6,HS16.out.2.1.fr hf6 (by simp),HS16.out.2.2.1.fr hf6 (by simp),HS16.out.2.2.2.1.fr hf6 (by simp),HS16.out.2.2.2.2.1.fr hf6 (by simp),HS16.out.2.2.2.2.2.1.fr hf6 (by simp),HS16.out.2.2.2.2.2.2.1.fr hf6 (by simp),HS16.out.2.2.2.2.2.2.2.fr hf6 (by simp)⟩
          clear hf6
          have hv6:(vn:Int) ≤ 400:=by have:=HVS.out.1; have:=HVL.out; omega
          go_wp2_with fail
          go_loopg [18,98] vn (fun kk cv iv wr => ∃ j:Nat,kk + j = vn ∧ iv = .int .i64 (j:Nat) ∧ cv = .int .i64 (cntB (vs.take j) (R:Nat) (RJ:Nat):Nat) ∧ Hid (Fr [] w6 wr) ∧ Hid (Fr [] w1 wr ∧ Blk wr B1 51 #[.int .i64 pr,.int .i64 pc,.int .i64 nn] ∧ Blk wr B2 31 #[.pointer p,.bool tl,.int .i64 eo] ∧ Blk wr B3 35 #[.slice zB zm zd,.bool zt,.int .i64 ze] ∧ Blk wr B4 43 #[.int .i64 (R:Nat),.int .i64 (C:Nat)] ∧ Blk wr B5 43 #[.int .i64 (R:Nat),.int .i64 (C2:Nat)] ∧ Blk wr B6 43 #[.int .i64 (R:Nat),.int .i64 (C:Nat)] ∧ Blk wr B7 43 #[.int .i64 (RJ:Nat),.int .i64 (C:Nat)]))
          case atStart => exact ⟨0,by omega,rfl,rfl,Fr.refl _ _,HS17⟩
          case round =>
            obtain ⟨j,hj,rfl,rfl,HFV,HL⟩:=hrel
            by_cases hlt:j < vn
            · have hil:j < vs.length:=by rw [← HVS.out.1]; exact hlt
              obtain ⟨ad,hvB,hcell⟩:=intsV_at (HVS.out.2.fr HFV.out (.inr List.not_mem_nil)) hil
              subst hvB
              obtain ⟨v,hv⟩:∃ v,v = vs[j]:=⟨_,rfl⟩
              rw [← hv] at hcell
              have hts:vs.take (j + 1) = vs.take j ++ [v]:=by rw [List.take_succ_eq_append_getElem hil,hv]
              have HTS:Hid (cntB (vs.take (j + 1)) (R:Nat) (RJ:Nat) = cntB (vs.take j) (R:Nat) (RJ:Nat) + if (R:Int) < v ∧ v ≤ (RJ:Int) then 1 else 0):=by show _ = _; rw [hts]; exact cntB_snoc _ _ _ _
              obtain ⟨cj,hcj⟩:∃ cj,cj = cntB (vs.take j) (R:Nat) (RJ:Nat):=⟨_,rfl⟩
              have hc4:cj ≤ 400:=by
                rw [hcj]
                unfold cntB
                have h1:=List.length_filter_le (fun v => decide ((R:Int) < v) && decide (v ≤ (RJ:Int))) (vs.take j)
                have h2:=List.length_take_le j vs
                have h3:=HVL.out
                omega
              rw [← hcj] at HTS ⊢
              have hw1:IntKind.i64.wrap ((j:Int) + 1) = ((j + 1:Nat):Int):=by rw [IntWalk.i64_in _ (by omega)]; omega
              have hw2:IntKind.i64.wrap ((cj:Int) + 1) = ((cj + 1:Nat):Int):=by rw [IntWalk.i64_in _ (by omega)]; omega
              have hj0:(0:Int) ≤ (j:Int):=by omega
              have hj1:(j:Int) < (vn:Int):=by omega
              clear hv hts hcj hil hc4
              by_cases hg1:(R:Int) < v
              · by_cases hg2:v ≤ (RJ:Int)
                · have hd1:decide ((R:Int) < v) = true:=decide_eq_true hg1
                  have hd2:decide (v ≤ (RJ:Int)) = true:=decide_eq_true hg2
                  have fc1:wr.cell? ⟨B4,0,none⟩ = some (.int .i64 (R:Nat)):=HL.out.2.2.2.2.1.cell 0
                  have fc2:wr.cell? ⟨B7,0,none⟩ = some (.int .i64 (RJ:Nat)):=HL.out.2.2.2.2.2.2.2.cell 0
                  go_wp2_with fail
                  clear fc1 fc2
                  go_roundg (vn - (j + 1))
                  case rel => exact ⟨j + 1,by omega,rfl,by rw [HTS.out,if_pos ⟨‹_›,‹_›⟩]; rfl,HFV,HL⟩
                  case measure => omega
                · have hd1:decide ((R:Int) < v) = true:=decide_eq_true hg1
                  have hd2:decide (v ≤ (RJ:Int)) = false:=decide_eq_false hg2
                  have fc1:wr.cell? ⟨B4,0,none⟩ = some (.int .i64 (R:Nat)):=HL.out.2.2.2.2.1.cell 0
                  have fc2:wr.cell? ⟨B7,0,none⟩ = some (.int .i64 (RJ:Nat)):=HL.out.2.2.2.2.2.2.2.cell 0
                  go_wp2_with fail
                  clear fc1 fc2
                  go_roundg (vn - (j + 1))
                  case rel => exact ⟨j + 1,by omega,rfl,by rw [HTS.out,if_neg (fun h => by have:=h.1; have:=h.2; omega),Nat.add_zero],HFV,HL⟩
                  case measure => omega
              · have hd1:decide ((R:Int) < v) = false:=decide_eq_false hg1
                have fc1:wr.cell? ⟨B4,0,none⟩ = some (.int .i64 (R:Nat)):=HL.out.2.2.2.2.1.cell 0
                go_wp2_with fail
                clear fc1
                go_roundg (vn - (j + 1))
                case rel => exact ⟨j + 1,by omega,rfl,by rw [HTS.out,if_neg (fun h => by have:=h.1; have:=h.2; omega),Nat.add_zero],HFV,HL⟩
                case measure => omega
            · obtain rfl:j = vn:=by omega
              have HTK:Hid (vs.take j = vs):=by show _ = _; exact List.take_of_length_le (by rw [← HVS.out.1]; exact Nat.le_refl _)
              clear hlt hj
              rw [HTK.out]
              obtain ⟨cn,hcn⟩:∃ cn,cn = cntB vs (R:Nat) (RJ:Nat):=⟨_,rfl⟩
              have HMK2:=Lib.hid (HMK.out HNE.out)
              rw [← hcn] at HMK2 ⊢
              clear hcn
              have hgt:(R:Int) < (RJ:Int):=by have:=(HCN.out HNE.out).2.2; omega
              have fc1:wr.cell? ⟨B2,0,none⟩ = some (.pointer p):=HL.out.2.2.1.cell 0
              have fc2:wr.cell? ⟨B2,1,none⟩ = some (.bool tl):=HL.out.2.2.1.cell 1
              have fc3:wr.cell? ⟨B2,2,none⟩ = some (.int .i64 eo):=HL.out.2.2.1.cell 2
              have fc4:wr.cell? ⟨B7,0,none⟩ = some (.int .i64 (RJ:Nat)):=HL.out.2.2.2.2.2.2.2.cell 0
              have fc5:wr.cell? ⟨B7,1,none⟩ = some (.int .i64 (C:Nat)):=HL.out.2.2.2.2.2.2.2.cell 1
              go_wp2_with fail
              clear fc1 fc2 fc3 fc4 fc5
              refine (HMK2.out wr HL.out.1).mono ?_
              rintro en w7 ⟨rfl,hf7⟩
              have HS20:Hid (Fr [] w1 w7 ∧ Blk w7 B1 51 #[.int .i64 pr,.int .i64 pc,.int .i64 nn] ∧ Blk w7 B2 31 #[.pointer p,.bool tl,.int .i64 eo] ∧ Blk w7 B3 35 #[.slice zB zm zd,.bool zt,.int .i64 ze] ∧ Blk w7 B4 43 #[.int .i64 (R:Nat),.int .i64 (C:Nat)] ∧ Blk w7 B5 43 #[.int .i64 (R:Nat),.int .i64 (C2:Nat)] ∧ Blk w7 B6 43 #[.int .i64 (R:Nat),.int .i64 (C:Nat)] ∧ Blk w7 B7 43 #[.int .i64 (RJ:Nat),.int .i64 (C:Nat)]):=⟨HL.out.1.trans hf7,HL.out.2.1.fr hf7 (by simp),HL.out.2.2.1.fr hf7 (by simp),HL.out.2.2.2.1.fr hf7 (by simp),HL.out.2.2.2.2.1.fr hf7 (by simp),HL.out.2.2.2.2.2.1.fr hf7 (by simp),HL.out.2.2.2.2.2.2.1.fr hf7 (by simp),HL.out.2.2.2.2.2.2.2.fr hf7 (by simp)⟩
              clear hf7
              obtain ⟨W21,hW21⟩:∃ Wx,Wx = (w7.alloc (.cells #[.int .i64 (R:Nat),.int .i64 (C:Nat)] 43)):=⟨_,rfl⟩
              obtain ⟨B8,hB8⟩:∃ Bx,Bx = w7.heap.size:=⟨_,rfl⟩
              have HNB8:Hid (w1.heap.size ≤ B8 ∧ B8 ≠ B1 ∧ B8 ≠ B2 ∧ B8 ≠ B3 ∧ B8 ≠ B4 ∧ B8 ≠ B5 ∧ B8 ≠ B6 ∧ B8 ≠ B7):=by
                have h0:=HS20.out.1.size
                have:=HS20.out.2.1.lt
                have:=HS20.out.2.2.1.lt
                have:=HS20.out.2.2.2.1.lt
                have:=HS20.out.2.2.2.2.1.lt
                have:=HS20.out.2.2.2.2.2.1.lt
                have:=HS20.out.2.2.2.2.2.2.1.lt
                have:=HS20.out.2.2.2.2.2.2.2.lt
                exact ⟨by omega,by omega,by omega,by omega,by omega,by omega,by omega,by omega⟩
              have HS21:Hid (Fr [] w1 W21 ∧ Blk W21 B1 51 #[.int .i64 pr,.int .i64 pc,.int .i64 nn] ∧ Blk W21 B2 31 #[.pointer p,.bool tl,.int .i64 eo] ∧ Blk W21 B3 35 #[.slice zB zm zd,.bool zt,.int .i64 ze] ∧ Blk W21 B4 43 #[.int .i64 (R:Nat),.int .i64 (C:Nat)] ∧ Blk W21 B5 43 #[.int .i64 (R:Nat),.int .i64 (C2:Nat)] ∧ Blk W21 B6 43 #[.int .i64 (R:Nat),.int .i64 (C:Nat)] ∧ Blk W21 B7 43 #[.int .i64 (RJ:Nat),.int .i64 (C:Nat)] ∧ Blk W21 B8 43 #[.int .i64 (R:Nat),.int .i64 (C:Nat)]):=by
                have mB1:=HS20.out.2.1
                replace mB1:=mB1.alloc (.cells #[.int .i64 (R:Nat),.int .i64 (C:Nat)] 43)
                have mB2:=HS20.out.2.2.1
                replace mB2:=mB2.alloc (.cells #[.int .i64 (R:Nat),.int .i64 (C:Nat)] 43)
                have mB3:=HS20.out.2.2.2.1
                replace mB3:=mB3.alloc (.cells #[.int .i64 (R:Nat),.int .i64 (C:Nat)] 43)
                have mB4:=HS20.out.2.2.2.2.1
                replace mB4:=mB4.alloc (.cells #[.int .i64 (R:Nat),.int .i64 (C:Nat)] 43)
                have mB5:=HS20.out.2.2.2.2.2.1
                replace mB5:=mB5.alloc (.cells #[.int .i64 (R:Nat),.int .i64 (C:Nat)] 43)
                have mB6:=HS20.out.2.2.2.2.2.2.1
                replace mB6:=mB6.alloc (.cells #[.int .i64 (R:Nat),.int .i64 (C:Nat)] 43)
                have mB7:=HS20.out.2.2.2.2.2.2.2
                replace mB7:=mB7.alloc (.cells #[.int .i64 (R:Nat),.int .i64 (C:Nat)] 43)
                have mB8:=Blk.new w7 43 #[.int .i64 (R:Nat),.int .i64 (C:Nat)]
                rw [← hB8] at mB8
                rw [hW21]
                exact ⟨(HS20.out.1.alloc _),mB1,mB2,mB3,mB4,mB5,mB6,mB7,mB8⟩
              have fc1:(w7.alloc (.cells #[.int .i64 (R:Nat),.int .i64 (C:Nat)] 43)).cell? ⟨B4,0,none⟩ = some (.int .i64 (R:Nat)):=(HS20.out.2.2.2.2.1.alloc _).cell 0
              have fc2:(w7.alloc (.cells #[.int .i64 (R:Nat),.int .i64 (C:Nat)] 43)).cell? ⟨B4,1,none⟩ = some (.int .i64 (C:Nat)):=(HS20.out.2.2.2.2.1.alloc _).cell 1
              have fc3:(w7.alloc (.cells #[.int .i64 (R:Nat),.int .i64 (C:Nat)] 43)).cell? ⟨B7,0,none⟩ = some (.int .i64 (RJ:Nat)):=(HS20.out.2.2.2.2.2.2.2.alloc _).cell 0
              go_wp2_with fail
              try rw [← hW21]
              try rw [← hB8]
              clear fc1 fc2 fc3 hW21 hB8
              refine (awake26_yes W21).mono ?_
              rintro en w8 ⟨rfl,hf8⟩
              have HS22:Hid (Fr [] w1 w8 ∧ Blk w8 B1 51 #[.int .i64 pr,.int .i64 pc,.int .i64 nn] ∧ Blk w8 B2 31 #[.pointer p,.bool tl,.int .i64 eo] ∧ Blk w8 B3 35 #[.slice zB zm zd,.bool zt,.int .i64 ze] ∧ Blk w8 B4 43 #[.int .i64 (R:Nat),.int .i64 (C:Nat)] ∧ Blk w8 B5 43 #[.int .i64 (R:Nat),.int .i64 (C2:Nat)] ∧ Blk w8 B6 43 #[.int .i64 (R:Nat),.int .i64 (C:Nat)] ∧ Blk w8 B7 43 #[.int .i64 (RJ:Nat),.int .i64 (C:Nat)] ∧ Blk w8 B8 43 #[.int .i64 (R:Nat),.int .i64 (C:Nat)]):=⟨HS21.out.1.trans hf8,HS21.out.2.1.fr hf8 (by simp),HS21.out.2.2.1.fr hf8 (by simp),HS21.out.2.2.2.1.fr hf8 (by simp),HS21.out.2.2.2.2.1.fr hf8 (by simp),HS21.out.2.2.2.2.2.1.fr hf8 (by simp),HS21.out.2.2.2.2.2.2.1.fr hf8 (by simp),HS21.out.2.2.2.2.2.2.2.1.fr hf8 (by simp),HS21.out.2.2.2.2.2.2.2.2.fr hf8 (by simp)⟩
              clear hf8
              go_wp2_with fail
              go_ret
              exact ⟨rfl,HFH.out.trans HS22.out.1⟩
end Go.Proofs.YteohomdiklkbfaaGreat
