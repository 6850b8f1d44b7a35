import Derived.Test.YteohomdiklkbfaaGreatA46
import Derived.Test.YteohomdiklkbfaaGreatA29
import Derived.Test.YteohomdiklkbfaaGreatA35
namespace Go.Proofs.YteohomdiklkbfaaGreat
open Go.RowKit Go.Shelf Go.Proofs.Dm
attribute [local go_sem] Oper.semAt_some

theorem blk_ne2 {w:World} {g g':Nat} {t t':TypeId} {cs cs':Array Value} (h:Blk w g t cs) (h':Blk w g' t' cs') (ht:t ≠ t'):g ≠ g':=fun e => by
  subst e
  unfold Blk at h h'
  rw [h] at h'
  injection h' with h'
  injection h' with _ h'
  exact ht h'
def PlaceOK (xs:List RV) (R C:Nat):Prop:=SetR xs R ∧ (C = 0 ∨ C < widthP xs)
def RetQ (w:World) (xs:List RV) (en:Ending) (w':World):Prop :=
  ∃ R C:Nat,en = .returned (.agg #[.int .i64 (R:Nat),.int .i64 (C:Nat)]) ∧ PlaceOK xs R C ∧ Fr [] w w'
theorem le_widthP {xs:List RV} {r:RV} (h:r ∈ xs):r.n ≤ widthP xs:=by
  have key:∀ (l:List Nat) (a:Nat),(∀ x ∈ l,x ≤ l.foldl max a) ∧ a ≤ l.foldl max a:=by
    intro l
    induction l with
    | nil => intro a; exact ⟨fun x hx => by simp at hx,Nat.le_refl _⟩
    | cons y l ih =>
      intro a
      obtain ⟨h1,h2⟩:=ih (max a y)
      refine ⟨fun x hx => ?_,Nat.le_trans (Nat.le_max_left ..) h2⟩
      rcases List.mem_cons.1 hx with e | e
      · subst e; exact Nat.le_trans (Nat.le_max_right ..) h2
      · exact h1 x e
  exact (key _ 0).1 _ (List.mem_map.2 ⟨r,h,rfl⟩)
def RowC (w:World) (xs:List RV) (x:Nat × RV):Prop:=∃ cs:List CV,Sl w x.2.A (cvc cs) ∧ x.2.n = cs.length ∧ x.2.n ≤ 40 ∧ x.2.n ≤ widthP xs ∧ x.1 < xs.length ∧ hidAt xs x.1 = x.2.h
section
variable {s:List UInt8} {g:Nat} {p:Option Addr} {tl:Bool} {eo:Int} {rs:List RW} {x:GD} {w:World}
theorem HG.rowc (h:HG [] s g p tl eo rs x w) {i j:Nat} (hj:j ≤ (rs.map Prod.fst).length) {y:Nat × RV} (hy:y ∈ allR (rs.map Prod.fst) i j):RowC w (rs.map Prod.fst) y:=by
  obtain ⟨h1,h2,h3⟩:=mem_allR.1 hy
  have hl:y.1 < rs.length:=by rw [List.length_map] at hj; omega
  have hg:(rs.map Prod.fst).getD y.1 RV.none = rs[y.1].1:=by rw [List.getD_eq_getElem?_getD,List.getElem?_map,List.getElem?_eq_getElem hl]; rfl
  rw [hg] at h3
  have hm:=List.getElem_mem hl
  have k1:=h.ok _ hm
  have k2:=h.bd _ hm
  refine ⟨rs[y.1].2,by rw [h3]; exact k1.2.2.now.1,by rw [h3]; exact k1.1,by rw [h3,k1.1]; exact k2.1,?_,by omega,?_⟩
  · rw [h3]; exact le_widthP (List.mem_map.2 ⟨_,hm,rfl⟩)
  · unfold hidAt; rw [hg,h3]
set_option maxRecDepth 100000 in
set_option maxHeartbeats 6400000 in
theorem HG.next (h:HG [] s g p tl eo rs x w) (R C:Nat) (hP:PlaceOK (rs.map Prod.fst) R C) :
    Calls Tryz.prog 70 #[.agg #[.pointer p,.bool tl,.int .i64 eo],.agg #[.int .i64 (R:Nat),.int .i64 (C:Nat)]] w (RetQ w (rs.map Prod.fst)):=by
  obtain ⟨n,hn⟩:∃ n,n = (rs.map Prod.fst).length:=⟨_,rfl⟩
  have hx:=h.xn
  have hn4:n ≤ 400:=by omega
  have hwd:=h.wids.2
  have hR:=hP.1.le
  have HP:=Lib.hid hP
  have HH:=Lib.hid h
  have HLN:Hid (∀ w',Fr [] w w' → Calls Tryz.prog 27 #[.agg #[.pointer p,.bool tl,.int .i64 eo]] w' fun en w'' => en = .returned (.int .i64 (n:Nat)) ∧ Fr [] w' w''):=by
    show ∀ _,_
    intro w' hf
    have:=glen_any [] p (rs.map Prod.fst) tl eo w' (h.tr0.fr0 hf)
    rw [← hn] at this
    exact this
  have HRG:Hid (∀ w',Fr [] w w' → Calls Tryz.prog 38 #[.agg #[.pointer p],.int .i64 (R:Nat),.int .i64 (n:Nat)] w' (FuncNew w' p R n)):=by
    show ∀ _,_
    intro w' hf
    exact range_gen [] p (rs.map Prod.fst) w' (R:Nat) (n:Nat) R n (h.tr0.fr0 hf) (by omega) (by rw [← hn]; unfold BegAt; omega) (by rw [← hn]; unfold EndAt; omega)
  have HN:Hid (n = (rs.map Prod.fst).length ∧ n ≤ 400 ∧ R ≤ n):=⟨hn,hn4,by omega⟩
  have hC40:C ≤ 40:=by have:=hP.2; omega
  have hw1:IntKind.i64.wrap ((C:Int) + 1) = (C:Int) + 1:=IntWalk.i64_in _ (by omega)
  have HC:Hid ((0:Int) ≤ (C:Int) + 1 ∧ (C:Int) + 1 ≤ 41):=⟨by omega,by omega⟩
  clear h hP hn hx hn4 hR hwd hC40
  refine callsIn_wide.1 (callsIn_of_wp_marks (n:=3) Tryz.func70 rfl trivial (wpIn_wide.2 ?_))
  simp only [Tryz.ntmps70,List.size_toArray,List.length_cons,List.length_nil,Nat.reduceAdd,Nat.reduceSub,Array.replicate_succ,Array.replicate_zero,List.push_toArray,List.append_toArray,List.nil_append,List.cons_append]
  obtain ⟨W1,hW1⟩:∃ Wx,Wx = ((((w.alloc (.cells #[.pointer p,.bool tl,.int .i64 eo] 31)).alloc (.cells #[.int .i64 (R:Nat),.int .i64 (C:Nat)] 43)).alloc (.cells #[.int .i64 0,.int .i64 0] 43)).alloc (.cells #[.int .i64 ((C:Int) + 1)] 3)):=⟨_,rfl⟩
  obtain ⟨B1,hB1⟩:∃ Bx,Bx = w.heap.size:=⟨_,rfl⟩
  obtain ⟨B2,hB2⟩:∃ Bx,Bx = w.heap.size + 1:=⟨_,rfl⟩
  obtain ⟨B3,hB3⟩:∃ Bx,Bx = w.heap.size + 1 + 1:=⟨_,rfl⟩
  obtain ⟨B4,hB4⟩:∃ Bx,Bx = w.heap.size + 1 + 1 + 1:=⟨_,rfl⟩
  have HNB1:Hid (w.heap.size ≤ B1):=by
    show _ ≤ _
    omega
  have HNB2:Hid (w.heap.size ≤ B2 ∧ B2 ≠ B1):=by
    exact ⟨by omega,by omega⟩
  have HNB3:Hid (w.heap.size ≤ B3 ∧ B3 ≠ B1 ∧ B3 ≠ B2):=by
    exact ⟨by omega,by omega,by omega⟩
  have HNB4:Hid (w.heap.size ≤ B4 ∧ B4 ≠ B1 ∧ B4 ≠ B2 ∧ B4 ≠ B3):=by
    exact ⟨by omega,by omega,by omega,by omega⟩
  have HS1:Hid (Fr [] w W1 ∧ Blk W1 B1 31 #[.pointer p,.bool tl,.int .i64 eo] ∧ Blk W1 B2 43 #[.int .i64 (R:Nat),.int .i64 (C:Nat)] ∧ Blk W1 B3 43 #[.int .i64 0,.int .i64 0] ∧ Blk W1 B4 3 #[.int .i64 ((C:Int) + 1)]):=by
    have mB1:=Blk.new w 31 #[.pointer p,.bool tl,.int .i64 eo]
    rw [← hB1] at mB1
    replace mB1:=mB1.alloc (.cells #[.int .i64 (R:Nat),.int .i64 (C:Nat)] 43)
    replace mB1:=mB1.alloc (.cells #[.int .i64 0,.int .i64 0] 43)
    replace mB1:=mB1.alloc (.cells #[.int .i64 ((C:Int) + 1)] 3)
    have mB2:=Blk.new (w.alloc (.cells #[.pointer p,.bool tl,.int .i64 eo] 31)) 43 #[.int .i64 (R:Nat),.int .i64 (C:Nat)]
    simp only [World.size_alloc,World.size_setCell] at mB2
    rw [← hB2] at mB2
    replace mB2:=mB2.alloc (.cells #[.int .i64 0,.int .i64 0] 43)
    replace mB2:=mB2.alloc (.cells #[.int .i64 ((C:Int) + 1)] 3)
    have mB3:=Blk.new ((w.alloc (.cells #[.pointer p,.bool tl,.int .i64 eo] 31)).alloc (.cells #[.int .i64 (R:Nat),.int .i64 (C:Nat)] 43)) 43 #[.int .i64 0,.int .i64 0]
    simp only [World.size_alloc,World.size_setCell] at mB3
    rw [← hB3] at mB3
    replace mB3:=mB3.alloc (.cells #[.int .i64 ((C:Int) + 1)] 3)
    have mB4:=Blk.new (((w.alloc (.cells #[.pointer p,.bool tl,.int .i64 eo] 31)).alloc (.cells #[.int .i64 (R:Nat),.int .i64 (C:Nat)] 43)).alloc (.cells #[.int .i64 0,.int .i64 0] 43)) 3 #[.int .i64 ((C:Int) + 1)]
    simp only [World.size_alloc,World.size_setCell] at mB4
    rw [← hB4] at mB4
    rw [hW1]
    exact ⟨(((((Fr.refl [] w).alloc _).alloc _).alloc _).alloc _),mB1,mB2,mB3,mB4⟩
  go_wp2_with fail
  try rw [← hW1]
  try rw [← hB4]
  try rw [← hB3]
  try rw [← hB2]
  try rw [← hB1]
  clear hW1 hB1 hB2 hB3 hB4
  have HC2:Hid (∀ w',Fr [] W1 w' → (w'.cell? ⟨B1,0,none⟩ = some (.pointer p) ∧ w'.cell? ⟨B1,1,none⟩ = some (.bool tl) ∧ w'.cell? ⟨B1,2,none⟩ = some (.int .i64 eo)) ∧ (w'.cell? ⟨B2,0,none⟩ = some (.int .i64 (R:Nat)) ∧ w'.cell? ⟨B2,1,none⟩ = some (.int .i64 (C:Nat)))):=by
    show ∀ _,_
    intro w' hf
    have h0:=HS1.out.2.1.fr hf (by simp)
    have h1:=HS1.out.2.2.1.fr hf (by simp)
    exact ⟨⟨h0.cell 0,h0.cell 1,h0.cell 2⟩,⟨h1.cell 0,h1.cell 1⟩⟩
  obtain ⟨F,hF⟩:∃ F:World → Nat → Value → Prop,F = (fun (w:World) (i:Nat) (v:Value) => match i with | 0 => v = .pointer (some ⟨B1,0,none⟩) | 1 => v = .agg #[.pointer p] | 2 => v = .pointer (some ⟨B2,0,none⟩) | 3 => v = .int .i64 (R:Nat) | 4 => v = .agg #[.pointer p,.bool tl,.int .i64 eo] | 5 => v = .int .i64 (n:Nat) | _ => True):=⟨_,rfl⟩
  obtain ⟨G,hG⟩:∃ G:(Nat → Value) → World → Prop,G = (fun u w => ∃ (bi bj bt:Nat),u 6 = .func (.func 77) #[] #[.pointer (some ⟨bi,0,none⟩),.pointer (some ⟨bj,0,none⟩),.pointer (some ⟨bt,0,none⟩)] ∧ w.cell? ⟨bi,0,none⟩ = some (.int .i64 (R:Nat)) ∧ w.cell? ⟨bj,0,none⟩ = some (.int .i64 (n:Nat)) ∧ w.cell? ⟨bt,0,none⟩ = some (.pointer p) ∧ W1.heap.size ≤ bi ∧ W1.heap.size ≤ bj ∧ W1.heap.size ≤ bt ∧ Fr [] W1 w):=⟨_,rfl⟩
  have HM:Hid (∀ w1 w2:World,Fr [] w1 w2 → ∀ j x,F w1 j x → F w2 j x):=by
    show ∀ _,_
    intro w1 w2 hf j x h
    subst hF
    match j,h with
    | 0,h => exact h
    | 1,h => exact h
    | 2,h => exact h
    | 3,h => exact h
    | 4,h => exact h
    | 5,h => exact h
    | n + 6,h => trivial
  have HFG:=Lib.hid (And.intro hF hG)
  clear hF hG
  refine wp_region_invc (by kernel_rfl) (fun f a w' => ∃ u:Nat → Value,a = { tmps:=#[.agg #[.pointer p,.bool tl,.int .i64 eo],.agg #[.int .i64 (R:Nat),.int .i64 (C:Nat)],.pointer (some ⟨B1,0,none⟩),.pointer (some ⟨B2,0,none⟩),.pointer (some ⟨B3,0,none⟩),.pointer (some ⟨B4,0,none⟩),undef,undef,undef,.pointer (some ⟨B2,1,none⟩),.int .i64 (C:Nat),.int .i64 ((C:Int) + 1),u 0,u 1,u 2,u 3,u 4,u 5,u 6,undef,undef,undef,undef,undef,undef,undef,undef,undef,undef,undef,undef,undef,undef,undef,undef,undef,undef,undef,undef,undef],defers:=[] } ∧ Hid (RInv F G W1 6 f u w')) (by kernel_rfl) ?_ ?_ ?_
  · exact ⟨fun _ => undef,rfl,RInv.start _⟩
  · simp only [EachOp]
    refine ⟨?_,?_,?_,?_,?_,?_,?_,trivial⟩
    all_goals rintro f a w' hfi hdep hcl ⟨u,rfl,HI⟩ K hK
    · have hL:f 6 = false:=by
        cases g6:f 6 with
        | false => rfl
        | true =>
          have g1:=hcl 6 _ rfl g6 ⟨1,.data⟩ (by simp) rfl
          have g0:=hcl 1 _ rfl g1 ⟨0,.data⟩ (by simp) rfl
          exact Bool.noConfusion (g0.symm.trans hfi)
      go_simp
      exact hK _ _ ⟨updU u 0 (.pointer (some ⟨B1,0,none⟩)),rfl,HI.out.val hL (by decide) (by rw [HFG.out.1]; exact rfl)⟩
    · have hL:f 6 = false:=by
        cases g6:f 6 with
        | false => rfl
        | true =>
          have g1:=hcl 6 _ rfl g6 ⟨1,.data⟩ (by simp) rfl
          exact Bool.noConfusion (g1.symm.trans hfi)
      have e0:u 0 = .pointer (some ⟨B1,0,none⟩):=HI.out.get HFG.out.1 hL (i:=0) (hdep ⟨0,.data⟩ (by simp) rfl)
      obtain ⟨⟨q1_0,q1_1,q1_2⟩,⟨q2_0,q2_1⟩⟩:=HC2.out w' (HI.out.a hL).1
      go_simp
      exact hK _ _ ⟨updU u 1 (.agg #[.pointer p]),(by simp [updU,e0] <;> (repeat' apply And.intro) <;> rfl),HI.out.val hL (by decide) (by rw [HFG.out.1]; exact rfl)⟩
    · have hL:f 6 = false:=by
        cases g6:f 6 with
        | false => rfl
        | true =>
          have g3:=hcl 6 _ rfl g6 ⟨3,.data⟩ (by simp) rfl
          have g2:=hcl 3 _ rfl g3 ⟨2,.data⟩ (by simp) rfl
          exact Bool.noConfusion (g2.symm.trans hfi)
      go_simp
      exact hK _ _ ⟨updU u 2 (.pointer (some ⟨B2,0,none⟩)),rfl,HI.out.val hL (by decide) (by rw [HFG.out.1]; exact rfl)⟩
    · have hL:f 6 = false:=by
        cases g6:f 6 with
        | false => rfl
        | true =>
          have g3:=hcl 6 _ rfl g6 ⟨3,.data⟩ (by simp) rfl
          exact Bool.noConfusion (g3.symm.trans hfi)
      have e2:u 2 = .pointer (some ⟨B2,0,none⟩):=HI.out.get HFG.out.1 hL (i:=2) (hdep ⟨2,.data⟩ (by simp) rfl)
      obtain ⟨⟨q1_0,q1_1,q1_2⟩,⟨q2_0,q2_1⟩⟩:=HC2.out w' (HI.out.a hL).1
      go_simp
      exact hK _ _ ⟨updU u 3 (.int .i64 (R:Nat)),(by simp [updU,e2] <;> (repeat' apply And.intro) <;> rfl),HI.out.val hL (by decide) (by rw [HFG.out.1]; exact rfl)⟩
    · have hL:f 6 = false:=by
        cases g6:f 6 with
        | false => rfl
        | true =>
          have g5:=hcl 6 _ rfl g6 ⟨5,.data⟩ (by simp) rfl
          have g4:=hcl 5 _ rfl g5 ⟨4,.data⟩ (by simp) rfl
          exact Bool.noConfusion (g4.symm.trans hfi)
      obtain ⟨⟨q1_0,q1_1,q1_2⟩,⟨q2_0,q2_1⟩⟩:=HC2.out w' (HI.out.a hL).1
      go_simp
      exact hK _ _ ⟨updU u 4 (.agg #[.pointer p,.bool tl,.int .i64 eo]),rfl,HI.out.val hL (by decide) (by rw [HFG.out.1]; exact rfl)⟩
    · have hL:f 6 = false:=by
        cases g6:f 6 with
        | false => rfl
        | true =>
          have g5:=hcl 6 _ rfl g6 ⟨5,.data⟩ (by simp) rfl
          exact Bool.noConfusion (g5.symm.trans hfi)
      have e4:u 4 = .agg #[.pointer p,.bool tl,.int .i64 eo]:=HI.out.get HFG.out.1 hL (i:=4) (hdep ⟨4,.data⟩ (by simp) rfl)
      refine step_call _ (by rfl) 27 #[.agg #[.pointer p,.bool tl,.int .i64 eo]] (by go_simp) _ (HLN.out w' (HS1.out.1.trans (HI.out.a hL).1)) (by rintro e w' ⟨he,_⟩; exact ⟨_,he⟩) ?_
      rintro v4 w4 ⟨hv4,hf4⟩
      injection hv4 with hv4
      subst hv4
      try go_simp
      exact hK _ _ ⟨updU u 5 (.int .i64 (n:Nat)),(by simp [updU,e4] <;> (repeat' apply And.intro) <;> rfl),HI.out.call hL (by decide) (HM.out _ _ hf4) hf4 (by rw [HFG.out.1]; exact rfl)⟩
    · have hL:f 6 = false:=hfi
      have e1:u 1 = .agg #[.pointer p]:=HI.out.get HFG.out.1 hL (i:=1) (hdep ⟨1,.data⟩ (by simp) rfl)
      have e3:u 3 = .int .i64 (R:Nat):=HI.out.get HFG.out.1 hL (i:=3) (hdep ⟨3,.data⟩ (by simp) rfl)
      have e5:u 5 = .int .i64 (n:Nat):=HI.out.get HFG.out.1 hL (i:=5) (hdep ⟨5,.data⟩ (by simp) rfl)
      refine step_call _ (by rfl) 38 #[.agg #[.pointer p],.int .i64 (R:Nat),.int .i64 (n:Nat)] (by go_simp) _ (HRG.out w' (HS1.out.1.trans (HI.out.a hL).1)) (by rintro e w' ⟨bi,bj,bt,he,_⟩; exact ⟨_,he⟩) ?_
      rintro v4 w4 ⟨bi,bj,bt,hv4,hbi,hbj,hbt,hf4,hx1,hx2,hx3⟩
      injection hv4 with hv4
      subst hv4
      have hz:=(HI.out.a hL).1.size
      try go_simp
      refine hK _ _ ⟨updU u 6 (.func (.func 77) #[] #[.pointer (some ⟨bi,0,none⟩),.pointer (some ⟨bj,0,none⟩),.pointer (some ⟨bt,0,none⟩)]),(by simp [updU,e1,e3,e5] <;> (repeat' apply And.intro) <;> rfl),RInv.last ?_⟩
      rw [HFG.out.2]
      exact ⟨bi,bj,bt,by simp [updU],hbi,hbj,hbt,(by omega),(by omega),(by omega),(HI.out.a hL).1.trans hf4⟩
  rintro f a wr2 hall ⟨u2,rfl,HI⟩
  have hG:=HI.out.b (hall 6 (by decide))
  rw [HFG.out.2] at hG
  obtain ⟨bi,bj,bt,eL,k0,k1,k2,k3,k4,k5,hfwr2⟩:=hG
  try dsimp only
  simp only [eL]
  clear eL
  have HS3:Hid (Fr [] w wr2 ∧ Blk wr2 B1 31 #[.pointer p,.bool tl,.int .i64 eo] ∧ Blk wr2 B2 43 #[.int .i64 (R:Nat),.int .i64 (C:Nat)] ∧ Blk wr2 B3 43 #[.int .i64 0,.int .i64 0] ∧ Blk wr2 B4 3 #[.int .i64 ((C:Int) + 1)]):=⟨HS1.out.1.trans hfwr2,HS1.out.2.1.fr hfwr2 (by simp),HS1.out.2.2.1.fr hfwr2 (by simp),HS1.out.2.2.2.1.fr hfwr2 (by simp),HS1.out.2.2.2.2.fr hfwr2 (by simp)⟩
  clear hfwr2 HI hall HFG HM HC2
  have HBB:Hid (wr2.cell? ⟨bi,0,none⟩ = some (.int .i64 (R:Nat)) ∧ wr2.cell? ⟨bj,0,none⟩ = some (.int .i64 (n:Nat)) ∧ wr2.cell? ⟨bt,0,none⟩ = some (.pointer p)):=⟨k0,k1,k2⟩
  have HBX:Hid (bi ≠ B3 ∧ bi ≠ B4 ∧ bj ≠ B3 ∧ bj ≠ B4 ∧ bt ≠ B3 ∧ bt ≠ B4):=by
    have h1:=HS1.out.2.2.2.1.lt
    have h2:=HS1.out.2.2.2.2.lt
    exact ⟨by omega,by omega,by omega,by omega,by omega,by omega⟩
  clear k0 k1 k2 k3 k4 k5
  go_wp2_with fail
  have HER:Hid (∀ k,some k ∈ ([some B3,some B4]:List (Option Nat)) → w.heap.size ≤ k):=by
    show ∀ _,_
    intro k hk
    have h1:=HNB3.out.1
    have h2:=HNB4.out.1
    rcases List.mem_cons.1 hk with e | e
    · injection e with e; omega
    · rw [List.mem_singleton] at e; injection e with e; omega
  have HFE:Hid (∀ W,Fr [some B3,some B4] wr2 W → Fr [] w W):=by
    show ∀ _,_
    intro W hf
    exact HS3.out.1.seq hf fun z hz => by
      rcases List.mem_cons.1 hz with e | e
      · exact .inr (.inr ⟨_,HER.out _ (by simp),e⟩)
      · rw [List.mem_singleton] at e; exact .inr (.inr ⟨_,HER.out _ (by simp),e⟩)
  have HTR:Hid (TreeAt TN [some B3,some B4] wr2 p (rs.map Prod.fst)):=HH.out.tr0.grow (E':=[some B3,some B4]) HS3.out.1 fun k hk => .inr (HER.out k hk)
  have HLT:Hid (B3 < wr2.heap.size ∧ B4 < wr2.heap.size):=⟨HS3.out.2.2.2.1.lt,HS3.out.2.2.2.2.lt⟩
  rw [← wpIn_wide (n:=3)]
  refine range_law (E:=[some B3,some B4]) (F:=Fence.wide) rfl (by omega) (gf:=77) rfl trivial (enters_of Tryz.func77 (by kernel_rfl) rfl)
    (range_stops (3 - 1) bi bj bt R n wr2 p (rs.map Prod.fst) HN.out.2.2 (by rw [← HN.out.1]; exact Nat.le_refl _) (by have:=HN.out; omega) HTR.out HBB.out.1 HBB.out.2.1 HBB.out.2.2 ?hne) (Fr.refl _ _) (fun _ => rfl)
    (fun _ W => ∃ fv:Int,0 ≤ fv ∧ fv ≤ 41 ∧ Hid (Fr [some B3,some B4] wr2 W ∧ Blk W B3 43 #[.int .i64 0,.int .i64 0] ∧ Blk W B4 3 #[.int .i64 fv])) (fun c _ W => c = .ret ∧ ∃ (R2 C2:Nat) (fv:Int),PlaceOK (rs.map Prod.fst) R2 C2 ∧ Hid (Fr [some B3,some B4] wr2 W ∧ Blk W B3 43 #[.int .i64 (R2:Nat),.int .i64 (C2:Nat)] ∧ Blk W B4 3 #[.int .i64 fv])) ?hI ?hIx ?h0
    (fun y a₁ W => ∃ rb,a₁ = { tmps:=#[.agg #[.pointer p,.bool tl,.int .i64 eo],.agg #[.int .i64 (R:Nat),.int .i64 (C:Nat)],.pointer (some ⟨B1,0,none⟩),.pointer (some ⟨B2,0,none⟩),.pointer (some ⟨B3,0,none⟩),.pointer (some ⟨B4,0,none⟩),.int .i64 (y.1:Nat),.pointer (some ⟨rb,0,none⟩),undef,.pointer (some ⟨B2,1,none⟩),.int .i64 (C:Nat),.int .i64 ((C:Int) + 1),u2 0,u2 1,u2 2,u2 3,u2 4,u2 5,.func (.func 77) #[] #[.pointer (some ⟨bi,0,none⟩),.pointer (some ⟨bj,0,none⟩),.pointer (some ⟨bt,0,none⟩)],.int .i64 (y.1:Nat),y.2.val,undef,undef,undef,undef,undef,undef,undef,undef,undef,undef,undef,undef,undef,undef,undef,undef,undef,undef,undef],defers:=[] } ∧ Blk W rb 63 #[.slice y.2.A y.2.n y.2.c,.int .i64 y.2.e,.bool y.2.h]) ?hAx ?assign ?body ?done ?stop
  case hne =>
    obtain ⟨h1,h2,h3,h4,h5,h6⟩:=HBX.out
    have key:∀ k:Nat,k ≠ B3 → k ≠ B4 → some k ∉ ([some B3,some B4]:List (Option Nat)):=fun k ha hb e => by
      rcases List.mem_cons.1 e with e | e
      · injection e with e; exact ha e
      · rw [List.mem_singleton] at e; injection e with e; exact hb e
    exact ⟨key bi h1 h2,key bj h3 h4,key bt h5 h6⟩
  case hI =>
    rintro pre W W' ⟨fv,h1,h2,h⟩ hc
    exact ⟨fv,h1,h2,fr_ch h.out.1 hc,hc.block _ _ h.out.2.1 (.inl HLT.out.1),hc.block _ _ h.out.2.2 (.inl HLT.out.2)⟩
  case hIx =>
    rintro c pre W W' ⟨h0,R2,C2,fv,h1,h⟩ hc
    exact ⟨h0,R2,C2,fv,h1,fr_ch h.out.1 hc,hc.block _ _ h.out.2.1 (.inl HLT.out.1),hc.block _ _ h.out.2.2 (.inl HLT.out.2)⟩
  case h0 => exact ⟨((C:Int) + 1),HC.out.1,by have:=HC.out; omega,Fr.refl _ _,HS3.out.2.2.2.1,HS3.out.2.2.2.2⟩
  case hAx =>
    rintro x a₁ W l o o' hl ho ⟨b,rfl,hb⟩
    refine ⟨b,rfl,?_⟩
    unfold Blk at hb ⊢
    rw [World.putObj_heap_other]
    · exact hb
    · intro e; subst e; rw [hb] at hl; injection hl with hl; subst hl; cases ho
  case assign =>
    intro l x W K hK
    obtain ⟨xq,⟨rA,rn,rc,re,rh⟩⟩:=x
    simp only [encR,RV.val]
    gi_wp2
    refine hK _ _ ((Fr.refl [] W).alloc _) ⟨W.heap.size,rfl,Blk.new W TRow _⟩
  case body =>
    rintro l pre ⟨xq,⟨rA,rn,rc,re,rh⟩⟩ a₁ W ⟨fv,hv0,hv1,HI⟩ hpx ⟨rb,rfl,hb⟩
    simp only [RV.val] at hb ⊢
    have hmem:(xq,(⟨rA,rn,rc,re,rh⟩:RV)) ∈ allR (rs.map Prod.fst) R n:=hpx.subset (by simp)
    obtain ⟨cs,q1,q2,q3,q4,q5,q6⟩:=HH.out.rowc (by rw [← HN.out.1]; exact Nat.le_refl _) hmem
    have HRC:Hid (Sl w rA (cvc cs) ∧ rn = cs.length ∧ rn ≤ 40 ∧ rn ≤ widthP (rs.map Prod.fst) ∧ xq < (rs.map Prod.fst).length ∧ hidAt (rs.map Prod.fst) xq = rh):=⟨q1,q2,q3,q4,q5,q6⟩
    have hrn:rn ≤ 40:=q3
    clear hpx hmem q1 q2 q3 q4 q5 q6
    have HNr:Hid (rb ≠ B3 ∧ rb ≠ B4):=⟨blk_ne2 hb HI.out.2.1 (by decide),blk_ne2 hb HI.out.2.2 (by decide)⟩
    have HNf:Hid (B3 ≠ B4):=by
      have h1:=HNB4.out
      exact fun e => h1.2.2.2 e.symm
    have HW0:Hid (Fr [some B3,some B4] W W ∧ Blk W B3 43 #[.int .i64 0,.int .i64 0] ∧ Blk W B4 3 #[.int .i64 fv] ∧ Blk W rb 63 #[.slice rA rn rc,.int .i64 re,.bool rh]):=⟨Fr.refl _ _,HI.out.2.1,HI.out.2.2,hb⟩
    clear hb
    have HKP:Hid (∀ W',Fr [some B3,some B4] W W' → KeepsI [some B3,some B4] wr2.heap.size W W'):=by
      show ∀ _,_
      intro W' hf
      refine KeepsI.of_frS hf fun k hk hlt => ?_
      rcases List.mem_cons.1 hk with e | e
      · injection e with e
        subst e
        exact ⟨.inr (by simp),_,HI.out.2.1,by simp [itT]; decide⟩
      · rw [List.mem_singleton] at e
        injection e with e
        subst e
        exact ⟨.inr (by simp),_,HI.out.2.2,by simp [itT]; decide⟩
    obtain ⟨f0,rfl⟩:∃ f0:Nat,fv = f0:=Int.eq_ofNat_of_zero_le hv0
    have hf41:(f0:Int) ≤ 41:=hv1
    clear hv0 hv1
    have c1:W.cell? ⟨B4,0,none⟩ = some (.int .i64 (f0:Nat)):=HW0.out.2.2.1.cell 0
    gi_wp2
    clear c1
    gi_loopw [8] (fun cv wr => ∃ k:Nat,cv = .int .i64 (k:Nat) ∧ (k:Int) ≤ 81 ∧ Hid (Fr [some B3,some B4] W wr ∧ Blk wr B3 43 #[.int .i64 0,.int .i64 0] ∧ Blk wr B4 3 #[.int .i64 (f0:Nat)] ∧ Blk wr rb 63 #[.slice rA rn rc,.int .i64 re,.bool rh])) (fun cv _ => (rn - (intOf cv).toNat))
    case atStart => exact ⟨f0,rfl,by omega,HW0⟩
    case round =>
      obtain ⟨k,rfl,hk81,HL⟩:=hrel
      by_cases hlt:k < rn
      · cases hrh:rh with
        | true =>
          rw [hrh] at HL
          try rw [hrh]
          have c1:wr.cell? ⟨rb,0,none⟩ = some (.slice rA rn rc):=HL.out.2.2.2.cell 0
          have c2:wr.cell? ⟨rb,1,none⟩ = some (.int .i64 re):=HL.out.2.2.2.cell 1
          have c3:wr.cell? ⟨rb,2,none⟩ = some (.bool true):=HL.out.2.2.2.cell 2
          gi_wp2
          clear c1 c2 c3
          refine ⟨trivial,(CallsIn.inRound l (callsIn_wide.2 (rowlen_any wr rA rn rc re true))).mono ?_⟩
          rintro en w1 ⟨rfl,hf1⟩
          have HS6:Hid (Fr [some B3,some B4] W w1 ∧ Blk w1 B3 43 #[.int .i64 0,.int .i64 0] ∧ Blk w1 B4 3 #[.int .i64 (f0:Nat)] ∧ Blk w1 rb 63 #[.slice rA rn rc,.int .i64 re,.bool true]):=⟨HL.out.1.trans hf1.of_nil,HL.out.2.1.fr hf1 (by simp),HL.out.2.2.1.fr hf1 (by simp),HL.out.2.2.2.fr hf1 (by simp)⟩
          clear hf1
          have c1:w1.cell? ⟨rb,0,none⟩ = some (.slice rA rn rc):=HS6.out.2.2.2.cell 0
          have c2:w1.cell? ⟨rb,1,none⟩ = some (.int .i64 re):=HS6.out.2.2.2.cell 1
          have c3:w1.cell? ⟨rb,2,none⟩ = some (.bool true):=HS6.out.2.2.2.cell 2
          gi_wp2
          clear c1 c2 c3
          refine ⟨trivial,(CallsIn.inRound l (callsIn_wide.2 (shown_any w1 rA rn rc re true))).mono ?_⟩
          rintro en w2 ⟨rfl,hf2⟩
          have HS8:Hid (Fr [some B3,some B4] W w2 ∧ Blk w2 B3 43 #[.int .i64 0,.int .i64 0] ∧ Blk w2 B4 3 #[.int .i64 (f0:Nat)] ∧ Blk w2 rb 63 #[.slice rA rn rc,.int .i64 re,.bool true]):=⟨HS6.out.1.trans hf2.of_nil,HS6.out.2.1.fr hf2 (by simp),HS6.out.2.2.1.fr hf2 (by simp),HS6.out.2.2.2.fr hf2 (by simp)⟩
          clear hf2
          obtain ⟨W9,hW9⟩:∃ Wx,Wx = (w2.setCell ⟨B4,0,none⟩ (.int .i64 0)):=⟨_,rfl⟩
          have HS9:Hid (Fr [some B3,some B4] W W9 ∧ Blk W9 B3 43 #[.int .i64 0,.int .i64 0] ∧ Blk W9 B4 3 #[.int .i64 0] ∧ Blk W9 rb 63 #[.slice rA rn rc,.int .i64 re,.bool true]):=by
            have mB3:=HS8.out.2.1
            replace mB3:=mB3.far (p:=⟨B4,0,none⟩) (fun e => by have e:B3 = B4:=e; have:=HNf.out; omega) (.int .i64 0)
            have mB4:=HS8.out.2.2.1
            replace mB4:Blk (w2.setCell ⟨B4,0,none⟩ (.int .i64 0)) B4 3 #[.int .i64 0]:=by simpa using mB4.set_ 0 (.int .i64 0)
            have mrb:=HS8.out.2.2.2
            replace mrb:=mrb.far (p:=⟨B4,0,none⟩) (fun e => by have e:rb = B4:=e; have:=HNr.out; omega) (.int .i64 0)
            rw [hW9]
            exact ⟨(HS8.out.1.setB (fun _ => by simp) _ _),mB3,mB4,mrb⟩
          have c1:w2.cell? ⟨B4,0,none⟩ = some (.int .i64 (f0:Nat)):=HS8.out.2.2.1.cell 0
          have c2:=HS8.out.2.2.1.frozen 0
          have c3:=HS8.out.2.2.1.lt
          gi_wp2
          try rw [← hW9]
          clear c1 c2 c3 hW9
          exact ⟨HKP.out _ HS9.out.1,0,by omega,by omega,HI.out.1.trans HS9.out.1,HS9.out.2.1,HS9.out.2.2.1⟩
        | false =>
          rw [hrh] at HL
          try rw [hrh]
          have c1:wr.cell? ⟨rb,0,none⟩ = some (.slice rA rn rc):=HL.out.2.2.2.cell 0
          have c2:wr.cell? ⟨rb,1,none⟩ = some (.int .i64 re):=HL.out.2.2.2.cell 1
          have c3:wr.cell? ⟨rb,2,none⟩ = some (.bool false):=HL.out.2.2.2.cell 2
          gi_wp2
          clear c1 c2 c3
          refine ⟨trivial,(CallsIn.inRound l (callsIn_wide.2 (rowlen_any wr rA rn rc re false))).mono ?_⟩
          rintro en w1 ⟨rfl,hf1⟩
          have HS6:Hid (Fr [some B3,some B4] W w1 ∧ Blk w1 B3 43 #[.int .i64 0,.int .i64 0] ∧ Blk w1 B4 3 #[.int .i64 (f0:Nat)] ∧ Blk w1 rb 63 #[.slice rA rn rc,.int .i64 re,.bool false]):=⟨HL.out.1.trans hf1.of_nil,HL.out.2.1.fr hf1 (by simp),HL.out.2.2.1.fr hf1 (by simp),HL.out.2.2.2.fr hf1 (by simp)⟩
          clear hf1
          have c1:w1.cell? ⟨rb,0,none⟩ = some (.slice rA rn rc):=HS6.out.2.2.2.cell 0
          have c2:w1.cell? ⟨rb,1,none⟩ = some (.int .i64 re):=HS6.out.2.2.2.cell 1
          have c3:w1.cell? ⟨rb,2,none⟩ = some (.bool false):=HS6.out.2.2.2.cell 2
          gi_wp2
          clear c1 c2 c3
          refine ⟨trivial,(CallsIn.inRound l (callsIn_wide.2 (shown_any w1 rA rn rc re false))).mono ?_⟩
          rintro en w2 ⟨rfl,hf2⟩
          have HS8:Hid (Fr [some B3,some B4] W w2 ∧ Blk w2 B3 43 #[.int .i64 0,.int .i64 0] ∧ Blk w2 B4 3 #[.int .i64 (f0:Nat)] ∧ Blk w2 rb 63 #[.slice rA rn rc,.int .i64 re,.bool false]):=⟨HS6.out.1.trans hf2.of_nil,HS6.out.2.1.fr hf2 (by simp),HS6.out.2.2.1.fr hf2 (by simp),HS6.out.2.2.2.fr hf2 (by simp)⟩
          clear hf2
          have c1:w2.cell? ⟨rb,0,none⟩ = some (.slice rA rn rc):=HS8.out.2.2.2.cell 0
          have c2:w2.cell? ⟨rb,1,none⟩ = some (.int .i64 re):=HS8.out.2.2.2.cell 1
          have c3:w2.cell? ⟨rb,2,none⟩ = some (.bool false):=HS8.out.2.2.2.cell 2
          gi_wp2
          clear c1 c2 c3
          refine ⟨trivial,(CallsIn.inRound l (callsIn_wide.2 (mempty_any w2 rA rn rc re _ false cs (HRC.out.1.fr (HFE.out _ (HI.out.1.trans HS8.out.1)) (.inr List.not_mem_nil)) HRC.out.2.1 (by have:=HRC.out; omega)))).mono ?_⟩
          rintro en w3 ⟨rfl,hf3⟩
          obtain ⟨be,hbe⟩:∃ b,b = decide (((atC cs (k:Nat)).getD CV.zero).q = 0):=⟨_,rfl⟩
          rw [← hbe]
          clear hbe
          have HS10:Hid (Fr [some B3,some B4] W w3 ∧ Blk w3 B3 43 #[.int .i64 0,.int .i64 0] ∧ Blk w3 B4 3 #[.int .i64 (f0:Nat)] ∧ Blk w3 rb 63 #[.slice rA rn rc,.int .i64 re,.bool false]):=⟨HS8.out.1.trans hf3.of_nil,HS8.out.2.1.fr hf3 (by simp),HS8.out.2.2.1.fr hf3 (by simp),HS8.out.2.2.2.fr hf3 (by simp)⟩
          clear hf3
          cases be with
          | true =>
            have hw2:IntKind.i64.wrap ((k:Int) + 1) = ((k + 1:Nat):Int):=by rw [IntWalk.i64_in _ (by omega)]; omega
            gi_wp2
            go_roundw
            case rel => exact ⟨k + 1,rfl,by omega,⟨HS10.out.1,HS10.out.2.1,HS10.out.2.2.1,HS10.out.2.2.2⟩⟩
            case measure => simp [intOf] <;> omega
          | false =>
            obtain ⟨W11,hW11⟩:∃ Wx,Wx = ((w3.setCell ⟨B3,0,none⟩ (.int .i64 (xq:Nat))).setCell ⟨B3,1,none⟩ (.int .i64 (k:Nat))):=⟨_,rfl⟩
            have HS11:Hid (Fr [some B3,some B4] W W11 ∧ Blk W11 B3 43 #[.int .i64 (xq:Nat),.int .i64 (k:Nat)] ∧ Blk W11 B4 3 #[.int .i64 (f0:Nat)] ∧ Blk W11 rb 63 #[.slice rA rn rc,.int .i64 re,.bool false]):=by
              have mB3:=HS10.out.2.1
              replace mB3:Blk (w3.setCell ⟨B3,0,none⟩ (.int .i64 (xq:Nat))) B3 43 #[.int .i64 (xq:Nat),.int .i64 0]:=by simpa using mB3.set_ 0 (.int .i64 (xq:Nat))
              replace mB3:Blk ((w3.setCell ⟨B3,0,none⟩ (.int .i64 (xq:Nat))).setCell ⟨B3,1,none⟩ (.int .i64 (k:Nat))) B3 43 #[.int .i64 (xq:Nat),.int .i64 (k:Nat)]:=by simpa using mB3.set_ 1 (.int .i64 (k:Nat))
              have mB4:=HS10.out.2.2.1
              replace mB4:=mB4.far (p:=⟨B3,0,none⟩) (fun e => by have e:B4 = B3:=e; have:=HNf.out; omega) (.int .i64 (xq:Nat))
              replace mB4:=mB4.far (p:=⟨B3,1,none⟩) (fun e => by have e:B4 = B3:=e; have:=HNf.out; omega) (.int .i64 (k:Nat))
              have mrb:=HS10.out.2.2.2
              replace mrb:=mrb.far (p:=⟨B3,0,none⟩) (fun e => by have e:rb = B3:=e; have:=HNr.out; omega) (.int .i64 (xq:Nat))
              replace mrb:=mrb.far (p:=⟨B3,1,none⟩) (fun e => by have e:rb = B3:=e; have:=HNr.out; omega) (.int .i64 (k:Nat))
              rw [hW11]
              exact ⟨((HS10.out.1.setB (fun _ => by simp) _ _).setB (fun _ => by simp) _ _),mB3,mB4,mrb⟩
            have c1:w3.cell? ⟨B3,0,none⟩ = some (.int .i64 0):=HS10.out.2.1.cell 0
            have c2:=HS10.out.2.1.frozen 0
            have c3:=HS10.out.2.1.lt
            have c4:w3.cell? ⟨B3,1,none⟩ = some (.int .i64 0):=HS10.out.2.1.cell 1
            have c5:=HS10.out.2.1.frozen 1
            gi_wp2
            try rw [← hW11]
            clear c1 c2 c3 c4 c5 hW11
            exact ⟨HKP.out _ HS11.out.1,rfl,xq,k,f0,⟨.inl ⟨HRC.out.2.2.2.2.1,by rw [HRC.out.2.2.2.2.2]; exact hrh⟩,.inr (by have:=HRC.out; omega)⟩,HI.out.1.trans HS11.out.1,HS11.out.2.1,HS11.out.2.2.1⟩
      · have hn:¬ (k:Int) < (rn:Int):=by omega
        have c1:wr.cell? ⟨rb,0,none⟩ = some (.slice rA rn rc):=HL.out.2.2.2.cell 0
        have c2:wr.cell? ⟨rb,1,none⟩ = some (.int .i64 re):=HL.out.2.2.2.cell 1
        have c3:wr.cell? ⟨rb,2,none⟩ = some (.bool rh):=HL.out.2.2.2.cell 2
        gi_wp2
        clear c1 c2 c3
        refine ⟨trivial,(CallsIn.inRound l (callsIn_wide.2 (rowlen_any wr rA rn rc re rh))).mono ?_⟩
        rintro en w1 ⟨rfl,hf1⟩
        have HS6:Hid (Fr [some B3,some B4] W w1 ∧ Blk w1 B3 43 #[.int .i64 0,.int .i64 0] ∧ Blk w1 B4 3 #[.int .i64 (f0:Nat)] ∧ Blk w1 rb 63 #[.slice rA rn rc,.int .i64 re,.bool rh]):=⟨HL.out.1.trans hf1.of_nil,HL.out.2.1.fr hf1 (by simp),HL.out.2.2.1.fr hf1 (by simp),HL.out.2.2.2.fr hf1 (by simp)⟩
        clear hf1
        gi_wp2
        refine ⟨trivial,?_⟩
        obtain ⟨W8,hW8⟩:∃ Wx,Wx = (w1.setCell ⟨B4,0,none⟩ (.int .i64 0)):=⟨_,rfl⟩
        have HS8:Hid (Fr [some B3,some B4] W W8 ∧ Blk W8 B3 43 #[.int .i64 0,.int .i64 0] ∧ Blk W8 B4 3 #[.int .i64 0] ∧ Blk W8 rb 63 #[.slice rA rn rc,.int .i64 re,.bool rh]):=by
          have mB3:=HS6.out.2.1
          replace mB3:=mB3.far (p:=⟨B4,0,none⟩) (fun e => by have e:B3 = B4:=e; have:=HNf.out; omega) (.int .i64 0)
          have mB4:=HS6.out.2.2.1
          replace mB4:Blk (w1.setCell ⟨B4,0,none⟩ (.int .i64 0)) B4 3 #[.int .i64 0]:=by simpa using mB4.set_ 0 (.int .i64 0)
          have mrb:=HS6.out.2.2.2
          replace mrb:=mrb.far (p:=⟨B4,0,none⟩) (fun e => by have e:rb = B4:=e; have:=HNr.out; omega) (.int .i64 0)
          rw [hW8]
          exact ⟨(HS6.out.1.setB (fun _ => by simp) _ _),mB3,mB4,mrb⟩
        have c1:w1.cell? ⟨B4,0,none⟩ = some (.int .i64 (f0:Nat)):=HS6.out.2.2.1.cell 0
        have c2:=HS6.out.2.2.1.frozen 0
        have c3:=HS6.out.2.2.1.lt
        gi_wp2
        try rw [← hW8]
        clear c1 c2 c3 hW8
        exact ⟨HKP.out _ HS8.out.1,0,by omega,by omega,HI.out.1.trans HS8.out.1,HS8.out.2.1,HS8.out.2.2.1⟩
  case done =>
    rintro D W hD ⟨fv,hv0,hv1,HI⟩ hK
    have HDD:=Lib.hid hD
    have HKD:=Lib.hid hK
    have HDS:Hid (Fr [some B3,some B4] wr2 W ∧ Blk W B2 43 #[.int .i64 (R:Nat),.int .i64 (C:Nat)] ∧ Blk W B3 43 #[.int .i64 0,.int .i64 0]):=⟨HI.out.1,HS3.out.2.2.1.fr HI.out.1 (by
      have h1:=HNB3.out
      have h2:=HNB4.out
      intro hx
      rcases List.mem_cons.1 hx with e | e
      · injection e with e; omega
      · rw [List.mem_singleton] at e; injection e with e; omega),HI.out.2.1⟩
    clear hD hK hv0 hv1
    obtain ⟨W9,hW9⟩:∃ Wx,Wx = ((W.setCell ⟨B3,0,none⟩ (.int .i64 (R:Nat))).setCell ⟨B3,1,none⟩ (.int .i64 (C:Nat))):=⟨_,rfl⟩
    have HS9:Hid (Fr [some B3,some B4] wr2 W9 ∧ Blk W9 B2 43 #[.int .i64 (R:Nat),.int .i64 (C:Nat)] ∧ Blk W9 B3 43 #[.int .i64 (R:Nat),.int .i64 (C:Nat)]):=by
      have mB2:=HDS.out.2.1
      replace mB2:=mB2.far (p:=⟨B3,0,none⟩) (fun e => by have e:B2 = B3:=e; have:=HNB3.out; omega) (.int .i64 (R:Nat))
      replace mB2:=mB2.far (p:=⟨B3,1,none⟩) (fun e => by have e:B2 = B3:=e; have:=HNB3.out; omega) (.int .i64 (C:Nat))
      have mB3:=HDS.out.2.2
      replace mB3:Blk (W.setCell ⟨B3,0,none⟩ (.int .i64 (R:Nat))) B3 43 #[.int .i64 (R:Nat),.int .i64 0]:=by simpa using mB3.set_ 0 (.int .i64 (R:Nat))
      replace mB3:Blk ((W.setCell ⟨B3,0,none⟩ (.int .i64 (R:Nat))).setCell ⟨B3,1,none⟩ (.int .i64 (C:Nat))) B3 43 #[.int .i64 (R:Nat),.int .i64 (C:Nat)]:=by simpa using mB3.set_ 1 (.int .i64 (C:Nat))
      rw [hW9]
      exact ⟨((HDS.out.1.setB (fun _ => by simp) _ _).setB (fun _ => by simp) _ _),mB2,mB3⟩
    have c1:W.cell? ⟨B2,0,none⟩ = some (.int .i64 (R:Nat)):=HDS.out.2.1.cell 0
    have c2:=HDS.out.2.1.frozen 0
    have c3:=HDS.out.2.1.lt
    have c4:W.cell? ⟨B2,1,none⟩ = some (.int .i64 (C:Nat)):=HDS.out.2.1.cell 1
    have c5:=HDS.out.2.1.frozen 1
    have c6:W.cell? ⟨B3,0,none⟩ = some (.int .i64 0):=HDS.out.2.2.cell 0
    have c7:=HDS.out.2.2.frozen 0
    have c8:=HDS.out.2.2.lt
    have c9:W.cell? ⟨B3,1,none⟩ = some (.int .i64 0):=HDS.out.2.2.cell 1
    have c10:=HDS.out.2.2.frozen 1
    have c11:¬ B2 = B3:=fun e => by have e:B2 = B3:=e; have:=HNB3.out; omega
    have c12:¬ B3 = B2:=fun e => by have e:B3 = B2:=e; have:=HNB3.out; omega
    have HKD9:Hid (W9.heap[D]? = some (.deferred (some []))):=by
      show _ = _
      rw [hW9]
      exact (Below.heap_setCell _ ⟨B3,1,none⟩ _ D (by have h1:=HDD.out; have h2:=HLT.out; show D ≠ B3; omega)).trans ((Below.heap_setCell W ⟨B3,0,none⟩ _ D (by have h1:=HDD.out; have h2:=HLT.out; show D ≠ B3; omega)).trans HKD.out)
    go_wp2_with fail
    try rw [← hW9]
    clear c1 c2 c3 c4 c5 c6 c7 c8 c9 c10 c11 c12 hW9
    refine ⟨by simp,.inl ⟨_,_,rfl,run_takeDeferred HKD9.out,?_⟩⟩
    obtain ⟨WZ,hWZ⟩:∃ Wx,Wx = World.putObj W9 D (.deferred none):=⟨_,rfl⟩
    rw [← hWZ]
    have hc:ChI wr2.heap.size W9 WZ:=by rw [hWZ]; exact ChI.put (o':=.deferred none) HKD9.out rfl HDD.out
    have hbz:Blk WZ B3 43 #[.int .i64 (R:Nat),.int .i64 (C:Nat)]:=hc.block _ _ HS9.out.2.2 (.inl HLT.out.1)
    have l0:WZ.cell? ⟨B3,0,none⟩ = some (.int .i64 (R:Nat)):=hbz.cell 0
    have l1:WZ.cell? ⟨B3,1,none⟩ = some (.int .i64 (C:Nat)):=hbz.cell 1
    have HFZ:=Lib.hid (HFE.out _ (fr_ch HS9.out.1 hc))
    clear hWZ hc hbz
    refine ⟨.agg #[.int .i64 (R:Nat),.int .i64 (C:Nat)],by simp [results,Tryz.results70,go_sem, *],?_⟩
    exact ⟨_,_,rfl,HP.out,HFZ.out⟩
  case stop =>
    rintro D c pre W hD ⟨rfl,R2,C2,fv,hp,HI⟩ hK
    have HDD:=Lib.hid hD
    have HKD:=Lib.hid hK
    have HPP:=Lib.hid hp
    clear hD hK hp
    rw [wpIn_wide]
    go_wp2_with fail
    refine ⟨by simp,.inl ⟨_,_,rfl,run_takeDeferred HKD.out,?_⟩⟩
    obtain ⟨WZ,hWZ⟩:∃ Wx,Wx = World.putObj W D (.deferred none):=⟨_,rfl⟩
    rw [← hWZ]
    have hc:ChI wr2.heap.size W WZ:=by rw [hWZ]; exact ChI.put (o':=.deferred none) HKD.out rfl HDD.out
    have hbz:Blk WZ B3 43 #[.int .i64 (R2:Nat),.int .i64 (C2:Nat)]:=hc.block _ _ HI.out.2.1 (.inl HLT.out.1)
    have l0:WZ.cell? ⟨B3,0,none⟩ = some (.int .i64 (R2:Nat)):=hbz.cell 0
    have l1:WZ.cell? ⟨B3,1,none⟩ = some (.int .i64 (C2:Nat)):=hbz.cell 1
    have HFZ:=Lib.hid (HFE.out _ (fr_ch HI.out.1 hc))
    clear hWZ hc hbz
    refine ⟨.agg #[.int .i64 (R2:Nat),.int .i64 (C2:Nat)],by simp [results,Tryz.results70,go_sem, *],?_⟩
    exact ⟨_,_,rfl,HPP.out,HFZ.out⟩
end
end Go.Proofs.YteohomdiklkbfaaGreat
