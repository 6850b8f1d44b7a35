import Derived.Test.YteohomdiklkbfaaGreatA16
import Derived.Deep.RegionHeld3
import Derived.IntWalk
namespace Go.Proofs.YteohomdiklkbfaaGreat
open Go.RowKit Go.Proofs.Dm

theorem ptrs_fst_app (a b:List (Nat × List RV)):ptrs ((a ++ b).map (·.1)) = ptrs (a.map (·.1)) ++ ptrs (b.map (·.1)):=by rw [List.map_append,ptrs_app]
theorem splice_ks (A B:Option Addr) (c d i j:Nat) (ks gl:List (Nat × List RV)) (w:World) (hs:Sl w A (ptrs (ks.map (·.1)))) (hw:Sl w B (ptrs (gl.map (·.1)))) (hi:i ≤ ks.length) (hj:j ≤ ks.length) (hc:ks.length ≤ c) (hn:ks.length ≤ 10000) (hm:gl.length ≤ 10000) :
    Calls Tryz.prog 117 #[.slice A ks.length c,.int .i64 (i:Int),.int .i64 (j:Int),.slice B gl.length d] w (NewRow w 27 1 (ks.take i ++ gl ++ ks.drop j).length (ptrs ((ks.take i ++ gl ++ ks.drop j).map (·.1)))):=by
  have:=splice_N A B ks.length c gl.length d i j (ptrs (ks.map (·.1))) (ptrs (gl.map (·.1))) w hs (by rw [ptrs_len,List.length_map,Nat.mul_one]) (ptrs_one _) hw (by rw [ptrs_len,List.length_map,Nat.mul_one]) (ptrs_one _) hi hj hc hn hm
  rw [ptrs_fst_app,ptrs_fst_app,List.map_take,List.map_drop,ptrs_take,ptrs_drop]
  simpa [Nat.min_eq_left hi,Nat.add_assoc] using this
def NodeAns (E:List (Option Nat)) (w:World) (h lo:Nat) (xs:List RV) (en:Ending) (w':World):Prop:=∃ g,en = .returned (.pointer (some ⟨g,0,none⟩)) ∧ NodeAt TN E w' h lo g xs ∧ Fr [] w w'
theorem inner_node (E:List (Option Nat)) (h lo:Nat) (A:Option Addr) (c:Nat) (ks:List (Nat × List RV)) (w:World) (hE:Old E w) (hs:Kp E w fun w => Sl w A (ptrs (ks.map (·.1)))) (hc:ks.length ≤ c) (hN:NodesAt TN E w h 3 ks) (hlo:lo ≤ ks.length) (h1:1 ≤ ks.length) (h6:ks.length ≤ 6) (hsm:(allOf ks).length ≤ 1000000) :
    Calls Tryz.prog 116 #[.slice A ks.length c] w (NodeAns E w (h + 1) lo (allOf ks)):=by
  refine (inner_any A c ks w hs.now (fun k hk => (hN k hk).cell2) (by rw [sumOf_eq]; exact hsm) (by omega)).mono ?_
  rintro e w' ⟨h1',h2,h3⟩
  rw [sumOf_eq] at h2
  exact ⟨_,h1',⟨ks,A,c,hlo,h1,h6,rfl,hc,(Kp.blk h2 (hE.new (Nat.le_refl _))).and (hs.fr0 h3),hN.fr0 h3⟩,h3⟩
theorem kp_new {E:List (Option Nat)} {w w':World} {A:Option Addr} {cs:List Value} (hE:Old E w) (hs:Sl w' A cs) (hA:∀ j,bk A = some j → w.heap.size ≤ j):Kp E w' fun w => Sl w A cs:=Kp.sl hs (hE.newA hA)
end Go.Proofs.YteohomdiklkbfaaGreat
namespace Go.Proofs.YteohomdiklkbfaaGreat
open Go.RowKit Go.Proofs.Dm

theorem allOf_one (k:Nat × List RV):allOf [k] = k.2:=by simp [allOf]
end Go.Proofs.YteohomdiklkbfaaGreat
namespace Go.Proofs.YteohomdiklkbfaaGreat
open Go.RowKit Go.Proofs.Dm

def TreeOk (E:List (Option Nat)) (w:World) (xs:List RV) (ok:Bool) (en:Ending) (w':World):Prop:=∃ p,en = .returned (.tuple #[.agg #[.pointer p],.bool ok]) ∧ TreeAt TN E w' p xs ∧ Fr [] w w'
theorem old_box1 {E:List (Option Nat)} {w:World} (h:Old E w) {wr:World} (hf:Fr [] w wr) {b:Nat} (hl:b < wr.heap.size):Old (some b :: E) wr:=fun k hk => by
  rcases List.mem_cons.1 hk with h' | h'
  · injection h' with h'; omega
  · have:=h k h'; have:=hf.size; omega
end Go.Proofs.YteohomdiklkbfaaGreat
namespace Go.Proofs.YteohomdiklkbfaaGreat
open Go.RowKit Go.Proofs.Dm

theorem set_all (ks:List (Nat × List RV)) (q j:Nat) (x:RV) (hq:q < ks.length) (hj:j < ks[q].2.length) :
    (allOf ks).set (sumOf (ks.take q) + j) x = allOf (ks.take q) ++ (ks[q].2.set j x ++ allOf (ks.drop (q + 1))):=by
  rw [allOf_split ks q hq,sumOf_eq,List.set_append_right _ _ (by omega),Nat.add_sub_cancel_left,List.set_append_left _ _ hj]
theorem set_1 (ks:List (Nat × List RV)) (q j g:Nat) (x:RV) (hq:q < ks.length) (hj:j < ks[q].2.length) :
    allOf (ks.take q ++ [(g,ks[q].2.set j x)] ++ ks.drop (q + 1)) = (allOf ks).set (sumOf (ks.take q) + j) x:=by
  rw [set_all ks q j x hq hj,allOf_app,allOf_app,allOf_one,List.append_assoc]
theorem flatR_set (xs:List RV) (i:Nat) (x:RV) (hi:i < xs.length):(flatR xs).take (i * 3) ++ x.cells ++ (flatR xs).drop ((i + 1) * 3) = flatR (xs.set i x):=by
  have h1:xs.set i x = xs.take i ++ [x] ++ xs.drop (i + 1):=by
    rw [List.set_eq_take_append_cons_drop,if_pos hi,List.append_assoc]
    rfl
  rw [h1,flatR_app,flatR_app,flatR_take,flatR_drop]
  simp [flatR]
theorem rv_one (x:RV):∀ u ∈ x.cells,u.oneCell' = true:=by
  intro u hu
  simp only [RV.cells,List.mem_cons,List.not_mem_nil,or_false] at hu
  rcases hu with rfl | rfl | rfl <;> rfl
set_option maxRecDepth 100000 in
set_option maxHeartbeats 1600000 in
theorem set_leaf (E:List (Option Nat)) (lo g:Nat) (xs:List RV) (i:Nat) (x:RV) (w:World) (hE:Old E w) (hn:NodeAt TN E w 0 lo g xs) (hi:i < xs.length) :
    Calls Tryz.prog 96 #[.pointer (some ⟨g,0,none⟩),.int .i64 (i:Nat),x.val] w (NodeAns E w 0 lo (xs.set i x)):=by
  obtain ⟨xA,xn,xc,xe,xh⟩:=x
  show Calls Tryz.prog 96 #[.pointer (some ⟨g,0,none⟩),.int .i64 (i:Nat),.agg #[.slice xA xn xc,.int .i64 xe,.bool xh]] w _
  obtain ⟨W1,hW1⟩:∃ W1,W1 = w.alloc (.cells #[.slice xA xn xc,.int .i64 xe,.bool xh] 63):=⟨_,rfl⟩
  have H1:Hid (Fr [] w W1 ∧ Blk W1 w.heap.size 63 #[.slice xA xn xc,.int .i64 xe,.bool xh]):=by
    rw [hW1]
    exact ⟨(Fr.refl [] w).alloc _,Blk.new w _ _⟩
  have hn1:=hn.fr0 H1.out.1
  have HFL:=Lib.hid (flat_leaf hn1)
  obtain ⟨h0,h6,A,c,hc,hk⟩:=hn1
  have HC1:Hid (∀ w',Fr [] W1 w' → w'.cell? ⟨g,1,none⟩ = some (.slice A xs.length c) ∧ w'.cell? ⟨w.heap.size,0,none⟩ = some (.slice xA xn xc) ∧ w'.cell? ⟨w.heap.size,1,none⟩ = some (.int .i64 xe) ∧ w'.cell? ⟨w.heap.size,2,none⟩ = some (.bool xh)):=by
    show ∀ _,_
    intro w' hf
    have h2:=H1.out.2.fr hf (by simp)
    exact ⟨(hk.fr0 hf).now.1.cell 1,h2.cell 0,h2.cell 1,h2.cell 2⟩
  have hsl:(xs.set i ⟨xA,xn,xc,xe,xh⟩).length = xs.length:=List.length_set
  have HSP:Hid (∀ w' B (d:Nat),Fr [] W1 w' → Sl w' B [.slice xA xn xc,.int .i64 xe,.bool xh] → Calls Tryz.prog 115 #[.slice A xs.length c,.int .i64 (i:Nat),.int .i64 ((i:Int) + 1),.slice B 1 d] w' (NewRow w' 63 3 xs.length (flatR (xs.set i ⟨xA,xn,xc,xe,xh⟩)))):=by
    show ∀ _,_
    intro w' B d hf hB
    have:=splice_R A B xs.length c 1 d i (i + 1) (flatR xs) (RV.cells ⟨xA,xn,xc,xe,xh⟩) w' (hk.now.2.fr hf (.inr List.not_mem_nil)) (flatR_len xs) (flatR_one xs) hB rfl (rv_one _) (by omega) (by omega) hc (by omega) (by omega)
    rw [flatR_set xs i _ hi,show i + 1 + (xs.length - (i + 1)) = xs.length by omega] at this
    exact this
  obtain ⟨ys,hys⟩:∃ ys,ys = xs.set i ⟨xA,xn,xc,xe,xh⟩:=⟨_,rfl⟩
  rw [← hys] at HSP hsl ⊢
  obtain ⟨n,hnl⟩:∃ n,n = xs.length:=⟨_,rfl⟩
  rw [← hnl] at HSP HC1 hsl h0 h6 hc
  have HY:Hid (lo ≤ ys.length ∧ ys.length ≤ 6 ∧ ys.length = n):=by show _ ∧ _; omega
  have HE:=Lib.hid (hE.fr H1.out.1)
  have HW1:=Lib.hid hW1
  have hi6:(i:Int) ≤ 6:=by omega
  have hw1:IntKind.i64.wrap ((i:Int) + 1) = (i:Int) + 1:=IntWalk.i64_in _ (by omega)
  clear hk hys hsl hE h0 h6 hi hc hn hnl hW1
  go_enter Tryz.func96,Tryz.ntmps96
  go_wp2_with fail
  rw [← HW1.out]
  refine HFL.out.mono ?_
  rintro e w' ⟨rfl,rfl⟩
  clear HFL
  obtain ⟨RB,hRB⟩:∃ RB,RB = w.heap.size:=⟨_,rfl⟩
  rw [← hRB] at HC1
  rw [← hRB]
  clear hRB
  obtain ⟨c0,c1,c2,c3⟩:=HC1.out _ (Fr.refl _ _)
  go_wp2_with fail
  go_region_held3 (fun w' => w'.cell? ⟨g,1,none⟩ = some (.slice A n c) ∧ w'.cell? ⟨RB,0,none⟩ = some (.slice xA xn xc) ∧ w'.cell? ⟨RB,1,none⟩ = some (.int .i64 xe) ∧ w'.cell? ⟨RB,2,none⟩ = some (.bool xh)) (go_keep) ((first
    | (go_at_call 115; go_must (
         refine (HSP.out _ _ _ ((Fr.refl [] W1).drew.alloc _) (blk_sl (Blk.new _ 63 #[.slice xA xn xc,.int .i64 xe,.bool xh]) 3)).mono ?_
         rintro e w3 ⟨A3,c3',rfl,hr3,hf3,hb3⟩
         have HF3:=Lib.hid (((Fr.refl [] W1).drew.alloc (.cells #[.slice xA xn xc,.int .i64 xe,.bool xh] 63)).trans hf3)
         have HR3:Hid (ORow w3 63 3 A3 c3' n (flatR ys) ∧ ∀ j,bk A3 = some j → W1.heap.size ≤ j):=⟨hr3,fun j hj => by have h1:=hb3 j hj; have h2:=((Fr.refl [] W1).drew.alloc (.cells #[.slice xA xn xc,.int .i64 xe,.bool xh] 63)).size; omega⟩
         obtain ⟨d0,d1,d2,d3⟩:=HC1.out w3 HF3.out
         clear hr3 hf3 hb3))
    | (go_at_call 114; go_must (
         refine (leaf_any A3 n c3' w3).mono ?_
         rintro e w4 ⟨rfl,hb4,hf4⟩
         have HEND:Hid (NodeAns E w 0 lo ys (.returned (.pointer (some ⟨w3.heap.size,0,none⟩))) w4):=by
           refine ⟨_,rfl,⟨HY.out.1,HY.out.2.1,A3,c3',?_,?_⟩,H1.out.1.trans (HF3.out.trans hf4)⟩
           · rw [HY.out.2.2]; exact ORow.cap HR3.out.1
           · rw [HY.out.2.2]
             exact (Kp.blk hb4 ((HE.out.fr HF3.out).new (Nat.le_refl _))).and ((kp_new HE.out (ORow.sl HR3.out.1) HR3.out.2).fr0 hf4)
         obtain ⟨f0,f1,f2,f3⟩:=HC1.out w4 (HF3.out.trans hf4)
         clear hb4 hf4))))
  all_goals go_simp
  all_goals go_wp2
  all_goals go_ret
  all_goals exact HEND.out
set_option maxRecDepth 100000 in
set_option maxHeartbeats 1600000 in
theorem set_inner (E:List (Option Nat)) (h lo g:Nat) (xs:List RV) (i:Nat) (x:RV) (w:World) (hE:Old E w) (hn:NodeAt TN E w (h + 1) lo g xs) (hi:i < xs.length) (hsm:xs.length ≤ 1000000)
    (hrec:∀ (w:World) (g:Nat) (xs:List RV) (i:Nat),Old E w → NodeAt TN E w h 3 g xs → i < xs.length → xs.length ≤ 1000000 → Calls Tryz.prog 96 #[.pointer (some ⟨g,0,none⟩),.int .i64 (i:Nat),x.val] w (NodeAns E w h 3 (xs.set i x))) :
    Calls Tryz.prog 96 #[.pointer (some ⟨g,0,none⟩),.int .i64 (i:Nat),x.val] w (NodeAns E w (h + 1) lo (xs.set i x)):=by
  obtain ⟨X,hX⟩:∃ X,X = x:=⟨_,rfl⟩
  have HREC:Hid (∀ (w:World) (g:Nat) (xs:List RV) (i:Nat),Old E w → NodeAt TN E w h 3 g xs → i < xs.length → xs.length ≤ 1000000 → Calls Tryz.prog 96 #[.pointer (some ⟨g,0,none⟩),.int .i64 (i:Nat),.agg #[.slice X.A X.n X.c,.int .i64 X.e,.bool X.h]] w (NodeAns E w h 3 (xs.set i X))):=by rw [hX]; exact hrec
  have HX:=Lib.hid hX
  rw [← hX]
  obtain ⟨xA,xn,xc,xe,xh⟩:=x
  rw [hX]
  show Calls Tryz.prog 96 #[.pointer (some ⟨g,0,none⟩),.int .i64 (i:Nat),.agg #[.slice xA xn xc,.int .i64 xe,.bool xh]] w _
  rw [← hX]
  obtain ⟨W1,hW1⟩:∃ W1,W1 = w.alloc (.cells #[.slice xA xn xc,.int .i64 xe,.bool xh] 63):=⟨_,rfl⟩
  have H1:Hid (Fr [] w W1 ∧ Blk W1 w.heap.size 63 #[.slice xA xn xc,.int .i64 xe,.bool xh]):=by
    rw [hW1]
    exact ⟨(Fr.refl [] w).alloc _,Blk.new w _ _⟩
  have hn1:=hn.fr0 H1.out.1
  have HFL:=Lib.hid (flat_inner hn1)
  obtain ⟨ks,A,c,h0,h1,h6,rfl,hc,hk,hks⟩:=hn1
  have hxs:(ks.map (·.2)).flatten = allOf ks:=rfl
  rw [hxs] at hi hsm ⊢
  have HKID:=Lib.hid (kid_any g i c A _ _ ks W1 hk.now.1 hk.now.2 hks h1 h6 (by omega))
  have HSL:=Lib.hid hk.right
  have HBK:=Lib.hid hk.left
  have HKS:=Lib.hid hks
  have HE:=Lib.hid (hE.fr H1.out.1)
  have HSM:=Lib.hid hsm
  have HI:=Lib.hid hi
  have HN:Hid (lo ≤ ks.length ∧ 1 ≤ ks.length ∧ ks.length ≤ 6 ∧ ks.length ≤ c):=⟨h0,h1,h6,hc⟩
  have hi6:(i:Int) ≤ 1000000:=by omega
  have HW1:=Lib.hid hW1
  clear hk hks hrec hE hxs hsm hi hn hW1 hX
  go_enter Tryz.func96,Tryz.ntmps96
  go_wp2_with fail
  rw [← HW1.out]
  obtain ⟨RB,hRB⟩:∃ RB,RB = w.heap.size:=⟨_,rfl⟩
  rw [← hRB] at H1
  rw [← hRB]
  clear hRB
  refine HFL.out.mono ?_
  rintro e w' ⟨rfl,rfl⟩
  clear HFL
  go_wp2_with fail
  refine HKID.out.mono ?_
  rintro e w' ⟨⟨q,j,hq,rfl,hij,hjl⟩,rfl⟩
  have hj:=kid_in ks i q j hq hij hjl HI.out
  have hkq:=HKS.out ks[q] (List.getElem_mem hq)
  have hkl:ks[q].2.length ≤ 1000000:=by
    have:=HSM.out
    rw [← sumOf_eq,sumOf_all ks q hq] at this; omega
  obtain ⟨ad,rfl,hcell⟩:=sl_ptrs HSL.out.now (j:=q) (by rw [List.length_map]; exact hq)
  rw [List.getElem_map] at hcell
  obtain ⟨g1,hg1⟩:∃ g1,g1 = ks[q].1:=⟨_,rfl⟩
  rw [← hg1] at hcell
  have HTK:Hid (∀ w',Fr [] W1 w' → Calls Tryz.prog 96 #[.pointer (some ⟨g1,0,none⟩),.int .i64 (j:Nat),.agg #[.slice xA xn xc,.int .i64 xe,.bool xh]] w' (NodeAns E w' h 3 (ks[q].2.set j X))):=by
    show ∀ _,_
    intro w' hf
    have:=HREC.out w' ks[q].1 ks[q].2 j (HE.out.fr hf) (hkq.fr0 hf) hj hkl
    rw [← hg1,HX.out] at this
    rw [HX.out]
    exact this
  have HC1:Hid (∀ w',Fr [] W1 w' → w'.cell? ⟨g,0,none⟩ = some (.slice (some ad) ks.length c) ∧ w'.cell? (ad.add q) = some (.pointer (some ⟨g1,0,none⟩)) ∧ w'.cell? ⟨RB,0,none⟩ = some (.slice xA xn xc) ∧ w'.cell? ⟨RB,1,none⟩ = some (.int .i64 xe) ∧ w'.cell? ⟨RB,2,none⟩ = some (.bool xh)):=by
    show ∀ _,_
    intro w' hf
    have h2:=H1.out.2.fr hf (by simp)
    exact ⟨(HBK.out.fr0 hf).now.cell 0,(hf.cell (World.block_lt_of_cell? _ _ hcell) (by simp)).trans hcell,h2.cell 0,h2.cell 1,h2.cell 2⟩
  have HNX:Hid (∀ g2,∃ ks',ks' = ks.take q ++ [(g2,ks[q].2.set j X)] ++ ks.drop (q + 1) ∧ ks'.length = ks.length ∧ allOf ks' = (allOf ks).set i X):=by
    show ∀ _,_
    intro g2
    refine ⟨_,rfl,by simp; omega,?_⟩
    rw [set_1 ks q j g2 X hq hj,← hij]
  have HSP:Hid (∀ w3 g2 B (d:Nat) ks',ks' = ks.take q ++ [(g2,ks[q].2.set j X)] ++ ks.drop (q + 1) → Fr [] W1 w3 → Sl w3 B (ptrs [g2]) → Calls Tryz.prog 117 #[.slice (some ad) ks.length c,.int .i64 (q:Nat),.int .i64 ((q:Int) + 1),.slice B 1 d] w3 (NewRow w3 27 1 ks'.length (ptrs (ks'.map (·.1))))):=by
    show ∀ _,_
    intro w3 g2 B d ks' hks' hf hB
    rw [hks']
    have hnn:=HN.out
    exact splice_ks (some ad) B c d q (q + 1) ks [(g2,ks[q].2.set j X)] w3 (HSL.out.now.fr hf (.inr List.not_mem_nil)) hB (by omega) (by omega) hnn.2.2.2 (by omega) (by simp)
  have HIN:Hid (∀ w2 w3 w4 g2 A' c' ks',ks' = ks.take q ++ [(g2,ks[q].2.set j X)] ++ ks.drop (q + 1) → ks'.length = ks.length → allOf ks' = (allOf ks).set i X → Fr [] W1 w2 → NodeAt TN E w2 h 3 g2 (ks[q].2.set j X) → Fr [] w2 w3 → Fr [] w3 w4 → Sl w4 A' (ptrs (ks'.map (·.1))) → (∀ j,bk A' = some j → w3.heap.size ≤ j) → ks'.length ≤ c' → Calls Tryz.prog 116 #[.slice A' ks'.length c'] w4 (NodeAns E w4 (h + 1) lo ((allOf ks).set i X))):=by
    show ∀ _,_
    intro w2 w3 w4 g2 A' c' ks' hks' hkl' hall hf12 hn2 hf hf' hs hA hc'
    have hnn:=HN.out
    rw [← hall]
    refine inner_node E h lo A' c' ks' w4 ((HE.out.fr hf12).fr (hf.trans hf')) (kp_new ((HE.out.fr hf12).fr hf) hs hA) hc' ?_ (by omega) (by omega) (by omega) (by rw [hall,List.length_set]; exact HSM.out)
    rw [hks']
    refine NodesAt.app (NodesAt.app (fun k hk => ?_) fun k hk => ?_) fun k hk => ?_
    · exact ((HKS.out k (List.mem_of_mem_take hk)).fr0 hf12).fr0 (hf.trans hf')
    · rw [List.mem_singleton] at hk; subst hk; exact hn2.fr0 (hf.trans hf')
    · exact ((HKS.out k (List.mem_of_mem_drop hk)).fr0 hf12).fr0 (hf.trans hf')
  have hq':(q:Int) < (ks.length:Int):=by omega
  have hq6:(q:Int) ≤ 6:=by have:=HN.out; omega
  have hw1:IntKind.i64.wrap ((q:Int) + 1) = (q:Int) + 1:=IntWalk.i64_in _ (by omega)
  obtain ⟨Y,hY⟩:∃ Y,Y = ks[q].2.set j X:=⟨_,rfl⟩
  rw [← hY] at HTK HNX HSP HIN
  obtain ⟨Z,hZ⟩:∃ Z,Z = (allOf ks).set i X:=⟨_,rfl⟩
  rw [← hZ] at HNX HIN
  have HZE:=Lib.hid hZ
  clear hij hj hkq hkl hjl HKID HREC hcell hg1 hY hZ h0 h1 h6 hc hq6 hi6
  obtain ⟨c0,c1,c2,c3,c4⟩:=HC1.out _ (Fr.refl _ _)
  go_wp2_with fail
  go_region_held3 (fun w' => w'.cell? ⟨g,0,none⟩ = some (.slice (some ad) ks.length c) ∧ w'.cell? (ad.add q) = some (.pointer (some ⟨g1,0,none⟩)) ∧ w'.cell? ⟨RB,0,none⟩ = some (.slice xA xn xc) ∧ w'.cell? ⟨RB,1,none⟩ = some (.int .i64 xe) ∧ w'.cell? ⟨RB,2,none⟩ = some (.bool xh)) (go_keep) ((first
    | (go_at_call 96; go_must (
         refine (HTK.out _ (Fr.refl [] W1).drew).mono ?_
         rintro e w2 ⟨g2,rfl,hn2,hf2⟩
         have HF2:=Lib.hid ((Fr.refl [] W1).drew.trans hf2)
         have HN2:=Lib.hid hn2
         obtain ⟨d0,d1,d2,d3,d4⟩:=HC1.out w2 HF2.out
         clear hn2 hf2))
    | (go_at_call 117; go_must (
         obtain ⟨ks',hks',hkl',hall'⟩:=HNX.out g2
         refine (HSP.out _ g2 _ _ ks' hks' (HF2.out.alloc _) (sl_new w2 _ _)).mono ?_
         rintro e w3 ⟨A3,c3',rfl,hr3,hf3,hb3⟩
         have HI3:=Lib.hid (HIN.out w2 _ w3 g2 A3 c3' ks' hks' hkl' hall' HF2.out HN2.out ((Fr.refl [] w2).alloc (.cells #[.pointer (some ⟨g2,0,none⟩)] 27)) hf3 (ORow.sl hr3) hb3 (ORow.cap hr3))
         have HF3:=Lib.hid ((HF2.out.alloc (.cells #[.pointer (some ⟨g2,0,none⟩)] 27)).trans hf3)
         obtain ⟨f0,f1,f2,f3,f4⟩:=HC1.out w3 HF3.out
         clear hr3 hf3 hb3 hks' hkl' hall'))
    | (go_at_call 116; go_must (
         refine HI3.out.mono ?_
         rintro e w4 ⟨g4,rfl,hn4,hf4⟩
         have HEND:Hid (NodeAns E w (h + 1) lo Z (.returned (.pointer (some ⟨g4,0,none⟩))) w4):=⟨g4,rfl,hn4,H1.out.1.trans (HF3.out.trans hf4)⟩
         obtain ⟨k0,k1,k2,k3,k4⟩:=HC1.out w4 (HF3.out.trans hf4)
         clear hn4 hf4))))
  all_goals go_simp
  all_goals go_wp2
  all_goals go_ret
  all_goals (have hend:=HEND.out; rw [HZE.out] at hend; exact hend)
theorem set_any (E:List (Option Nat)) (x:RV):∀ (h:Nat) (w:World) (lo g:Nat) (xs:List RV) (i:Nat),Old E w → NodeAt TN E w h lo g xs → i < xs.length → xs.length ≤ 1000000 →
    Calls Tryz.prog 96 #[.pointer (some ⟨g,0,none⟩),.int .i64 (i:Nat),x.val] w (NodeAns E w h lo (xs.set i x))
  | 0,w,lo,g,xs,i,hE,hn,hi,_ => set_leaf E lo g xs i x w hE hn hi
  | h + 1,w,lo,g,xs,i,hE,hn,hi,hsm => set_inner E h lo g xs i x w hE hn hi hsm fun w g xs i hE hn hi hsm => set_any E x h w 3 g xs i hE hn hi hsm
set_option maxHeartbeats 800000 in
theorem tset_yes (E:List (Option Nat)) (p:Option Addr) (xs:List RV) (i:Nat) (x:RV) (w:World) (ht:TreeAt TN E w p xs) (hE:Old E w) (hi:i < xs.length) (hn:xs.length ≤ 100000) :
    Calls Tryz.prog 51 #[.agg #[.pointer p],.int .i64 (i:Nat),x.val] w (TreeOk E w (xs.set i x) true):=by
  obtain ⟨xA,xn,xc,xe,xh⟩:=x
  show Calls Tryz.prog 51 #[.agg #[.pointer p],.int .i64 (i:Nat),.agg #[.slice xA xn xc,.int .i64 xe,.bool xh]] w _
  obtain ⟨W1,hW1⟩:∃ W1,W1 = ((w.alloc (.cells #[.pointer p] 29)).alloc (.cells #[.slice xA xn xc,.int .i64 xe,.bool xh] 63)).alloc (.cells #[.pointer none] 29):=⟨_,rfl⟩
  have HW:Hid (Fr [] w W1 ∧ Blk W1 w.heap.size 29 #[.pointer p] ∧ Blk W1 (w.heap.size + 1) 63 #[.slice xA xn xc,.int .i64 xe,.bool xh] ∧ Blk W1 (w.heap.size + 1 + 1) 29 #[.pointer none]):=by
    have b1:=(Blk.new (w.alloc (.cells #[.pointer p] 29)) 63 #[.slice xA xn xc,.int .i64 xe,.bool xh]).alloc (.cells #[.pointer none] 29)
    have b2:=Blk.new ((w.alloc (.cells #[.pointer p] 29)).alloc (.cells #[.slice xA xn xc,.int .i64 xe,.bool xh] 63)) 29 #[.pointer none]
    simp only [World.size_alloc] at b1 b2
    rw [← hW1] at b1 b2
    exact ⟨by rw [hW1]; exact (((Fr.refl [] w).alloc _).alloc _).alloc _,by rw [hW1]; exact ((Blk.new w _ _).alloc _).alloc _,b1,b2⟩
  have HH:Hid (Calls Tryz.prog 82 #[.agg #[.pointer p],.int .i64 (i:Nat)] W1 fun e w'' => e = .returned (.bool true) ∧ Fr [] W1 w''):=by
    show Calls _ _ _ _ _
    refine (has_any E p xs (i:Nat) W1 (ht.fr0 HW.out.1)).mono ?_
    rintro e w'' ⟨h1,h2⟩
    exact ⟨by rw [h1,decide_eq_true (by omega)],h2⟩
  rcases ht with ⟨rfl,rfl⟩ | ⟨g,h,rfl,hnd⟩
  · simp at hi
  obtain ⟨L,hL⟩:∃ L,L = w.heap.size + 1 + 1:=⟨_,rfl⟩
  obtain ⟨RB,hRB⟩:∃ RB,RB = w.heap.size + 1:=⟨_,rfl⟩
  have HLN:Hid (L = w.heap.size + 1 + 1):=hL
  rw [← hL,← hRB] at HW
  have HTK:Hid (∀ w1,Fr [] W1 w1 → Calls Tryz.prog 96 #[.pointer (some ⟨g,0,none⟩),.int .i64 (i:Nat),.agg #[.slice xA xn xc,.int .i64 xe,.bool xh]] w1 (NodeAns (some L :: E) w1 h (rootLo h) (xs.set i ⟨xA,xn,xc,xe,xh⟩))):=by
    show ∀ _,_
    intro w1 hf
    have hl:=(HW.out.2.2.2.fr hf (by simp)).lt
    refine set_any (some L :: E) ⟨xA,xn,xc,xe,xh⟩ h w1 (rootLo h) g xs i (old_box1 hE (HW.out.1.trans hf) hl) (NodeAt.grow (HW.out.1.trans hf).of_nil (fun k hk => ?_) _ _ _ _ hnd) hi (by omega)
    rcases List.mem_cons.1 hk with h | h
    · injection h with h; exact .inr (by omega)
    · exact .inl h
  have HOUT:Hid (∀ w2 p u,TreeAt TN (some L :: E) w2 p (xs.set i ⟨xA,xn,xc,xe,xh⟩) → TreeAt TN E (w2.setCell ⟨L,0,none⟩ u) p (xs.set i ⟨xA,xn,xc,xe,xh⟩)):=by
    show ∀ _,_
    intro w2 p u ht2
    exact box_out ht2 0 u
  obtain ⟨ys,hys⟩:∃ ys,ys = xs.set i ⟨xA,xn,xc,xe,xh⟩:=⟨_,rfl⟩
  rw [← hys] at HTK HOUT ⊢
  have HW1:=Lib.hid hW1
  clear hnd hE hi hn hys hW1
  go_enter Tryz.func51,Tryz.ntmps51
  go_wp2_with fail
  rw [← HW1.out,← hL,← hRB]
  clear hL hRB
  refine HH.out.mono ?_
  rintro e w1 ⟨rfl,hf1⟩
  have hb1:=HW.out.2.1.fr hf1 (by simp)
  have hb2:=HW.out.2.2.1.fr hf1 (by simp)
  have d0:w1.cell? ⟨w.heap.size,0,none⟩ = some (.pointer (some ⟨g,0,none⟩)):=hb1.cell 0
  have d1:w1.cell? ⟨RB,0,none⟩ = some (.slice xA xn xc):=hb2.cell 0
  have d2:w1.cell? ⟨RB,1,none⟩ = some (.int .i64 xe):=hb2.cell 1
  have d3:w1.cell? ⟨RB,2,none⟩ = some (.bool xh):=hb2.cell 2
  have HF1:=Lib.hid hf1
  clear hf1 hb1 hb2 HH
  go_wp2_with fail
  refine (HTK.out w1 HF1.out).mono ?_
  rintro e w2 ⟨g',rfl,hn',hf2⟩
  have HF2:=Lib.hid (HF1.out.trans hf2)
  have HT2:Hid (TreeAt TN (some L :: E) w2 (some ⟨g',0,none⟩) ys):=.inr ⟨g',h,rfl,hn'⟩
  have hb3:=HW.out.2.2.2.fr HF2.out (by simp)
  have e0:w2.cell? ⟨L,0,none⟩ = some (.pointer none):=hb3.cell 0
  have f0:=hb3.frozen 0
  have hlt:=hb3.lt
  clear hb3 hn' hf2 d0 d1 d2 d3
  go_wp2_with fail
  refine bodyPost_ret (v:=.tuple #[.agg #[.pointer (some ⟨g',0,none⟩)],.bool true]) (by simp [results,Tryz.results51,go_sem,e0,f0,hlt]) rfl ⟨_,rfl,HOUT.out _ _ _ HT2.out,?_⟩
  exact (HW.out.1.trans HF2.out).setB (g:=L) (fun h => absurd h (by have:=HLN.out; omega)) 0 _
end Go.Proofs.YteohomdiklkbfaaGreat
