import Derived.Test.YteohomdiklkbfaaGreatA15
import Derived.Deep.LoopGhost
namespace Go.Proofs.YteohomdiklkbfaaGreat
open Go.RowKit Go.Proofs.Dm

theorem allOf_split (ks:List (Nat × List RV)) (k:Nat) (hk:k < ks.length):allOf ks = allOf (ks.take k) ++ (ks[k].2 ++ allOf (ks.drop (k + 1))):=by
  conv => lhs; rw [← List.take_append_drop k ks,allOf_app,List.drop_eq_getElem_cons hk]
  simp only [allOf,List.map_cons,List.flatten_cons]
theorem sumOf_all (ks:List (Nat × List RV)) (k:Nat) (hk:k < ks.length):sumOf ks = sumOf (ks.take k) + ks[k].2.length + sumOf (ks.drop (k + 1)):=by
  rw [sumOf_eq,allOf_split ks k hk,List.length_append,List.length_append,← sumOf_eq,← sumOf_eq]; omega
theorem kid_in (ks:List (Nat × List RV)) (i k j:Nat) (hk:k < ks.length) (he:i = sumOf (ks.take k) + j) (hl:j < ks[k].2.length ∨ k + 1 = ks.length) (hi:i < (allOf ks).length):j < ks[k].2.length:=by
  rcases hl with h | h
  · exact h
  · rw [← sumOf_eq,sumOf_all ks k hk,List.drop_eq_nil_of_le (by omega)] at hi
    simp [sumOf] at hi he ⊢
    omega
theorem allOf_get (ks:List (Nat × List RV)) (k j:Nat) (hk:k < ks.length) (hj:j < ks[k].2.length):(allOf ks)[sumOf (ks.take k) + j]? = ks[k].2[j]?:=by
  rw [allOf_split ks k hk,sumOf_eq,List.getElem?_append_right (by omega),Nat.add_sub_cancel_left,List.getElem?_append_left hj]
theorem sl_rows {w:World} {A:Option Addr} {xs:List RV} (h:Sl w A (flatR xs)) {j:Nat} (hj:j < xs.length) :
    ∃ ad:Addr,A = some ad ∧ w.cell? (ad.add (j * 3)) = some (.slice xs[j].A xs[j].n xs[j].c) ∧ w.cell? ⟨(ad.add (j * 3)).block,(ad.add (j * 3)).off + 1,none⟩ = some (.int .i64 xs[j].e) ∧ w.cell? ⟨(ad.add (j * 3)).block,(ad.add (j * 3)).off + 2,none⟩ = some (.bool xs[j].h):=by
  have h1:=flatR_get xs j 0 hj (by omega)
  have h2:=flatR_get xs j 1 hj (by omega)
  have h3:=flatR_get xs j 2 hj (by omega)
  have hadd:∀ (a:Addr) (i k:Nat),a.add (i + (k + 1)) = ⟨(a.add i).block,(a.add i).off + (k + 1),none⟩:=by
    intro a i k
    unfold Addr.add
    by_cases hi:i = 0 <;> simp [hi] <;> omega
  rcases h with h | ⟨ad,rfl,hc⟩
  · rw [h] at h1; simp [RV.cells] at h1
  · have e1:=hc _ _ h1
    have e2:=hc _ _ h2
    have e3:=hc _ _ h3
    rw [hadd ad (j * 3) 0] at e2
    rw [hadd ad (j * 3) 1] at e3
    exact ⟨ad,rfl,by simpa using e1,e2,e3⟩
set_option maxRecDepth 100000 in
set_option maxHeartbeats 1600000 in
theorem at_yes {E:List (Option Nat)} (p:Option Addr) (xs:List RV) (i:Nat) (w:World) (ht:TreeAt TN E w p xs) (hi:i < xs.length) (hn:xs.length ≤ 100000) :
    Calls Tryz.prog 39 #[.agg #[.pointer p],.int .i64 (i:Nat)] w fun e w' => e = .returned (.tuple #[xs[i].val,.bool true]) ∧ Fr [] w w':=by
  have HH:Hid (∀ w',Fr [] w w' → Calls Tryz.prog 82 #[.agg #[.pointer p],.int .i64 (i:Nat)] w' fun e w'' => e = .returned (.bool true) ∧ Fr [] w' w''):=by
    show ∀ _,_
    intro w' hf
    refine (has_any E p xs (i:Nat) w' (ht.fr0 hf)).mono ?_
    rintro e w'' ⟨h1,h2⟩
    exact ⟨by rw [h1,decide_eq_true (by omega)],h2⟩
  have hx:xs[i]? = some xs[i]:=List.getElem?_eq_getElem hi
  obtain ⟨r,hr⟩:∃ r,r = xs[i]:=⟨_,rfl⟩
  rw [← hr] at hx ⊢
  rcases ht with ⟨rfl,rfl⟩ | ⟨g,h,rfl,hnd⟩
  · simp at hi
  have HN0:=Lib.hid hnd
  have HX:=Lib.hid hx
  have H0:Hid (Fr [] w ((w.alloc (.cells #[.pointer (some ⟨g,0,none⟩)] 29)).alloc (.cells #[.slice none 0 0,.int .i64 0,.bool false] 63))):=((Fr.refl [] w).alloc _).alloc _
  have HB1:Hid (Blk ((w.alloc (.cells #[.pointer (some ⟨g,0,none⟩)] 29)).alloc (.cells #[.slice none 0 0,.int .i64 0,.bool false] 63)) w.heap.size 29 #[.pointer (some ⟨g,0,none⟩)]):=(Blk.new w _ _).alloc _
  have HB2:Hid (Blk ((w.alloc (.cells #[.pointer (some ⟨g,0,none⟩)] 29)).alloc (.cells #[.slice none 0 0,.int .i64 0,.bool false] 63)) (w.heap.size + 1) 63 #[.slice none 0 0,.int .i64 0,.bool false]):=by
    have:=Blk.new (w.alloc (.cells #[.pointer (some ⟨g,0,none⟩)] 29)) 63 #[.slice none 0 0,.int .i64 0,.bool false]
    show Blk _ _ _ _
    simpa using this
  have hi2:(i:Int) ≤ 100000:=by omega
  clear hnd hx hr hi hn
  go_enter Tryz.func39,Tryz.ntmps39
  go_wp2_with fail
  refine (HH.out _ H0.out).mono ?_
  rintro e w1 ⟨rfl,hf1⟩
  have hb1:=HB1.out.fr hf1 (by simp)
  have hb2:=HB2.out.fr hf1 (by simp)
  have HN1:=Lib.hid (HN0.out.fr0 (H0.out.trans hf1))
  have HF1:=Lib.hid (H0.out.trans hf1)
  have c0:w1.cell? ⟨w.heap.size,0,none⟩ = some (.pointer (some ⟨g,0,none⟩)):=hb1.cell 0
  have HB:=Lib.hid hb2
  clear hf1 hb1 hb2 HB1 HB2 HN0 HH
  go_wp2_with fail
  go_loopg [7,1] h (fun k nv iv wr => w1 = wr ∧ ∃ (g lo:Nat) (xs:List RV) (i:Nat),nv = .pointer (some ⟨g,0,none⟩) ∧ iv = .int .i64 i ∧ i ≤ 100000 ∧ Hid (NodeAt TN E w1 k lo g xs) ∧ Hid (xs[i]? = some r))
  case atStart => exact ⟨rfl,g,_,xs,i,rfl,rfl,by omega,HN1.out,HX.out⟩
  case round =>
    obtain ⟨rfl,g,lo,xs,i,rfl,rfl,hi,HN,HX⟩:=hrel
    clear HN1 hi2 c0
    cases gk with
    | zero =>
      have HFL:=Lib.hid (flat_leaf HN.out)
      obtain ⟨_,h6,A,c,hc,hk⟩:=HN.out
      have c1:w1.cell? ⟨g,1,none⟩ = some (.slice A xs.length c):=hk.now.1.cell 1
      have hil:i < xs.length:=by
        rcases Nat.lt_or_ge i xs.length with h | h
        · exact h
        · have:=HX.out; rw [List.getElem?_eq_none h] at this; cases this
      have hxr:xs[i] = r:=by have:=HX.out; rw [List.getElem?_eq_getElem hil] at this; injection this
      obtain ⟨ad,rfl,d0,d1,d2⟩:=sl_rows hk.now.2 hil
      rw [hxr] at d0 d1 d2
      obtain ⟨rA,rn,rc,re,rh⟩:=r
      simp only at d0 d1 d2
      have hbb:=HB.out
      have e0:w1.cell? ⟨w.heap.size + 1,0,none⟩ = some (.slice none 0 0):=hbb.cell 0
      have e1:w1.cell? ⟨w.heap.size + 1,1,none⟩ = some (.int .i64 0):=hbb.cell 1
      have e2:w1.cell? ⟨w.heap.size + 1,2,none⟩ = some (.bool false):=hbb.cell 2
      have f0:=hbb.frozen 0
      have f1:=hbb.frozen 1
      have f2:=hbb.frozen 2
      have hlt:=hbb.lt
      have hil':(i:Int) < (xs.length:Int):=by omega
      clear hk hxr HX HN hbb hil
      go_wp2_with fail
      refine HFL.out.mono ?_
      rintro e w' ⟨rfl,rfl⟩
      go_wp2_with fail
      refine bodyPost_ret (v:=.tuple #[.agg #[.slice rA rn rc,.int .i64 re,.bool rh],.bool true]) (by simp [results,Tryz.results39,go_sem,e0,e1,e2,f0,f1,f2,hlt]) rfl ⟨rfl,?_⟩
      exact ((HF1.out.setB (g:=w.heap.size + 1) (by omega) 0 _).setB (g:=w.heap.size + 1) (by omega) 1 _).setB (g:=w.heap.size + 1) (by omega) 2 _
    | succ k =>
      have HFL:=Lib.hid (flat_inner HN.out)
      obtain ⟨ks,A,c,_,h1,h6,rfl,_,hk,hks⟩:=HN.out
      have hil:i < (allOf ks).length:=by
        rcases Nat.lt_or_ge i (allOf ks).length with h | h
        · exact h
        · have:=HX.out; rw [show (List.map (fun x => x.2) ks).flatten = allOf ks from rfl,List.getElem?_eq_none h] at this; cases this
      have HKID:=Lib.hid (kid_any g i c A _ _ ks w1 hk.now.1 hk.now.2 hks h1 h6 (by omega))
      have hc:w1.cell? ⟨g,0,none⟩ = some (.slice A ks.length c):=hk.now.1.cell 0
      have HSL:=Lib.hid hk.now.2
      have HKS:=Lib.hid hks
      clear hk hks
      go_wp2_with fail
      refine HFL.out.mono ?_
      rintro e w' ⟨rfl,rfl⟩
      go_wp2_with fail
      refine HKID.out.mono ?_
      rintro e w' ⟨⟨q,j,hq,rfl,hij,hjl⟩,rfl⟩
      have hj:=kid_in ks i q j hq hij hjl hil
      obtain ⟨ad,rfl,hcell⟩:=sl_ptrs HSL.out (j:=q) (by rw [List.length_map]; exact hq)
      rw [List.getElem_map] at hcell
      have HNX:Hid (NodeAt TN E w1 k 3 ks[q].1 ks[q].2 ∧ ks[q].2[j]? = some r ∧ j ≤ i):=by
        refine ⟨HKS.out ks[q] (List.getElem_mem hq),?_,by omega⟩
        rw [← allOf_get ks q j hq hj,← hij]
        exact HX.out
      obtain ⟨kg,hkg⟩:∃ kg,kg = ks[q].1:=⟨_,rfl⟩
      obtain ⟨kx,hkx⟩:∃ kx,kx = ks[q].2:=⟨_,rfl⟩
      rw [← hkg] at hcell HNX
      rw [← hkx] at HNX
      have hq':(q:Int) < (ks.length:Int):=by omega
      have hji:=HNX.out.2.2
      clear hkg hkx hj hij hjl HX HN hq
      go_wp2_with fail
      go_roundg k
      case rel => exact ⟨rfl,kg,3,kx,j,rfl,rfl,by omega,HNX.out.1,HNX.out.2.1⟩
      case measure => omega
end Go.Proofs.YteohomdiklkbfaaGreat
namespace Go.Proofs.YteohomdiklkbfaaGreat
open Go.RowKit Go.Proofs.Dm

def TreeAns (E:List (Option Nat)) (w:World) (xs:List RV) (en:Ending) (w':World):Prop:=∃ p,en = .returned (.agg #[.pointer p]) ∧ TreeAt TN E w' p xs ∧ Fr [] w w'
def RV.none:RV:=⟨.none,0,0,0,false⟩
theorem allOf_cuts (ks:List (Nat × List RV)) (ls:List (Nat × List RV)) (h:ls.map (·.2) = (cutsP ks).map allOf):allOf ls = allOf ks:=by
  unfold allOf
  rw [h]
  conv => rhs; rw [← cutsP_flat ks]
  simp only [List.map_flatten,List.flatten_flatten,List.map_map]
  rfl
set_option maxRecDepth 100000 in
set_option maxHeartbeats 1600000 in
theorem above_any (E:List (Option Nat)) (A:Option Addr) (c h:Nat) (ks:List (Nat × List RV)) (w:World) (hE:Old E w) (hs:Kp E w fun w => Sl w A (ptrs (ks.map (·.1)))) (hc:ks.length ≤ c) (hn:ks.length ≤ 10000) (hN:NodesAt TN E w h 0 ks) (hN3:2 ≤ ks.length → NodesAt TN E w h 3 ks) (hsm:(allOf ks).length ≤ 1000000) :
    Calls Tryz.prog 101 #[.slice A ks.length c] w (TreeAns E w (allOf ks)):=by
  obtain ⟨xs,hxs⟩:∃ xs,xs = allOf ks:=⟨_,rfl⟩
  rw [← hxs] at hsm ⊢
  have H0:Hid (Fr [] w (w.alloc (.cells #[.pointer none] 29))):=(Fr.refl [] w).alloc _
  have HB0:Hid (Blk (w.alloc (.cells #[.pointer none] 29)) w.heap.size 29 #[.pointer none]):=Blk.new w _ _
  obtain ⟨E2,hE2⟩:∃ E2,E2 = some w.heap.size :: E:=⟨_,rfl⟩
  have HG:Hid (∀ k,some k ∈ E2 → some k ∈ E ∨ w.heap.size ≤ k):=by
    show ∀ _,_
    intro k hk
    rw [hE2] at hk
    rcases List.mem_cons.1 hk with h | h
    · injection h with h; exact .inr (Nat.le_of_eq h.symm)
    · exact .inl h
  have HSM:=Lib.hid hsm
  have HSL:Hid (Kp E2 (w.alloc (.cells #[.pointer none] 29)) fun w => Sl w A (ptrs (ks.map (·.1)))):=Kp.grow hs H0.out.of_nil HG.out
  have HN:Hid (NodesAt TN E2 (w.alloc (.cells #[.pointer none] 29)) h 0 ks):=fun k hk => NodeAt.grow H0.out.of_nil HG.out _ _ _ _ (hN k hk)
  have HN3:Hid (2 ≤ ks.length → NodesAt TN E2 (w.alloc (.cells #[.pointer none] 29)) h 3 ks):=fun h2 k hk => NodeAt.grow H0.out.of_nil HG.out _ _ _ _ (hN3 h2 k hk)
  have HXS:=Lib.hid hxs
  have HE:Hid (∀ wr,Fr [] w wr → w.heap.size < wr.heap.size → Old E2 wr):=by
    show ∀ _,_
    intro wr hf hl k hk
    rcases HG.out k hk with h | h
    · have:=hE k h; have:=hf.size; omega
    · rw [hE2] at hk
      rcases List.mem_cons.1 hk with h | h
      · injection h with h; omega
      · have:=hE k h; have:=hf.size; omega
  have HIE:Hid (some w.heap.size ∈ E2 ∧ ∀ k,some k ∈ E → some k ∈ E2):=by rw [hE2]; exact ⟨List.mem_cons_self ..,fun k h => List.mem_cons_of_mem _ h⟩
  clear hsm hs hN hN3 hxs hE hE2 HG
  go_enter Tryz.func101,Tryz.ntmps101
  go_wp2_with fail
  go_loopg [0] ks.length (fun m lv wr => ∃ (h:Nat) (ks:List (Nat × List RV)) (A:Option Addr) (c:Nat),lv = .slice A ks.length c ∧ m = ks.length ∧ ks.length ≤ c ∧ ks.length ≤ 10000 ∧ Hid (xs = allOf ks) ∧ Hid (Kp E2 wr fun w => Sl w A (ptrs (ks.map (·.1)))) ∧ Hid (NodesAt TN E2 wr h 0 ks) ∧ Hid (2 ≤ ks.length → NodesAt TN E2 wr h 3 ks) ∧ Hid (Fr [] w wr) ∧ Hid (Blk wr w.heap.size 29 #[.pointer none]))
  case atStart => exact ⟨h,ks,A,c,rfl,rfl,hc,hn,HXS.out,HSL.out,HN.out,HN3.out,H0.out,HB0.out⟩
  case round =>
    clear HXS HSL HN HN3 H0 HB0 hc hn
    obtain ⟨h,ks,A,c,rfl,rfl,hc,hn,HXS,HSL,HN,HN3,HF,HB⟩:=hrel
    by_cases hlt:1 < ks.length
    · have HIN:=Lib.hid (inners_any E2 A c h ks (min 3 ks.length) wr (HE.out wr HF.out HB.out.lt) HSL.out.now hc hn (HN3.out hlt) (by rw [sumOf_eq,← HXS.out]; exact HSM.out) (cutsP_lo ks _ (Nat.min_le_right _ _) (Nat.min_le_left _ _)))
      go_wp2_with fail
      refine HIN.out.mono ?_
      rintro e w2 ⟨ls,B,d,rfl,hls,hB,hd,hNs,hf2⟩
      have hll:ls.length = (ks.length + 5) / 6:=by
        have:=congrArg List.length hls
        simpa [cutsP_len] using this
      have HLL:=Lib.hid hll
      have HLS:=Lib.hid hls
      have HBB:=Lib.hid hB
      have HNS:=Lib.hid hNs
      have HF2:=Lib.hid hf2
      clear hls hB hNs hf2 HIN hll
      go_wp2_with fail
      go_roundg ls.length
      case rel =>
        have hll:=HLL.out
        refine ⟨h + 1,ls,B,d,rfl,rfl,hd,by omega,by show _ = _; rw [allOf_cuts ks ls HLS.out]; exact HXS.out,HBB.out,fun k hk => (HNS.out k hk).less (Nat.zero_le _),fun h2 k hk => (HNS.out k hk).less (by omega),HF.out.trans HF2.out,HB.out.fr HF2.out (by simp)⟩
      case measure => have:=HLL.out; omega
    · rcases Nat.eq_zero_or_pos ks.length with h0 | h0
      · obtain rfl:=List.eq_nil_of_length_eq_zero h0
        have hbb:=HB.out
        have e0:wr.cell? ⟨w.heap.size,0,none⟩ = some (.pointer none):=hbb.cell 0
        have f0:=hbb.frozen 0
        have hl:=hbb.lt
        clear hlt hbb
        go_wp2_with fail
        refine bodyPost_ret (v:=.agg #[.pointer none]) (by simp [results,Tryz.results101,go_sem,e0,f0,hl]) rfl ⟨none,rfl,.inl ⟨rfl,HXS.out⟩,?_⟩
        exact HF.out.setB (g:=w.heap.size) (by omega) 0 _
      · obtain ⟨⟨kg,kx⟩,rfl⟩:∃ k,ks = [k]:=by
          match ks,h0,hlt with
          | [k],_,_ => exact ⟨k,rfl⟩
          | _ :: _ :: _,_,h => simp at h
        have hX:xs = kx:=by rw [HXS.out]; simp [allOf]
        subst hX
        have HN1:=Lib.hid (HN.out (kg,xs) (List.mem_singleton.2 rfl))
        have hc2:wr.cell? ⟨kg,2,none⟩ = some (.int .i64 (xs.length:Nat)):=HN1.out.cell2
        obtain ⟨ad,rfl,hcell⟩:=sl_ptrs HSL.out.now (j:=0) (by simp)
        simp only [List.map_cons,List.getElem_cons_zero] at hcell
        have hz:ad.add 0 = ad:=by simp [Addr.add]
        rw [hz] at hcell
        have hbb:=HB.out
        have e0:wr.cell? ⟨w.heap.size,0,none⟩ = some (.pointer none):=hbb.cell 0
        have f0:=hbb.frozen 0
        have hl:=hbb.lt
        have HBL:=Lib.hid hbb
        clear hlt h0 hz hbb HN HN3 HSL HB
        rcases Nat.eq_zero_or_pos xs.length with hx | hx
        · have HX0:Hid (xs = []):=List.eq_nil_of_length_eq_zero hx
          have hx':((xs.length:Int) == 0) = true:=by simp [hx]
          go_wp2_with fail
          refine bodyPost_ret (v:=.agg #[.pointer none]) (by simp [results,Tryz.results101,go_sem,e0,f0,hl]) rfl ⟨none,rfl,.inl ⟨rfl,HX0.out⟩,?_⟩
          exact HF.out.setB (g:=w.heap.size) (by omega) 0 _
        · have hx':((xs.length:Int) == 0) = false:=by simpa using (show (xs.length:Int) ≠ 0 by omega)
          have HEND:Hid (∀ g k,NodeAt TN E2 wr k (rootLo k) g xs → TreeAns E w xs (.returned (.agg #[.pointer (some ⟨g,0,none⟩)])) (wr.setCell ⟨w.heap.size,0,none⟩ (.pointer (some ⟨g,0,none⟩)))):=by
            show ∀ _,_
            intro g k hn
            have hf:Fr [some w.heap.size] wr (wr.setCell ⟨w.heap.size,0,none⟩ (.pointer (some ⟨g,0,none⟩))):=(Fr.refl _ wr).setB (g:=w.heap.size) (by simp) 0 _
            refine ⟨_,rfl,.inr ⟨g,k,rfl,?_⟩,HF.out.setB (g:=w.heap.size) (by omega) 0 _⟩
            exact NodeAt.grow (E:=E2) (hf.weaken fun i _ h => by rw [List.mem_singleton] at h; rw [h]; exact HIE.out.1) (fun k h => .inl (HIE.out.2 k h)) _ _ _ _ hn
          go_wp2_with fail
          go_loopg [3] h (fun k nv wx => wr = wx ∧ ∃ g,nv = .pointer (some ⟨g,0,none⟩) ∧ Hid (NodeAt TN E2 wr k 0 g xs))
          case atStart => exact ⟨rfl,kg,rfl,HN1.out⟩
          case round =>
            clear HN1 hc2 hcell
            obtain ⟨rfl,g,rfl,HN⟩:=hrel
            cases gk with
            | zero =>
              obtain ⟨_,h6,A,c',hc',hk⟩:=HN.out
              have c0:wr.cell? ⟨g,0,none⟩ = some (.slice none 0 0):=hk.now.1.cell 0
              have HR:Hid (NodeAt TN E2 wr 0 (rootLo 0) g xs):=⟨hx,h6,A,c',hc',hk⟩
              clear hk HN
              go_wp2_with fail
              refine bodyPost_ret (v:=.agg #[.pointer (some ⟨g,0,none⟩)]) (by simp [results,Tryz.results101,go_sem,e0,f0,hl]) rfl (HEND.out g 0 HR.out)
            | succ k =>
              obtain ⟨ks,A,c',h0,h1,h6,hxs,hc',hk,hks⟩:=HN.out
              have c0:wr.cell? ⟨g,0,none⟩ = some (.slice A ks.length c'):=hk.now.1.cell 0
              obtain ⟨a2,rfl,hcell⟩:=sl_ptrs hk.now.2 (j:=0) (by rw [List.length_map]; omega)
              rw [List.getElem_map] at hcell
              have hz:a2.add 0 = a2:=by simp [Addr.add]
              rw [hz] at hcell
              by_cases h2:ks.length = 1
              · obtain ⟨⟨qg,qx⟩,rfl⟩:∃ k,ks = [k]:=by
                  match ks,h2 with
                  | [k],_ => exact ⟨k,rfl⟩
                have hX:xs = qx:=by rw [hxs]; simp
                subst hX
                have HQ:=Lib.hid ((hks (qg,xs) (List.mem_singleton.2 rfl)).less (Nat.zero_le 3))
                simp only [List.getElem_cons_zero] at hcell
                clear hk hks hxs hz h2 HN
                go_wp2_with fail
                go_roundg k
                case rel => exact ⟨rfl,qg,rfl,HQ.out⟩
                case measure => omega
              · have HR:Hid (NodeAt TN E2 wr (k + 1) (rootLo (k + 1)) g xs):=⟨ks,some a2,c',by show 2 ≤ _; omega,h1,h6,hxs,hc',hk,hks⟩
                have hne:((ks.length:Int) == 1) = false:=by simpa using (show (ks.length:Int) ≠ 1 by omega)
                clear hk hks hxs hz h2 HN hcell
                go_wp2_with fail
                refine bodyPost_ret (v:=.agg #[.pointer (some ⟨g,0,none⟩)]) (by simp [results,Tryz.results101,go_sem,e0,f0,hl]) rfl (HEND.out g (k + 1) HR.out)
end Go.Proofs.YteohomdiklkbfaaGreat
namespace Go.Proofs.YteohomdiklkbfaaGreat
open Go.RowKit Go.Proofs.Dm

theorem box_out {E:List (Option Nat)} {w:World} {b:Nat} {p:Option Addr} {xs:List RV} (h:TreeAt TN (some b :: E) w p xs) (i:Nat) (u:Value):TreeAt TN E (w.setCell ⟨b,i,none⟩ u) p xs :=
  h.grow ((Fr.refl _ w).setB (g:=b) (fun _ => List.mem_cons_self ..) i u) fun k hk => .inl (List.mem_cons_of_mem _ hk)
theorem old_box {E:List (Option Nat)} {w:World} (h:Old E w) {wr:World} (hf:Fr [] w wr) (hl:w.heap.size < wr.heap.size):Old (some w.heap.size :: E) wr:=fun k hk => by
  rcases List.mem_cons.1 hk with h' | h'
  · injection h' with h'; omega
  · have:=h k h'; have:=hf.size; omega
set_option maxHeartbeats 800000 in
theorem of_any (E:List (Option Nat)) (A:Option Addr) (c:Nat) (xs:List RV) (w:World) (hE:Old E w) (hs:Sl w A (flatR xs)) (hc:xs.length ≤ c) (hn:xs.length ≤ 10000) :
    Calls Tryz.prog 58 #[.slice A xs.length c] w (TreeAns E w xs):=by
  have HE:Hid (∀ wr,Fr [] w wr → w.heap.size < wr.heap.size → Old (some w.heap.size :: E) wr):=fun wr h1 h2 => old_box hE h1 h2
  obtain ⟨E2,hE2⟩:∃ E2,E2 = some w.heap.size :: E:=⟨_,rfl⟩
  rw [← hE2] at HE
  have HL:Hid (∀ w',Fr [] w w' → w.heap.size < w'.heap.size → Calls Tryz.prog 102 #[.slice A xs.length c] w' (NodesAns E2 w' 0 (min 3 xs.length) (cutsP xs))):=by
    show ∀ _,_
    intro w' hf hl
    exact leaves_any E2 A c xs _ w' (HE.out w' hf hl) (hs.fr hf (.inr List.not_mem_nil)) hc hn (cutsP_lo xs _ (Nat.min_le_right _ _) (Nat.min_le_left _ _))
  have HX:Hid (∀ ks:List (Nat × List RV),ks.map (·.2) = cutsP xs → allOf ks = xs ∧ ks.length = (xs.length + 5) / 6):=by
    show ∀ _,_
    intro ks h
    refine ⟨by unfold allOf; rw [h,cutsP_flat],?_⟩
    have:=congrArg List.length h
    simpa [cutsP_len] using this
  have HOUT:Hid (∀ w2 p u,TreeAt TN E2 w2 p xs → TreeAt TN E (w2.setCell ⟨w.heap.size,0,none⟩ u) p xs):=by
    show ∀ _,_
    intro w2 p u h
    rw [hE2] at h
    exact box_out h 0 u
  have H0:Hid (Fr [] w (w.alloc (.cells #[.pointer none] 29))):=(Fr.refl [] w).alloc _
  have HB0:Hid (Blk (w.alloc (.cells #[.pointer none] 29)) w.heap.size 29 #[.pointer none]):=Blk.new w _ _
  clear hE hs hE2
  have HN:=Lib.hid hn
  go_enter Tryz.func58,Tryz.ntmps58
  go_wp2_with fail
  refine (HL.out _ H0.out (by simp)).mono ?_
  rintro e w1 ⟨ks,B,d,rfl,hks,hB,hd,hN,hf⟩
  have hb1:=HB0.out.fr hf (by simp)
  have hF1:=H0.out.trans hf
  have HA:=Lib.hid (above_any E2 B d 0 ks w1 (HE.out w1 hF1 hb1.lt) hB hd (by have:=(HX.out ks hks).2; have:=HN.out; omega) (fun k hk => (hN k hk).less (Nat.zero_le _)) (fun h2 k hk => (hN k hk).less (by have:=(HX.out ks hks).2; omega)) (by rw [(HX.out ks hks).1]; have:=HN.out; omega))
  rw [(HX.out ks hks).1] at HA
  have HF:=Lib.hid hF1
  have HB1:=Lib.hid hb1
  clear hks hB hd hN hf hF1 hb1
  go_wp2_with fail
  refine HA.out.mono ?_
  rintro e w2 ⟨p,rfl,ht,hf2⟩
  have hb2:=HB1.out.fr hf2 (by simp)
  have e0:w2.cell? ⟨w.heap.size,0,none⟩ = some (.pointer none):=hb2.cell 0
  have f0:=hb2.frozen 0
  have hl:=hb2.lt
  have HF2:=Lib.hid (HF.out.trans hf2)
  have HT:=Lib.hid ht
  clear hf2 ht hb2
  go_wp2_with fail
  refine bodyPost_ret (v:=.agg #[.pointer p]) (by simp [results,Tryz.results58,go_sem,e0,f0,hl]) rfl ⟨p,rfl,HOUT.out _ _ _ HT.out,?_⟩
  exact HF2.out.setB (g:=w.heap.size) (by omega) 0 _
end Go.Proofs.YteohomdiklkbfaaGreat
