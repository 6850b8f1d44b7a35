import Derived.Test.YteohomdiklkbfaaGreatA13
import Derived.Test.YteohomdiklkbfaaGreatA14
import Derived.RegionTactic
import Derived.ChangeAlike
namespace Go.Proofs.YteohomdiklkbfaaGreat
open Go.RowKit Go.Proofs.Dm

abbrev TN:TypeId:=160
theorem leaf_any (A:Option Addr) (n c:Nat) (w:World) :
    Calls Tryz.prog 114 #[.slice A n c] w fun e w' => e = .returned (.pointer (some ⟨w.heap.size,0,none⟩)) ∧ Blk w' w.heap.size TN #[.slice none 0 0,.slice A n c,.int .i64 n] ∧ Fr [] w w':=by
  have HB:Hid (Blk (w.alloc (.cells #[.slice none 0 0,.slice A n c,.int .i64 n] TN)) w.heap.size TN #[.slice none 0 0,.slice A n c,.int .i64 n]):=Blk.new w TN _
  go_enter Tryz.func114,Tryz.ntmps114
  go_wp2
  go_ret
  exact ⟨rfl,HB.out,(Fr.refl [] w).alloc _⟩
def sumOf (ks:List (Nat × List RV)):Nat:=(ks.map fun k => k.2.length).sum
theorem sumOf_eq (ks:List (Nat × List RV)):sumOf ks = (allOf ks).length:=by
  induction ks with
  | nil => rfl
  | cons k ks ih => simp only [sumOf,allOf,List.map_cons,List.sum_cons,List.flatten_cons,List.length_append] at ih ⊢; rw [ih]
theorem sumOf_snoc (ks:List (Nat × List RV)) (j:Nat) (h:j < ks.length):sumOf (ks.take (j + 1)) = sumOf (ks.take j) + ks[j].2.length:=by
  rw [List.take_succ_eq_append_getElem h]; simp only [sumOf,List.map_append,List.sum_append,List.map_cons,List.map_nil,List.sum_cons,List.sum_nil,Nat.add_zero]
theorem sumOf_le (ks:List (Nat × List RV)) (j:Nat):sumOf (ks.take j) ≤ sumOf ks:=by
  conv => rhs; rw [← List.take_append_drop j ks]
  simp only [sumOf,List.map_append,List.sum_append]; omega
theorem sl_ptrs {w:World} {A:Option Addr} {gs:List Nat} (h:Sl w A (ptrs gs)) {j:Nat} (hj:j < gs.length):∃ ad,A = some ad ∧ w.cell? (ad.add j) = some (.pointer (some ⟨gs[j],0,none⟩)):=by
  obtain ⟨ad,hA,_,hc⟩:=h.at_ (ptrs_get gs j hj)
  exact ⟨ad,hA,hc⟩
set_option maxHeartbeats 800000 in
theorem inner_any (A:Option Addr) (c:Nat) (ks:List (Nat × List RV)) (w:World) (hs:Sl w A (ptrs (ks.map (·.1)))) (hk:∀ k ∈ ks,w.cell? ⟨k.1,2,none⟩ = some (.int .i64 (k.2.length:Nat))) (hn:sumOf ks ≤ 1000000) (hkl:ks.length ≤ 1000000) :
    Calls Tryz.prog 116 #[.slice A ks.length c] w fun e w' => e = .returned (.pointer (some ⟨w.heap.size,0,none⟩)) ∧ Blk w' w.heap.size TN #[.slice A ks.length c,.slice none 0 0,.int .i64 (sumOf ks:Nat)] ∧ Fr [] w w':=by
  have HSL:=Lib.hid hs
  have HK:=Lib.hid hk
  have HSN:Hid (∀ j (h:j < ks.length),sumOf (ks.take (j + 1)) = sumOf (ks.take j) + ks[j].2.length ∧ sumOf (ks.take (j + 1)) ≤ 1000000):=fun j h => ⟨sumOf_snoc ks j h,Nat.le_trans (sumOf_le ks _) hn⟩
  have HB:Hid (Blk (w.alloc (.cells #[.slice A ks.length c,.slice none 0 0,.int .i64 (0:Nat)] TN)) w.heap.size TN #[.slice A ks.length c,.slice none 0 0,.int .i64 (sumOf (ks.take 0):Nat)]):=Blk.new w TN _
  have H0:Hid (Fr [] w (w.alloc (.cells #[.slice A ks.length c,.slice none 0 0,.int .i64 0] TN))):=(Fr.refl [] w).alloc _
  clear hs hk
  go_enter Tryz.func116,Tryz.ntmps116
  go_wp2_with fail
  go_loopw [11] (fun iv wr => ∃ j:Nat,iv = .int .i64 j ∧ j ≤ ks.length ∧ Hid (Blk wr w.heap.size TN #[.slice A ks.length c,.slice none 0 0,.int .i64 (sumOf (ks.take j):Nat)]) ∧ Hid (Fr [] w wr)) (fun iv _ => ks.length - (intOf iv).toNat)
  case atStart => exact ⟨0,rfl,Nat.zero_le _,HB.out,H0.out⟩
  case round =>
    obtain ⟨j,rfl,hj,HBL,HF⟩:=hrel
    clear HB H0
    by_cases hlt:j < ks.length
    · obtain ⟨ad,rfl,hcell⟩:=sl_ptrs (HSL.out.fr HF.out (.inr List.not_mem_nil)) (j:=j) (by simpa using hlt)
      rw [List.getElem_map] at hcell
      have hk:=HK.out ks[j] (List.getElem_mem hlt)
      have hkb:=World.block_lt_of_cell? w _ hk
      have hkw:wr.cell? ⟨ks[j].1,2,none⟩ = some (.int .i64 (ks[j].2.length:Nat)):=(HF.out.cell (p:=⟨ks[j].1,2,none⟩) hkb (by simp)).trans hk
      obtain ⟨h1,h2⟩:=HSN.out j hlt
      obtain ⟨kg,hkg⟩:∃ kg,kg = ks[j].1:=⟨_,rfl⟩
      obtain ⟨km,hkm⟩:∃ km,km = ks[j].2.length:=⟨_,rfl⟩
      obtain ⟨s,hs⟩:∃ s,s = sumOf (ks.take j):=⟨_,rfl⟩
      obtain ⟨s',hs'⟩:∃ s',s' = sumOf (ks.take (j + 1)):=⟨_,rfl⟩
      rw [← hkg] at hcell hkw
      rw [← hkm] at hkw h1
      rw [← hs] at h1
      rw [← hs'] at h1 h2
      have hb:Blk wr w.heap.size TN #[.slice (some ad) ks.length c,.slice none 0 0,.int .i64 (s:Nat)]:=by rw [hs]; exact HBL.out
      have hn2:wr.cell? ⟨w.heap.size,2,none⟩ = some (.int .i64 (s:Nat)):=hb.cell 2
      have hf2:=hb.frozen 2
      have hsum:(s:Int) + (km:Int) ≤ 1000000:=by omega
      have hE:Hid (Blk (wr.setCell ⟨w.heap.size,2,none⟩ (.int .i64 ((s:Int) + km))) w.heap.size TN #[.slice (some ad) ks.length c,.slice none 0 0,.int .i64 (s':Nat)] ∧ Fr [] w (wr.setCell ⟨w.heap.size,2,none⟩ (.int .i64 ((s:Int) + km)))):=by
        refine ⟨?_,HF.out.setB (by omega) 2 _⟩
        rw [h1]
        exact hb.set_ 2 _
      have HS':=Lib.hid hs'
      have H1:=Lib.hid h1
      have HBB:=Lib.hid hb
      clear hk hkb hkg hkm hs hs' h1 hb HBL HK HSN HSL
      go_wp2_with fail
      go_region
      all_goals go_simp
      all_goals go_wp2
      all_goals go_roundw
      case rel => exact ⟨j + 1,by go_num,by omega,by rw [← HS'.out]; exact hE.out.1.drew,hE.out.2.drew⟩
      case measure => simp [intOf]; omega
    · obtain rfl:j = ks.length:=by omega
      rw [List.take_length] at HBL
      go_wp2_with fail
      go_ret
      exact ⟨rfl,HBL.out,HF.out⟩
end Go.Proofs.YteohomdiklkbfaaGreat
namespace Go.Proofs.YteohomdiklkbfaaGreat
open Go.RowKit Go.Proofs.Dm

def NodesAns (E:List (Option Nat)) (w:World) (h lo:Nat) (Q:List (List RV)) (en:Ending) (w':World):Prop :=
  ∃ (ks:List (Nat × List RV)) (B:Option Addr) (d:Nat),en = .returned (.slice B ks.length d) ∧ ks.map (·.2) = Q ∧ Kp E w' (fun w => Sl w B (ptrs (ks.map (·.1)))) ∧ ks.length ≤ d ∧ NodesAt TN E w' h lo ks ∧ Fr [] w w'
theorem grow_row {E:List (Option Nat)} {B B2:Option Addr} {wr wa w3:World} (hfa:Fr [] wr wa) (hg:Fr [bk B] wa w3) (hb:bk B2 = bk B ∨ bk B2 = some wa.heap.size):Fr (bk B :: E) wr w3 ∧ ∀ k,some k ∈ bk B2 :: E → some k ∈ bk B :: E ∨ wr.heap.size ≤ k:=by
  refine ⟨hfa.of_nil.trans (hg.weaken fun i _ h => ?_),fun k hk => ?_⟩
  · rw [List.mem_singleton] at h; rw [h]; exact List.mem_cons_self ..
  · rcases List.mem_cons.1 hk with h | h
    · rcases hb with hb | hb
      · left; rw [h,hb]; exact List.mem_cons_self ..
      · right; rw [hb] at h; injection h with h; have:=hfa.size; omega
    · exact .inl (List.mem_cons_of_mem _ h)
theorem new_out {E:List (Option Nat)} {w wr wa:World} {B B2:Option Addr} {g:Nat} (hE:Old E w) (hf:Fr [] w wr) (hfa:Fr [] wr wa) (hB:∀ j,bk B = some j → j < wr.heap.size) (hg:wr.heap.size ≤ g) (hga:g < wa.heap.size) (hb:bk B2 = bk B ∨ bk B2 = some wa.heap.size):some g ∉ bk B2 :: E:=by
  intro h
  rcases List.mem_cons.1 h with h | h
  · rcases hb with hb | hb
    · have:=hB g (by rw [← hb,← h]); omega
    · rw [hb] at h; injection h with h; omega
  · have:=hE g h; have:=hf.size; omega
theorem cutQ_at {α:Type} {f:α → List Value} {ps:List Part} {L:List (List α)} (h:ps.map (fun p => (p.n,p.cs)) = L.map fun l => (l.length,l.flatMap f)):ps.length = L.length ∧ ∀ j (h1:j < ps.length) (h2:j < L.length),ps[j].n = L[j].length ∧ ps[j].cs = L[j].flatMap f:=by
  have hl:ps.length = L.length:=by have:=congrArg List.length h; simpa using this
  refine ⟨hl,fun j h1 h2 => ?_⟩
  have:=congrArg (fun l => l[j]?) h
  simp [h1,h2] at this
  exact this
theorem map_fst_app (a b:List (Nat × List RV)):(a ++ b).map (·.1) = a.map (·.1) ++ b.map (·.1):=List.map_append ..
set_option maxRecDepth 100000 in
set_option maxHeartbeats 1600000 in
theorem leaves_any (E:List (Option Nat)) (A:Option Addr) (c:Nat) (xs:List RV) (lo:Nat) (w:World) (hE:Old E w) (hs:Sl w A (flatR xs)) (hc:xs.length ≤ c) (hn:xs.length ≤ 10000) (hlo:∀ p ∈ cutsP xs,lo ≤ p.length) :
    Calls Tryz.prog 102 #[.slice A xs.length c] w (NodesAns E w 0 lo (cutsP xs)):=by
  have hcut:=cuts_R RV.cells (fun _ => rfl) (fun x u hu => flatR_one [x] u (by simpa [flatR] using hu)) A c xs w hs hc hn
  obtain ⟨L,hL⟩:∃ L,L = cutsP xs:=⟨_,rfl⟩
  have h6:∀ p ∈ L,p.length ≤ 6:=by rw [hL]; exact cutsP_le xs
  have hLn:L.length ≤ 10000:=by rw [hL,cutsP_len]; omega
  rw [← hL] at hcut hlo ⊢
  have HC:=Lib.hid hcut
  have HLO:=Lib.hid hlo
  have H6:=Lib.hid h6
  have HE:=Lib.hid hE
  clear hcut hlo h6 hL hs hc hE
  go_enter Tryz.func102,Tryz.ntmps102
  go_wp2_with fail
  refine HC.out.mono ?_
  rintro e w1 ⟨B0,d0,ps,rfl,hB0,hps,hpp,hf1⟩
  obtain ⟨hpl,hpi⟩:=cutQ_at hps
  have HB0:=Lib.hid hB0
  have HPI:=Lib.hid hpi
  have HF1:=Lib.hid hf1
  have HPL:=Lib.hid hpl
  have hpl':ps.length ≤ 10000:=by omega
  have HPP:Hid (∀ p ∈ ps,Kp (bk none :: E) w1 (fun w => Sl w p.A p.cs) ∧ p.n ≤ p.c):=by
    show ∀ _,_
    intro p hp
    obtain ⟨k1,k2,k3⟩:=hpp p hp
    refine ⟨Kp.sl k1 ?_,k2⟩
    cases hb:bk p.A with
    | none => exact .inl rfl
    | some j =>
      refine .inr fun h => ?_
      rcases List.mem_cons.1 h with h | h
      · cases h
      · have:=HE.out j h; have:=k3 j hb; omega
  clear hB0 hps hpp hf1 hpl hpi HC
  go_wp2_with fail
  go_loopw [9,3] (fun iv ov wr => ∃ (j:Nat) (ks:List (Nat × List RV)) (B:Option Addr) (d:Nat),iv = .int .i64 j ∧ ov = .slice B ks.length d ∧ j ≤ ps.length ∧ Hid (ks.length = j ∧ ks.map (·.2) = L.take j) ∧ ks.length ≤ 10000 ∧ Hid (ORow wr 27 1 B d ks.length (ptrs (ks.map (·.1)))) ∧ Hid (NodesAt TN (bk B :: E) wr 0 lo ks) ∧ Hid (∀ p ∈ ps,Kp (bk B :: E) wr (fun w => Sl w p.A p.cs) ∧ p.n ≤ p.c) ∧ Hid (Fr [] w1 wr) ∧ Hid (∀ k,bk B = some k → w1.heap.size ≤ k)) (fun iv _ _ => ps.length - (intOf iv).toNat)
  case atStart => exact ⟨0,[],none,0,rfl,rfl,Nat.zero_le _,⟨rfl,rfl⟩,Nat.zero_le _,ORow.nil_ _ _ _,fun k hk => by simp at hk,HPP.out,Fr.refl _ _,fun k hk => by cases hk⟩
  case round =>
    clear HPP
    obtain ⟨j,ks,B,d,rfl,rfl,hj,HK,hkn,HR,HN,HP,HF,HB⟩:=hrel
    by_cases hlt:j < ps.length
    · obtain ⟨ad,rfl,hcell⟩:=part_at (HB0.out.fr HF.out (.inr List.not_mem_nil)) hlt
      have hjL:j < L.length:=by rw [← HPL.out]; exact hlt
      obtain ⟨hp1,hp2⟩:=HPI.out j hlt hjL
      obtain ⟨hp3,hp4⟩:=HP.out ps[j] (List.getElem_mem hlt)
      have hl6:=H6.out L[j] (List.getElem_mem hjL)
      have hllo:=HLO.out L[j] (List.getElem_mem hjL)
      obtain ⟨pa,hpa⟩:∃ pa,pa = ps[j]:=⟨_,rfl⟩
      obtain ⟨l,hl⟩:∃ l,l = L[j]:=⟨_,rfl⟩
      rw [← hpa] at hcell hp1 hp2 hp3 hp4
      rw [← hl] at hp1 hp2 hl6 hllo
      have HTK:Hid (L.take (j + 1) = L.take j ++ [l]):=by
        show _ = _
        rw [List.take_succ_eq_append_getElem hjL,hl]
      have HPA:Hid (pa.n = l.length ∧ pa.cs = flatR l ∧ l.length ≤ 6 ∧ lo ≤ l.length ∧ pa.n ≤ pa.c ∧ Kp (bk B :: E) wr (fun w => Sl w pa.A pa.cs)):=⟨hp1,hp2,hl6,hllo,hp4,hp3⟩
      have hkj:ks.length < 10000:=by rw [HK.out.1]; omega
      clear hp1 hp2 hp3 hp4 hl6 hllo hpa hl hjL
      go_wp2_with fail
      refine (leaf_any pa.A pa.n pa.c wr).mono ?_
      rintro e w2 ⟨rfl,hb2,hf2⟩
      have HB2:=Lib.hid hb2
      have HF2:=Lib.hid hf2
      clear hb2 hf2
      go_wp2_with (at_builtin; go_must (
        refine wpList_app _ rfl _ _ 158 27 rfl (Value.pointer none) 1 8 Tryz.underlying158 info_N rfl (by decide) B d ks.length (ptrs (ks.map (·.1))) rfl (ORow.fr HR.out (HF2.out.alloc _) (.inr List.not_mem_nil)) _ 1 1 (ptrs [wr.heap.size]) rfl rfl (sl_new w2 _ 27) (ptrs_one _) (by simp only [maxLen]; omega) (by omega) ?_
        intro A2 c2 w3 hr3 hg3 hb3
        have HR3:=Lib.hid hr3
        have HG3:=Lib.hid hg3
        have HB3:=Lib.hid hb3
        clear hr3 hg3 hb3))
      go_roundw
      case rel =>
        have hfa:Fr [] wr (w2.alloc (.cells #[.pointer (some ⟨wr.heap.size,0,none⟩)] 27)):=HF2.out.alloc _
        obtain ⟨g1,g2⟩:=grow_row (E:=E) hfa HG3.out HB3.out
        have hlt2:=HB2.out.lt
        have hno:some wr.heap.size ∉ bk A2 :: E:=new_out HE.out (HF1.out.trans HF.out) hfa (fun j hj => ORow.lt HR.out hj) (Nat.le_refl _) (by simp; omega) HB3.out
        have hne:some wr.heap.size ∉ [bk B]:=fun h => by
          rw [List.mem_singleton] at h
          have:=ORow.lt HR.out h.symm
          omega
        have hblk:Blk w3 wr.heap.size TN #[.slice none 0 0,.slice pa.A pa.n pa.c,.int .i64 pa.n]:=(HB2.out.alloc _).fr HG3.out hne
        refine ⟨j + 1,ks ++ [(wr.heap.size,l)],A2,c2,by go_num,by simp,by omega,⟨by simp [HK.out.1],by rw [List.map_append,HK.out.2,HTK.out]; rfl⟩,by simp; omega,?_,?_,?_,?_,?_⟩
        · have:=HR3.out
          show ORow _ _ _ _ _ _ _
          rw [map_fst_app,ptrs_app]
          simpa using this
        · refine NodesAt.app (fun k hk => NodeAt.grow g1 g2 _ _ _ _ (HN.out k hk)) fun k hk => ?_
          rw [List.mem_singleton] at hk
          subst hk
          obtain ⟨q1,q2,q3,q4,q5,q6⟩:=HPA.out
          refine ⟨q4,q3,pa.A,pa.c,by show l.length ≤ pa.c; omega,?_⟩
          rw [← q1,← q2]
          exact (Kp.blk hblk hno).and (q6.grow g1 g2)
        · exact fun p hp => ⟨(HP.out p hp).1.grow g1 g2,(HP.out p hp).2⟩
        · exact fr_app (HF.out.trans hfa) HB.out HG3.out
        · exact newA_app (w':=w3) (HF.out.trans hfa) HB.out HB3.out
      case measure => simp [intOf]; omega
    · obtain rfl:j = ps.length:=by omega
      have HEND:Hid (ks.map (·.2) = L):=by
        have h:=HK.out.2
        rw [HPL.out,List.take_length] at h
        exact h
      clear HK
      go_wp2_with fail
      go_ret
      have hBo:bk B = none ∨ bk B ∉ E:=by
        cases hb:bk B with
        | none => exact .inl rfl
        | some k => exact .inr fun h => by have:=HE.out k h; have:=HB.out k hb; have:=HF1.out.size; omega
      exact ⟨ks,B,d,rfl,HEND.out,Kp.sl (ORow.sl HR.out) hBo,ORow.cap HR.out,fun k hk => NodeAt.grow (Fr.refl _ _) (fun k h => .inl (List.mem_cons_of_mem _ h)) _ _ _ _ (HN.out k hk),HF1.out.trans HF.out⟩
end Go.Proofs.YteohomdiklkbfaaGreat
namespace Go.Proofs.YteohomdiklkbfaaGreat
open Go.RowKit Go.Proofs.Dm

def ptrK (k:Nat × List RV):List Value:=[.pointer (some ⟨k.1,0,none⟩)]
theorem ptrs_K (ks:List (Nat × List RV)):ptrs (ks.map (·.1)) = ks.flatMap ptrK:=by
  induction ks with
  | nil => rfl
  | cons k ks ih => rw [List.flatMap_cons,← ih]; rfl
theorem cutsP_mem (ks l:List (Nat × List RV)) (h:l ∈ cutsP ks):∀ k ∈ l,k ∈ ks:=fun k hk => by
  rw [← cutsP_flat ks]
  exact List.mem_flatten.2 ⟨l,h,hk⟩
theorem sumOf_flat (L:List (List (Nat × List RV))):sumOf L.flatten = (L.map sumOf).sum:=by
  induction L with
  | nil => rfl
  | cons l L ih => simp only [sumOf,List.flatten_cons,List.map_append,List.sum_append,List.map_cons,List.sum_cons] at ih ⊢; rw [ih]
theorem le_sum_of_mem {L:List Nat} {x:Nat} (h:x ∈ L):x ≤ L.sum:=by
  induction L with
  | nil => simp at h
  | cons y L ih =>
    rw [List.sum_cons]
    rcases List.mem_cons.1 h with h | h
    · omega
    · have:=ih h; omega
theorem cutsP_sum (ks l:List (Nat × List RV)) (h:l ∈ cutsP ks):sumOf l ≤ sumOf ks:=by
  conv => rhs; rw [← cutsP_flat ks,sumOf_flat]
  exact le_sum_of_mem (List.mem_map.2 ⟨l,h,rfl⟩)
theorem _root_.Go.Proofs.Dm.NodeAt.cell2 {t:TypeId} {E:List (Option Nat)} {w:World} {h lo g:Nat} {xs:List RV} (hn:NodeAt t E w h lo g xs):w.cell? ⟨g,2,none⟩ = some (.int .i64 (xs.length:Nat)):=by
  cases h with
  | zero => obtain ⟨_,_,A,c,_,hk⟩:=hn; exact hk.now.1.cell 2
  | succ h => obtain ⟨ks,A,c,_,_,_,_,_,hk,_⟩:=hn; exact hk.now.1.cell 2
set_option maxRecDepth 100000 in
set_option maxHeartbeats 1600000 in
theorem inners_any (E:List (Option Nat)) (A:Option Addr) (c h:Nat) (ks0:List (Nat × List RV)) (lo:Nat) (w:World) (hE:Old E w) (hs:Sl w A (ptrs (ks0.map (·.1)))) (hc:ks0.length ≤ c) (hn:ks0.length ≤ 10000) (hN0:NodesAt TN E w h 3 ks0) (hsm:sumOf ks0 ≤ 1000000) (hlo:∀ p ∈ cutsP ks0,lo ≤ p.length) :
    Calls Tryz.prog 122 #[.slice A ks0.length c] w (NodesAns E w (h + 1) lo ((cutsP ks0).map allOf)):=by
  have hcut:=cuts_N ptrK (fun _ => rfl) (fun x u hu => by rw [ptrK,List.mem_singleton] at hu; subst hu; rfl) A c ks0 w (by rw [← ptrs_K]; exact hs) hc hn
  obtain ⟨L,hL⟩:∃ L,L = cutsP ks0:=⟨_,rfl⟩
  have h6:∀ p ∈ L,p.length ≤ 6:=by rw [hL]; exact cutsP_le ks0
  have hLn:L.length ≤ 10000:=by rw [hL,cutsP_len]; omega
  rw [← hL] at hcut hlo ⊢
  have hsum:∀ l ∈ L,sumOf l ≤ 1000000 ∧ 1 ≤ l.length ∧ ∀ k ∈ l,k ∈ ks0:=by
    rw [hL]
    exact fun l hl => ⟨Nat.le_trans (cutsP_sum ks0 l hl) hsm,cutsP_pos ks0 l hl,cutsP_mem ks0 l hl⟩
  have HSM:=Lib.hid hsum
  have HC:=Lib.hid hcut
  have HLO:=Lib.hid hlo
  have H6:=Lib.hid h6
  have HE:=Lib.hid hE
  clear hcut hlo h6 hL hs hc hE hsum hsm
  go_enter Tryz.func122,Tryz.ntmps122
  go_wp2_with fail
  refine HC.out.mono ?_
  rintro e w1 ⟨B0,d0,ps,rfl,hB0,hps,hpp,hf1⟩
  obtain ⟨hpl,hpi⟩:=cutQ_at hps
  have HB0:=Lib.hid hB0
  have HPI:=Lib.hid hpi
  have HF1:=Lib.hid hf1
  have HPL:=Lib.hid hpl
  have hpl':ps.length ≤ 10000:=by omega
  have HN0:Hid (NodesAt TN (bk none :: E) w1 h 3 ks0):=fun k hk => NodeAt.grow HF1.out.of_nil (fun j hj => by
    rcases List.mem_cons.1 hj with h | h
    · cases h
    · exact .inl h) _ _ _ _ (hN0 k hk)
  have HPP:Hid (∀ p ∈ ps,Kp (bk none :: E) w1 (fun w => Sl w p.A p.cs) ∧ p.n ≤ p.c):=by
    show ∀ _,_
    intro p hp
    obtain ⟨k1,k2,k3⟩:=hpp p hp
    refine ⟨Kp.sl k1 ?_,k2⟩
    cases hb:bk p.A with
    | none => exact .inl rfl
    | some j =>
      refine .inr fun h => ?_
      rcases List.mem_cons.1 h with h | h
      · cases h
      · have:=HE.out j h; have:=k3 j hb; omega
  clear hB0 hps hpp hf1 hpl hpi HC hN0
  go_wp2_with fail
  go_loopw [9,3] (fun iv ov wr => ∃ (j:Nat) (ks:List (Nat × List RV)) (B:Option Addr) (d:Nat),iv = .int .i64 j ∧ ov = .slice B ks.length d ∧ j ≤ ps.length ∧ Hid (ks.length = j ∧ ks.map (·.2) = (L.take j).map allOf) ∧ ks.length ≤ 10000 ∧ Hid (ORow wr 27 1 B d ks.length (ptrs (ks.map (·.1)))) ∧ Hid (NodesAt TN (bk B :: E) wr (h + 1) lo ks) ∧ Hid (NodesAt TN (bk B :: E) wr h 3 ks0) ∧ Hid (∀ p ∈ ps,Kp (bk B :: E) wr (fun w => Sl w p.A p.cs) ∧ p.n ≤ p.c) ∧ Hid (Fr [] w1 wr) ∧ Hid (∀ k,bk B = some k → w1.heap.size ≤ k)) (fun iv _ _ => ps.length - (intOf iv).toNat)
  case atStart => exact ⟨0,[],none,0,rfl,rfl,Nat.zero_le _,⟨rfl,rfl⟩,Nat.zero_le _,ORow.nil_ _ _ _,fun k hk => by simp at hk,HN0.out,HPP.out,Fr.refl _ _,fun k hk => by cases hk⟩
  case round =>
    clear HPP HN0
    obtain ⟨j,ks,B,d,rfl,rfl,hj,HK,hkn,HR,HN,HN0,HP,HF,HB⟩:=hrel
    by_cases hlt:j < ps.length
    · obtain ⟨ad,rfl,hcell⟩:=part_at (HB0.out.fr HF.out (.inr List.not_mem_nil)) hlt
      have hjL:j < L.length:=by rw [← HPL.out]; exact hlt
      obtain ⟨hp1,hp2⟩:=HPI.out j hlt hjL
      obtain ⟨hp3,hp4⟩:=HP.out ps[j] (List.getElem_mem hlt)
      have hl6:=H6.out L[j] (List.getElem_mem hjL)
      have hllo:=HLO.out L[j] (List.getElem_mem hjL)
      obtain ⟨hl7,hl8,hl9⟩:=HSM.out L[j] (List.getElem_mem hjL)
      obtain ⟨pa,hpa⟩:∃ pa,pa = ps[j]:=⟨_,rfl⟩
      obtain ⟨l,hl⟩:∃ l,l = L[j]:=⟨_,rfl⟩
      rw [← hpa] at hcell hp1 hp2 hp3 hp4
      rw [← hl] at hp1 hp2 hl6 hllo hl7 hl8 hl9
      have HTK:Hid (L.take (j + 1) = L.take j ++ [l]):=by
        show _ = _
        rw [List.take_succ_eq_append_getElem hjL,hl]
      have HPA:Hid (pa.n = l.length ∧ pa.cs = ptrs (l.map (·.1)) ∧ l.length ≤ 6 ∧ lo ≤ l.length ∧ pa.n ≤ pa.c ∧ Kp (bk B :: E) wr (fun w => Sl w pa.A pa.cs)):=⟨hp1,by rw [ptrs_K]; exact hp2,hl6,hllo,hp4,hp3⟩
      have HIN:=Lib.hid (inner_any pa.A pa.c l wr (by rw [← HPA.out.2.1]; exact hp3.now) (fun k hk => (HN0.out k (hl9 k hk)).cell2) hl7 (by omega))
      rw [← hp1] at HIN
      have HL8:Hid (1 ≤ l.length ∧ ∀ k ∈ l,k ∈ ks0):=⟨hl8,hl9⟩
      have hkj:ks.length < 10000:=by rw [HK.out.1]; omega
      clear hp1 hp2 hp3 hp4 hl6 hllo hpa hl hjL hl7 hl8 hl9
      go_wp2_with fail
      refine HIN.out.mono ?_
      rintro e w2 ⟨rfl,hb2,hf2⟩
      have HB2:=Lib.hid hb2
      have HF2:=Lib.hid hf2
      clear hb2 hf2
      go_wp2_with (at_builtin; go_must (
        refine wpList_app _ rfl _ _ 158 27 rfl (Value.pointer none) 1 8 Tryz.underlying158 info_N rfl (by decide) B d ks.length (ptrs (ks.map (·.1))) rfl (ORow.fr HR.out (HF2.out.alloc _) (.inr List.not_mem_nil)) _ 1 1 (ptrs [wr.heap.size]) rfl rfl (sl_new w2 _ 27) (ptrs_one _) (by simp only [maxLen]; omega) (by omega) ?_
        intro A2 c2 w3 hr3 hg3 hb3
        have HR3:=Lib.hid hr3
        have HG3:=Lib.hid hg3
        have HB3:=Lib.hid hb3
        clear hr3 hg3 hb3))
      go_roundw
      case rel =>
        have hfa:Fr [] wr (w2.alloc (.cells #[.pointer (some ⟨wr.heap.size,0,none⟩)] 27)):=HF2.out.alloc _
        obtain ⟨g1,g2⟩:=grow_row (E:=E) hfa HG3.out HB3.out
        have hlt2:=HB2.out.lt
        have hno:some wr.heap.size ∉ bk A2 :: E:=new_out HE.out (HF1.out.trans HF.out) hfa (fun j hj => ORow.lt HR.out hj) (Nat.le_refl _) (by simp; omega) HB3.out
        have hne:some wr.heap.size ∉ [bk B]:=fun h => by
          rw [List.mem_singleton] at h
          have:=ORow.lt HR.out h.symm
          omega
        have hblk:Blk w3 wr.heap.size TN #[.slice pa.A pa.n pa.c,.slice none 0 0,.int .i64 (sumOf l:Nat)]:=(HB2.out.alloc _).fr HG3.out hne
        refine ⟨j + 1,ks ++ [(wr.heap.size,allOf l)],A2,c2,by go_num,by simp,by omega,⟨by simp [HK.out.1],by rw [List.map_append,HK.out.2,HTK.out,List.map_append]; rfl⟩,by simp; omega,?_,?_,?_,?_,?_,?_⟩
        · have:=HR3.out
          show ORow _ _ _ _ _ _ _
          rw [map_fst_app,ptrs_app]
          simpa using this
        · refine NodesAt.app (fun k hk => NodeAt.grow g1 g2 _ _ _ _ (HN.out k hk)) fun k hk => ?_
          rw [List.mem_singleton] at hk
          subst hk
          obtain ⟨q1,q2,q3,q4,q5,q6⟩:=HPA.out
          refine ⟨l,pa.A,pa.c,q4,HL8.out.1,q3,rfl,by rw [← q1]; exact q5,?_,fun k hk => NodeAt.grow g1 g2 _ _ _ _ (HN0.out k (HL8.out.2 k hk))⟩
          rw [← q1,← q2]
          rw [sumOf_eq] at hblk
          exact (Kp.blk hblk hno).and (q6.grow g1 g2)
        · exact fun k hk => NodeAt.grow g1 g2 _ _ _ _ (HN0.out k hk)
        · exact fun p hp => ⟨(HP.out p hp).1.grow g1 g2,(HP.out p hp).2⟩
        · exact fr_app (HF.out.trans hfa) HB.out HG3.out
        · exact newA_app (w':=w3) (HF.out.trans hfa) HB.out HB3.out
      case measure => simp [intOf]; omega
    · obtain rfl:j = ps.length:=by omega
      have HEND:Hid (ks.map (·.2) = L.map allOf):=by
        have h:=HK.out.2
        rw [HPL.out,List.take_length] at h
        exact h
      clear HK
      go_wp2_with fail
      go_ret
      have hBo:bk B = none ∨ bk B ∉ E:=by
        cases hb:bk B with
        | none => exact .inl rfl
        | some k => exact .inr fun h => by have:=HE.out k h; have:=HB.out k hb; have:=HF1.out.size; omega
      exact ⟨ks,B,d,rfl,HEND.out,Kp.sl (ORow.sl HR.out) hBo,ORow.cap HR.out,fun k hk => NodeAt.grow (Fr.refl _ _) (fun k h => .inl (List.mem_cons_of_mem _ h)) _ _ _ _ (HN.out k hk),HF1.out.trans HF.out⟩
end Go.Proofs.YteohomdiklkbfaaGreat
namespace Go.Proofs.YteohomdiklkbfaaGreat
open Go.RowKit Go.Proofs.Dm

section
variable {E:List (Option Nat)} {w:World} {h lo g:Nat} {xs:List RV}
theorem flat_leaf (hn:NodeAt TN E w 0 lo g xs) :
    Calls Tryz.prog 83 #[.pointer (some ⟨g,0,none⟩)] w fun e w' => e = .returned (.bool true) ∧ w = w':=by
  obtain ⟨_,_,A,c,_,hk⟩:=hn
  have hb:=hk.now.1
  have hc:w.cell? ⟨g,0,none⟩ = some (.slice none 0 0):=hb.cell 0
  clear hk hb
  go_enter Tryz.func83,Tryz.ntmps83
  go_wp2
  go_ret
  exact ⟨rfl,rfl⟩
theorem flat_inner (hn:NodeAt TN E w (h + 1) lo g xs) :
    Calls Tryz.prog 83 #[.pointer (some ⟨g,0,none⟩)] w fun e w' => e = .returned (.bool false) ∧ w = w':=by
  obtain ⟨ks,A,c,_,h1,h6,_,_,hk,_⟩:=hn
  have hb:=hk.now.1
  have hc:w.cell? ⟨g,0,none⟩ = some (.slice A ks.length c):=hb.cell 0
  have hne:((ks.length:Int) == 0) = false:=by simpa using (show (ks.length:Int) ≠ 0 by omega)
  clear hk hb
  go_enter Tryz.func83,Tryz.ntmps83
  go_wp2
  go_ret
  first | exact ⟨rfl,rfl⟩ | simp_all
end
theorem len_any (E:List (Option Nat)) (p:Option Addr) (xs:List RV) (w:World) (ht:TreeAt TN E w p xs) :
    Calls Tryz.prog 49 #[.agg #[.pointer p]] w fun e w' => e = .returned (.int .i64 (xs.length:Nat)) ∧ Fr [] w w':=by
  rcases ht with ⟨rfl,rfl⟩ | ⟨g,h,rfl,hn⟩
  · go_enter Tryz.func49,Tryz.ntmps49
    go_wp2
    go_ret
    exact ⟨rfl,(Fr.refl [] w).alloc _⟩
  · have hc:=hn.cell2
    have hb:=World.block_lt_of_cell? w _ hc
    clear hn
    go_enter Tryz.func49,Tryz.ntmps49
    go_wp2
    go_ret
    exact ⟨rfl,(Fr.refl [] w).alloc _⟩
theorem has_any (E:List (Option Nat)) (p:Option Addr) (xs:List RV) (i:Int) (w:World) (ht:TreeAt TN E w p xs) :
    Calls Tryz.prog 82 #[.agg #[.pointer p],.int .i64 i] w fun e w' => e = .returned (.bool (decide (0 ≤ i ∧ i < (xs.length:Nat)))) ∧ Fr [] w w':=by
  have HL:Hid (∀ w',Fr [] w w' → Calls Tryz.prog 49 #[.agg #[.pointer p]] w' fun e w'' => e = .returned (.int .i64 (xs.length:Nat)) ∧ Fr [] w' w''):=fun w' hf => len_any E p xs w' (ht.fr0 hf)
  have H0:Hid (Fr [] w (w.alloc (.cells #[.pointer p] 29))):=(Fr.refl [] w).alloc _
  obtain ⟨b,hb⟩:∃ b,b = decide (0 ≤ i ∧ i < ((xs.length:Nat):Int)):=⟨_,rfl⟩
  rw [← hb]
  have HB:=Lib.hid hb
  clear ht hb
  by_cases h0:0 ≤ i
  · go_enter Tryz.func82,Tryz.ntmps82
    go_wp2_with fail
    refine (HL.out _ H0.out).mono ?_
    rintro e w1 ⟨rfl,hf1⟩
    go_wp2_with fail
    go_ret
    exact ⟨by rw [HB.out]; simp [h0],H0.out.trans hf1⟩
  · have h0':i < 0:=by omega
    go_enter Tryz.func82,Tryz.ntmps82
    go_wp2_with fail
    go_ret
    exact ⟨by rw [HB.out,decide_eq_false (by omega)]; rfl,H0.out⟩
theorem root_any (p:Option Addr) (w:World) :
    Calls Tryz.prog 79 #[.agg #[.pointer p]] w fun e w' => e = .returned (.pointer p) ∧ Fr [] w w':=by
  go_enter Tryz.func79,Tryz.ntmps79
  go_wp2
  go_ret
  exact ⟨rfl,(Fr.refl [] w).alloc _⟩
end Go.Proofs.YteohomdiklkbfaaGreat
namespace Go.Proofs.YteohomdiklkbfaaGreat
open Go.RowKit Go.Proofs.Dm

def KidAns (ks:List (Nat × List RV)) (i:Nat) (en:Ending):Prop :=
  ∃ (k j:Nat) (hk:k < ks.length),en = .returned (.tuple #[.int .i64 k,.int .i64 j]) ∧ i = sumOf (ks.take k) + j ∧ (j < ks[k].2.length ∨ k + 1 = ks.length)
set_option maxRecDepth 100000 in
set_option maxHeartbeats 1600000 in
theorem kid_any {E:List (Option Nat)} {h lo:Nat} (g i c:Nat) (A:Option Addr) (X:Value) (Y:Value) (ks:List (Nat × List RV)) (w:World) (hb:Blk w g TN #[.slice A ks.length c,X,Y]) (hs:Sl w A (ptrs (ks.map (·.1)))) (hN:NodesAt TN E w h lo ks)
    (h1:1 ≤ ks.length) (h6:ks.length ≤ 6) (hi:i ≤ 1000000) :
    Calls Tryz.prog 84 #[.pointer (some ⟨g,0,none⟩),.int .i64 (i:Nat)] w fun e w' => KidAns ks i e ∧ w = w':=by
  have hc:w.cell? ⟨g,0,none⟩ = some (.slice A ks.length c):=hb.cell 0
  have HSL:=Lib.hid hs
  have HN:=Lib.hid hN
  have hgb:=World.block_lt_of_cell? w _ hc
  obtain ⟨ad,rfl,_⟩:=sl_ptrs hs (j:=0) (by rw [List.length_map]; omega)
  clear hb hs hN
  go_enter Tryz.func84,Tryz.ntmps84
  go_wp2_with fail
  go_loop [6,1] (fun kv iv => ∃ k j:Nat,kv = .int .i64 k ∧ iv = .int .i64 j ∧ k < ks.length ∧ j ≤ 1000000 ∧ Hid (i = sumOf (ks.take k) + j)) (fun kv _ => ks.length - (intOf kv).toNat)
  case atStart => exact ⟨0,i,rfl,rfl,h1,hi,by show _ = _; simp [sumOf]⟩
  case round =>
    obtain ⟨k,j,rfl,rfl,hk,hj,HI⟩:=hrel
    have hend:(j < ks[k].2.length ∨ k + 1 = ks.length) → KidAns ks i (.returned (.tuple #[.int .i64 k,.int .i64 j])):=fun h => ⟨k,j,hk,rfl,HI.out,h⟩
    have HEND:=Lib.hid hend
    by_cases hlast:k + 1 = ks.length
    · have hd:decide ((k:Int) < (ks.length:Int) - 1) = false:=by simp; omega
      have hnl:¬ ((k:Int) < (ks.length:Int) - 1):=by omega
      clear hend hi
      go_wp2_with fail
      go_ret2
      exact ⟨HEND.out (.inr hlast),rfl⟩
    · have hd:decide ((k:Int) < (ks.length:Int) - 1) = true:=by simp; omega
      have hlt:(k:Int) < (ks.length:Int) - 1:=by omega
      obtain ⟨ad',he,hcell⟩:=sl_ptrs HSL.out (j:=k) (by simpa using hk)
      injection he with he
      subst he
      rw [List.getElem_map] at hcell
      have hk2:=(HN.out ks[k] (List.getElem_mem hk)).cell2
      have hsn:=sumOf_snoc ks k hk
      obtain ⟨kg,hkg⟩:∃ kg,kg = ks[k].1:=⟨_,rfl⟩
      obtain ⟨km,hkm⟩:∃ km,km = ks[k].2.length:=⟨_,rfl⟩
      rw [← hkg] at hcell hk2
      rw [← hkm] at hk2 hsn HEND
      have HSN:=Lib.hid hsn
      clear hend hsn hkg hkm hi
      by_cases hj2:j < km
      · have hnj:¬ km ≤ j:=by omega
        go_wp2_with fail
        go_ret2
        exact ⟨HEND.out (.inl hj2),rfl⟩
      · have hnj:km ≤ j:=by omega
        have hge:(km:Int) ≤ (j:Int):=by omega
        clear hj2
        go_wp2_with fail
        go_round
        case rel =>
          refine ⟨k + 1,j - km,by go_num,?_,by omega,by omega,?_⟩
          · congr 1; omega
          · show _ = _
            have:=HI.out
            rw [HSN.out]; omega
        case measure => simp [intOf]; omega
end Go.Proofs.YteohomdiklkbfaaGreat
