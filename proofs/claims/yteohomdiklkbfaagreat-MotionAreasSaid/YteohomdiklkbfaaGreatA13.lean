import Derived.Test.YteohomdiklkbfaaGreatA02
import Derived.Test.YteohomdiklkbfaaGreatProg
import Derived.Deep.RegionWith
import Derived.OwnWalk
namespace Go.Proofs.YteohomdiklkbfaaGreat
open Go.RowKit Go.Proofs.Dm

theorem info_C:(Tryz.prog.info? 126).map (fun i => (i.zero,i.size,i.bytes)) = some (some (Value.agg #[.slice none 0 0,.int .i64 0,.int .i64 0,.int .i64 0,.bool false]),5,56):=by kernel_rfl
set_option maxHeartbeats 400000 in
theorem clone_C (A:Option Addr) (n c:Nat) (cs:List Value) (w:World) (hs:Sl w A cs) (hl:cs.length = n * 5) (h1:∀ u ∈ cs,u.oneCell' = true) (hn:n ≤ 1000000) :
    Calls Tryz.prog 52 #[.slice A n c] w (NewRow w 126 5 n cs):=by
  cases A with
  | none =>
    have hx:cs = []:=by
      rcases hs with h | ⟨ad,h,_⟩
      · exact h
      · cases h
    subst hx
    obtain rfl:n = 0:=by simp at hl; omega
    have he:=Lib.run_eql_slice_nil (P:=Tryz.prog) w 61 126 none 0 c 0 0 Tryz.underlying61
    go_enter Tryz.func52,Tryz.ntmps52
    go_wp2
    go_ret
    exact ⟨none,0,rfl,ORow.nil_ _ _ _,Fr.refl _ _,fun j hj => by cases hj⟩
  | some ad =>
    have he:=Lib.run_eql_slice_nil (P:=Tryz.prog) w 61 126 (some ad) n c 0 0 Tryz.underlying61
    have HL:=Lib.hid hl
    clear hl
    go_enter Tryz.func52,Tryz.ntmps52
    go_wp2_with (at_builtin; go_must (
      refine wpList_app _ rfl _ _ 61 126 rfl (Value.agg #[.slice none 0 0,.int .i64 0,.int .i64 0,.int .i64 0,.bool false]) 5 56 Tryz.underlying61 info_C rfl (by decide) _ 0 0 [] rfl (ORow.made w 126 5) (some ad) n c cs rfl HL.out (hs.fr (Fr.alloc (Fr.refl [] w) _) (by simp)) h1 (by simp only [maxLen]; omega) (by omega) ?_
      intro A1 ca1 w1 hr1 hg1 hb1))
    go_ret
    rw [Nat.zero_add,List.nil_append] at hr1
    refine ⟨A1,ca1,rfl,hr1,((Fr.refl [] w).alloc _).seq hg1 (by simp [bk]),fun j hj => ?_⟩
    rcases hb1 with h | h
    · rw [h] at hj; simp [bk] at hj; omega
    · rw [h] at hj; injection hj with hj; simp at hj; omega
end Go.Proofs.YteohomdiklkbfaaGreat
namespace Go.Proofs.YteohomdiklkbfaaGreat
open Go.RowKit Go.Proofs.Dm

theorem info_N:(Tryz.prog.info? 27).map (fun i => (i.zero,i.size,i.bytes)) = some (some (Value.pointer none),1,8):=by kernel_rfl
theorem size_N:(Tryz.prog.info? (Tryz.prog.elem 158)).map (·.size) = some 1:=by kernel_rfl
theorem und_N:Tryz.prog.underlying 158 = some (.slice (Tryz.prog.elem 158)):=by kernel_rfl
set_option maxHeartbeats 400000 in
theorem clone_N (A:Option Addr) (n c:Nat) (cs:List Value) (w:World) (hs:Sl w A cs) (hl:cs.length = n * 1) (h1:∀ u ∈ cs,u.oneCell' = true) (hn:n ≤ 1000000) :
    Calls Tryz.prog 145 #[.slice A n c] w (NewRow w 27 1 n cs):=by
  cases A with
  | none =>
    have hx:cs = []:=by
      rcases hs with h | ⟨ad,h,_⟩
      · exact h
      · cases h
    subst hx
    obtain rfl:n = 0:=by simp at hl; omega
    have he:=Lib.run_eql_slice_nil (P:=Tryz.prog) w 158 27 none 0 c 0 0 Tryz.underlying158
    go_enter Tryz.func145,Tryz.ntmps145
    go_wp2
    go_ret
    exact ⟨none,0,rfl,ORow.nil_ _ _ _,Fr.refl _ _,fun j hj => by cases hj⟩
  | some ad =>
    have he:=Lib.run_eql_slice_nil (P:=Tryz.prog) w 158 27 (some ad) n c 0 0 Tryz.underlying158
    have HL:=Lib.hid hl
    clear hl
    go_enter Tryz.func145,Tryz.ntmps145
    go_wp2_with (at_builtin; go_must (
      refine wpList_app _ rfl _ _ 158 27 rfl (Value.pointer none) 1 8 Tryz.underlying158 info_N rfl (by decide) _ 0 0 [] rfl (ORow.made w 27 1) (some ad) n c cs rfl HL.out (hs.fr (Fr.alloc (Fr.refl [] w) _) (by simp)) h1 (by simp only [maxLen]; omega) (by omega) ?_
      intro A1 ca1 w1 hr1 hg1 hb1))
    go_ret
    rw [Nat.zero_add,List.nil_append] at hr1
    refine ⟨A1,ca1,rfl,hr1,((Fr.refl [] w).alloc _).seq hg1 (by simp [bk]),fun j hj => ?_⟩
    rcases hb1 with h | h
    · rw [h] at hj; simp [bk] at hj; omega
    · rw [h] at hj; injection hj with hj; simp at hj; omega
set_option maxHeartbeats 400000 in
theorem grow_N (n:Nat) (w:World) (hn:n ≤ 1000000) :
    Calls Tryz.prog 141 #[.slice none 0 0,.int .i64 (n:Int)] w (NewRow w 27 1 0 []):=by
  rcases Nat.eq_zero_or_pos n with h0 | h0
  · subst h0
    go_enter Tryz.func141,Tryz.ntmps141
    go_wp2
    go_ret
    exact ⟨none,0,rfl,ORow.nil_ _ _ _,Fr.refl _ _,fun j hj => by cases hj⟩
  · obtain ⟨i0,hi,hz0,hz1,hz2⟩:=info_parts info_N
    have hz:∀ (W:World) (ty:TypeId),(Builtin.append_ #[158,3] ty #[.slice none 0 0,.int .i64 (n:Int)]).run Tryz.prog W = .ok (.slice (some ⟨W.heap.size,0,none⟩) n (grownCap W n 0 27)) (W.drew.alloc (.cells (Builtin.zeroCells (Value.pointer none).cells n ++ Builtin.zeroCells (Value.pointer none).cells (grownCap W n 0 27 - n)) 27)):=fun W ty =>
      Lib.run_append_nil_zeros W 158 3 ty 27 i0 (Value.pointer none) .i64 .i64 Tryz.underlying158 Tryz.underlying3 hi hz0 n h0 (by rw [hz1]; decide) (by omega) (by rw [hz2]; omega)
    have HZ:=Lib.hid hz
    have HE:Hid (∀ W,ORow (W.drew.alloc (.cells (Builtin.zeroCells (Value.pointer none).cells n ++ Builtin.zeroCells (Value.pointer none).cells (grownCap W n 0 27 - n)) 27)) 27 1 (some ⟨W.heap.size,0,none⟩) (grownCap W n 0 27) 0 []):=by
      show ∀ _,_
      intro W
      have hge:=grownCap_ge W n 0 27
      have hle:=grownCap_le_maxLen W n 0 27 (by simp only [maxLen]; omega)
      exact World.ownsRow_made W.drew _ _ (Nat.zero_le _) hle (by
        have hs:∀ m,(Builtin.zeroCells (Value.pointer none).cells m).size = m * 1:=fun m => by
          simp only [Builtin.zeroCells,Array.size_map,Array.size_range]; rfl
        rw [Array.size_append,hs,hs]; omega)
    have HG:Hid (∀ W,n ≤ grownCap W n 0 27):=fun W => grownCap_ge W n 0 27
    have hi0:(0:Int) < (n:Int):=by omega
    clear hz hi hz0 hz1 hz2 h0
    obtain ⟨C,hC⟩:∃ C,C = grownCap w n 0 27:=⟨_,rfl⟩
    have HC:=Lib.hid hC
    have hnC:n ≤ C:=by rw [hC]; exact HG.out w
    clear hC
    go_enter Tryz.func141,Tryz.ntmps141
    go_wp2_with (at_builtin; go_must (
      refine Lib.wpList_append_run w rfl _ _ 158 3 rfl _ _ rfl rfl (.slice (some ⟨w.heap.size,0,none⟩) n C) _ (by rw [HC.out]; exact HZ.out w _) ?_))
    go_ret
    refine ⟨_,C,rfl,?_,((Fr.refl [] w).alloc _).drew,fun j hj => ?_⟩
    · rw [HC.out]; exact HE.out w
    · injection hj with hj
      exact Nat.le_of_eq hj
set_option maxHeartbeats 800000 in
theorem concat_N (B:Option Addr) (d:Nat) (ps:List Part) (w:World) (hB:Sl w B (partV ps)) (hp:∀ p ∈ ps,p.ok 1 w) (hn:partN ps ≤ 1000000) (hm:ps.length ≤ 1000000) :
    Calls Tryz.prog 130 #[.slice B ps.length d] w (NewRow w 27 1 (partN ps) (partC ps)):=by
  obtain ⟨N,hN⟩:∃ N,N = partN ps:=⟨_,rfl⟩
  have HLE:Hid (∀ j,partN (ps.take j) ≤ N):=fun j => by rw [hN]; exact partN_le ps j
  have HAT:Hid (∀ j (h:j < ps.length),partN (ps.take (j + 1)) = partN (ps.take j) + ps[j].n ∧ partN (ps.take j) + ps[j].n ≤ N):=fun j h => ⟨partN_snoc ps j h,by rw [hN]; exact partN_at ps j h⟩
  have HCS:Hid (∀ j (h:j < ps.length),partC (ps.take (j + 1)) = partC (ps.take j) ++ ps[j].cs):=fun j h => partC_snoc ps j h
  have HEND:Hid (partN (ps.take ps.length) = N ∧ partC (ps.take ps.length) = partC ps):=⟨by rw [List.take_length,hN],by rw [List.take_length]⟩
  have HP:=Lib.hid hp
  have HB:=Lib.hid hB
  rw [← hN] at hn ⊢
  clear hN hp hB
  go_enter Tryz.func130,Tryz.ntmps130
  go_wp2_with fail
  go_loop [11,3] (fun iv sv => ∃ j:Nat,iv = .int .i64 j ∧ sv = .int .i64 (partN (ps.take j):Nat) ∧ j ≤ ps.length) (fun iv _ => ps.length - (intOf iv).toNat)
  case atStart => exact ⟨0,rfl,rfl,Nat.zero_le _⟩
  case round =>
    obtain ⟨j,rfl,rfl,hj⟩:=hrel
    have hle:=HLE.out j
    by_cases hlt:j < ps.length
    · obtain ⟨ad,rfl,hcell⟩:=part_at HB.out hlt
      obtain ⟨h1,h2⟩:=HAT.out j hlt
      obtain ⟨s,hs⟩:∃ s,s = partN (ps.take j):=⟨_,rfl⟩
      obtain ⟨pa,hpa⟩:∃ pa,pa = ps[j]:=⟨_,rfl⟩
      rw [← hs] at h1 h2 hle ⊢
      rw [← hpa] at h1 h2 hcell
      have H1:=Lib.hid h1
      clear h1 hs hpa
      go_wp2_with fail
      go_round
      case rel => exact ⟨j + 1,by go_num,by rw [H1.out]; go_num,by omega⟩
      case measure => simp [intOf]; omega
    · obtain rfl:j = ps.length:=by omega
      have hg:=grow_N N w hn
      rw [HEND.out.1] at hle ⊢
      have HG:=Lib.hid hg
      clear hg
      go_wp2_with fail
      refine HG.out.mono ?_
      rintro e w1 ⟨A1,c1,rfl,hr1,hf1,hb1⟩
      have HR1:=Lib.hid hr1
      have HF1:=Lib.hid hf1
      have HB1:=Lib.hid hb1
      clear hr1 hf1 hb1
      go_wp2_with fail
      go_loopw [27,6] (fun iv sv wr => ∃ (j:Nat) (A:Option Addr) (c m:Nat),iv = .int .i64 j ∧ sv = .slice A m c ∧ j ≤ ps.length ∧ Hid (m = partN (ps.take j)) ∧ ORow wr 27 1 A c m (partC (ps.take j)) ∧ Fr [] w wr ∧ Hid (∀ k,bk A = some k → w.heap.size ≤ k)) (fun iv _ _ => ps.length - (intOf iv).toNat)
      case atStart => exact ⟨0,A1,c1,0,rfl,rfl,Nat.zero_le _,rfl,HR1.out,HF1.out,HB1.out⟩
      case round =>
        obtain ⟨j,A,c,m,rfl,rfl,hj,HM,hrow,hF,HA⟩:=hrel
        have hle:=HLE.out j
        rw [← HM.out] at hle
        by_cases hlt:j < ps.length
        · obtain ⟨ad,rfl,hcell⟩:=part_at (HB.out.fr hF (.inr List.not_mem_nil)) hlt
          obtain ⟨h1,h2⟩:=HAT.out j hlt
          have hpk:=(HP.out ps[j] (List.getElem_mem hlt)).fr hF
          have hcs:=HCS.out j hlt
          rw [← HM.out] at h1 h2
          obtain ⟨pa,hpa⟩:∃ pa,pa = ps[j]:=⟨_,rfl⟩
          rw [← hpa] at h1 h2 hcell hpk hcs
          have H1:=Lib.hid h1
          have HPK:=Lib.hid hpk
          have HC:=Lib.hid hcs
          clear h1 hpa hpk hcs
          go_wp2_with (at_builtin; go_must (
            refine wpList_app _ rfl _ _ 158 27 rfl (Value.pointer none) 1 8 Tryz.underlying158 info_N rfl (by decide) A c m _ rfl hrow pa.A pa.n pa.c pa.cs rfl HPK.out.1 HPK.out.2.1 HPK.out.2.2 (by simp only [maxLen]; omega) (by omega) ?_
            intro A2 c2 w2 hr2 hg2 hb2))
          go_roundw
          case rel => exact ⟨j + 1,A2,c2,m + pa.n,by go_num,rfl,by omega,H1.out.symm,by rw [HC.out]; exact hr2,fr_app (w':=w2) hF HA.out hg2,newA_app (w':=w2) hF HA.out hb2⟩
          case measure => simp [intOf]; omega
        · obtain rfl:j = ps.length:=by omega
          go_wp2_with fail
          go_ret
          rw [HEND.out.2] at hrow
          have hm2:m = N:=HM.out.trans HEND.out.1
          subst hm2
          exact ⟨A,c,rfl,hrow,hF,HA.out⟩
end Go.Proofs.YteohomdiklkbfaaGreat
namespace Go.Proofs.YteohomdiklkbfaaGreat
open Go.RowKit Go.Proofs.Dm

set_option maxHeartbeats 800000 in
theorem splice_N (A B:Option Addr) (n c m d i j:Nat) (cs ws:List Value) (w:World) (hs:Sl w A cs) (hl:cs.length = n * 1) (h1:∀ u ∈ cs,u.oneCell' = true) (hw:Sl w B ws) (hwl:ws.length = m * 1) (hw1:∀ u ∈ ws,u.oneCell' = true)
    (hi:i ≤ n) (hj:j ≤ n) (hc:n ≤ c) (hn:n ≤ 10000) (hm:m ≤ 10000) :
    Calls Tryz.prog 117 #[.slice A n c,.int .i64 (i:Int),.int .i64 (j:Int),.slice B m d] w (NewRow w 27 1 (i + m + (n - j)) (cs.take (i * 1) ++ ws ++ cs.drop (j * 1))):=by
  have r1:=run_upto (P:=Tryz.prog) 158 A n c i und_N 1 size_N (by omega)
  have r2:=run_from (P:=Tryz.prog) 158 A n c j 1 und_N size_N hj
  have HF:Hid (Sl w (fromA A c j 1) (cs.drop (j * 1))):=hs.from_ hl hj hc
  obtain ⟨A',hA'⟩:∃ A',A' = fromA A c j 1:=⟨_,rfl⟩
  rw [← hA'] at r2 HF
  have HC:Hid (∀ (w1:World) (b:Nat) (d:Nat),Fr [] w w1 → Sl w1 (some ⟨b,0,none⟩) [.slice A i c,.slice B m d,.slice A' (n - j) (c - j)] → Calls Tryz.prog 130 #[.slice (some ⟨b,0,none⟩) 3 3] w1 (NewRow w1 27 1 (i + m + (n - j)) (cs.take (i * 1) ++ ws ++ cs.drop (j * 1)))):=by
    show ∀ _,_
    intro w1 b d hf hb
    have:=concat_N (some ⟨b,0,none⟩) 3 [⟨A,i,c,cs.take (i * 1)⟩,⟨B,m,d,ws⟩,⟨A',n - j,c - j,cs.drop (j * 1)⟩] w1 hb (fun p hp => by
      simp only [List.mem_cons,List.not_mem_nil,or_false] at hp
      rcases hp with rfl | rfl | rfl
      · exact ⟨by rw [List.length_take,hl]; show min (i * 1) (n * 1) = i * 1; omega,(hs.take _).fr hf (.inr List.not_mem_nil),fun u hu => h1 u (List.mem_of_mem_take hu)⟩
      · exact ⟨hwl,hw.fr hf (.inr List.not_mem_nil),hw1⟩
      · exact ⟨by rw [List.length_drop,hl]; show n * 1 - j * 1 = (n - j) * 1; omega,HF.out.fr hf (.inr List.not_mem_nil),fun u hu => h1 u (List.mem_of_mem_drop hu)⟩) (by simp [partN]; omega) (by simp)
    simpa [partN,partC,Nat.add_assoc] using this
  obtain ⟨R,hR⟩:∃ R,R = cs.take (i * 1) ++ ws ++ cs.drop (j * 1):=⟨_,rfl⟩
  obtain ⟨N,hN⟩:∃ N,N = i + m + (n - j):=⟨_,rfl⟩
  rw [← hR,← hN] at HC ⊢
  have HW:Hid (∀ b (d:Nat),b = w.heap.size → Sl (w.alloc (.cells #[.slice A i c,.slice B m d,.slice A' (n - j) (c - j)] 158)) (some ⟨b,0,none⟩) [.slice A i c,.slice B m d,.slice A' (n - j) (c - j)]):=by
    show ∀ _,_
    intro b d hb
    subst hb
    exact blk_sl (cs:=[.slice A i c,.slice B m d,.slice A' (n - j) (c - j)]) (Blk.new w 158 _) 3
  have H0:Hid (Fr [] w (w.alloc (.cells #[.slice A i c,.slice B m d,.slice A' (n - j) (c - j)] 158))):=(Fr.refl [] w).alloc _
  have b1:(0:Int) ≤ (i:Int):=by omega
  have b2:(i:Int) ≤ (c:Int):=by omega
  have b3:(0:Int) ≤ (j:Int):=by omega
  have b4:(j:Int) ≤ (n:Int):=by omega
  clear hs hl h1 hw hwl hw1 HF hA' hi hj hn hm hR hN
  go_enter Tryz.func117,Tryz.ntmps117
  go_wp2_with fail
  go_region_with (go_at_call 130; go_must (refine (HC.out _ _ d H0.out.drew (HW.out _ d rfl)).mono ?_; rintro e w1 ⟨A1,c1,rfl,hr1,hf1,hb1⟩))
  all_goals go_simp
  all_goals go_wp2
  all_goals go_ret
  all_goals exact ⟨A1,c1,rfl,hr1,H0.out.drew.trans hf1,fun j hj => by have:=hb1 j hj; simp at this; omega⟩

theorem info_Ns:(Tryz.prog.info? 158).map (fun i => (i.zero,i.size,i.bytes)) = some (some (Value.slice none 0 0),1,24):=by kernel_rfl
set_option maxRecDepth 100000 in
set_option maxHeartbeats 1600000 in
theorem cuts_N {α:Type} (f:α → List Value) (hf:∀ x,(f x).length = 1) (h1:∀ x,∀ u ∈ f x,u.oneCell' = true) (A:Option Addr) (c:Nat) (xs:List α) (w:World) (hs:Sl w A (xs.flatMap f)) (hc:xs.length ≤ c) (hn:xs.length ≤ 10000) :
    Calls Tryz.prog 134 #[.slice A xs.length c] w (CutsAns w ((cutsP xs).map fun l => (l.length,l.flatMap f))):=by
  obtain ⟨Q,hQ⟩:∃ Q,Q = (cutsP xs).map fun l => (l.length,l.flatMap f):=⟨_,rfl⟩
  have H0:Hid (CutQ f Q [] ((xs.length + 5) / 6) xs):=by rw [hQ]; exact List.nil_append _
  rw [← hQ]
  obtain ⟨M,hM⟩:∃ M,M = (xs.length + 5) / 6:=⟨_,rfl⟩
  rw [← hM] at H0
  have hq1:Int.tdiv ((xs.length:Int) + 6 - 1) 6 = (M:Int):=by rw [Int.tdiv_eq_ediv_of_nonneg (by omega)]; omega
  have hq2:((xs.length:Int) + 6 - 1) / 6 = (M:Int):=by omega
  have hM2:M ≤ 10000:=by omega
  have HS:=Lib.hid hs
  obtain ⟨i0,hi,hz0,hz1,hz2⟩:=info_parts info_Ns
  have HMK:Hid (i0.bytes * M ≤ 281474976710656):=by show _ ≤ _; rw [hz2]; omega
  have HI:Hid (Tryz.prog.info? 158 = some i0 ∧ i0.zero = some (Value.slice none 0 0) ∧ i0.size = 1):=⟨hi,hz0,hz1⟩
  have HMM:Hid (M ≤ maxLen):=by show _ ≤ _; simp only [maxLen]; omega
  clear hQ hM hs hi hz0 hz1 hz2
  go_enter Tryz.func134,Tryz.ntmps134
  go_wp2_with (at_make; go_must (
    refine wpList_make_own w rfl _ _ 219 rfl 0 158 i0 (Value.slice none 0 0) 1 Tryz.underlying219 HI.out.1 HI.out.2.1 HI.out.2.2 .i64 .i64 (M:Int) M rfl rfl rfl HMK.out HMM.out (Nat.zero_le _) ?_
    intro w1 hr1 hg1))
  have hr0:ORow w1 158 1 (some ⟨w.heap.size,0,none⟩) M ([]:List Part).length (partV []):=hr1
  have hf0:Fr [] w w1:=(Fr.refl [] w).grown hg1 (by simp)
  have HR0:=Lib.hid hr0
  have HF0:=Lib.hid hf0
  clear hr1 hg1 hr0 hf0 hq1 hq2
  go_loopw [0,3,4] (fun lv mv ov wr => ∃ (m:Nat) (A':Option Addr) (c':Nat) (ys:List α) (B:Option Addr) (d:Nat) (ps:List Part),lv = .slice A' ys.length c' ∧ mv = .int .i64 m ∧ ov = .slice B ps.length d ∧ ys.length ≤ 10000 ∧ ys.length ≤ c' ∧ m + ps.length ≤ 10000 ∧ Hid (Kp [bk B] wr fun w => Sl w A' (ys.flatMap f)) ∧ Hid (ORow wr 158 1 B d ps.length (partV ps)) ∧ Hid (CutQ f Q ps m ys) ∧ Hid (∀ p ∈ ps,Kp [bk B] wr (fun w => Sl w p.A p.cs) ∧ p.n ≤ p.c ∧ ∀ j,bk p.A = some j → w.heap.size ≤ j) ∧ Hid (Fr [] w wr) ∧ Hid (∀ j,bk B = some j → w.heap.size ≤ j)) (fun _ mv _ _ => (intOf mv).toNat)
  case atStart => exact ⟨M,A,c,xs,_,_,[],rfl,rfl,rfl,hn,hc,hM2,(sl_kp HS.out (fun k hk => by rw [List.mem_singleton] at hk; injection hk with hk; exact Nat.le_of_eq hk.symm)).fr0 HF0.out,HR0.out,H0.out,fun p hp => by simp at hp,HF0.out,fun j hj => by injection hj with hj; exact Nat.le_of_eq hj⟩
  case round =>
    clear HR0 HF0 HS hM2 hn hc H0 HMK HI HMM
    obtain ⟨m,A',c',ys,B,d,ps,rfl,rfl,rfl,hn,hc,hm,HS,HR,HQ,HP,HF,HB⟩:=hrel
    by_cases hlt:0 < m
    · obtain ⟨k,rfl⟩:∃ k,m = k + 1:=⟨m - 1,by omega⟩
      obtain ⟨q,hq⟩:∃ q,q = ys.length / (k + 1):=⟨_,rfl⟩
      have hd:(ys.length:Int) / ((k:Int) + 1) = (q:Int):=by rw [hq]; rfl
      have hd':(ys.length:Int) / ((k + 1:Nat):Int) = (q:Int):=by rw [hq]; rfl
      have ht:Int.tdiv (ys.length:Int) ((k:Int) + 1) = (q:Int):=by rw [Int.tdiv_eq_ediv_of_nonneg (by omega)]; exact hd
      have ht':Int.tdiv (ys.length:Int) ((k + 1:Nat):Int) = (q:Int):=ht
      have hqn:q ≤ ys.length:=by rw [hq]; exact Nat.div_le_self _ _
      have HQ2:Hid (∀ A c,CutQ f Q (ps ++ [⟨A,q,c,(ys.flatMap f).take (q * 1)⟩]) k (ys.drop q)):=by
        show ∀ _,_
        intro A c
        rw [hq]
        exact cutQ_step hf HQ.out A c
      have r1:=run_upto (P:=Tryz.prog) 158 A' ys.length c' q und_N 1 size_N (by omega)
      have r2:=run_from (P:=Tryz.prog) 158 A' ys.length c' q 1 und_N size_N hqn
      have HL:Hid (∀ w',Fr [] wr w' → Calls Tryz.prog 145 #[.slice A' q c'] w' (NewRow w' 27 1 q ((ys.flatMap f).take (q * 1)))):=by
        show ∀ _,_
        intro w' hf'
        exact clone_N A' q c' _ w' ((HS.out.now.take _).fr hf' (.inr List.not_mem_nil)) (by rw [← enc_take hf,enc_len hf,List.length_take]; congr 1; omega) (fun u hu => enc_one h1 ys u (List.mem_of_mem_take hu)) (by omega)
      have HS2:Hid (Kp [bk B] wr fun w => Sl w (fromA A' c' q 1) ((ys.drop q).flatMap f)):=by
        rw [enc_drop hf]
        exact HS.out.mono fun w' h => h.from_ (enc_len hf ys) hqn hc
      have HDL:Hid ((ys.drop q).length = ys.length - q):=List.length_drop
      obtain ⟨A'',hA''⟩:∃ A'',A'' = fromA A' c' q 1:=⟨_,rfl⟩
      rw [← hA''] at r2 HS2
      clear hq hA''
      go_wp2_with fail
      refine (HL.out wr (Fr.refl _ _)).mono ?_
      rintro e w2 ⟨A1,c1,rfl,hr1,hf1,hb1⟩
      have HR1:=Lib.hid hr1
      have HB1:=Lib.hid hb1
      have HF1:=Lib.hid hf1
      clear hr1 hb1 hf1
      go_wp2_with (at_builtin; go_must (
        refine wpList_app _ rfl _ _ 219 158 rfl (Value.slice none 0 0) 1 24 Tryz.underlying219 info_Ns rfl (by decide) B d ps.length (partV ps) rfl (ORow.fr HR.out (HF1.out.alloc _) (.inr List.not_mem_nil)) _ 1 1 [.slice A1 q c1] rfl rfl (sl_new w2 _ 158) (by intro u hu; rw [List.mem_singleton] at hu; subst hu; rfl) (by simp only [maxLen]; omega) (by omega) ?_
        intro A2 c2 w3 hr3 hg3 hb3
        have HR3:=Lib.hid hr3
        have HG3:=Lib.hid hg3
        have HB3:=Lib.hid hb3
        clear hr3 hg3 hb3))
      go_roundw
      case rel =>
        refine ⟨k,A'',c' - q,ys.drop q,A2,c2,ps ++ [⟨A1,q,c1,(ys.flatMap f).take (q * 1)⟩],by rw [HDL.out],by go_num,by simp,by rw [HDL.out]; omega,by rw [HDL.out]; omega,by simp; omega,?_,?_,?_,?_,?_,?_⟩
        · have s1:=HF1.out.size
          refine HS2.out.grow ((HF1.out.alloc _).of_nil.trans HG3.out) fun k hk => ?_
          rw [List.mem_singleton] at hk
          rcases HB3.out with h | h
          · exact .inl (by rw [hk,h]; exact List.mem_singleton.2 rfl)
          · rw [h] at hk; injection hk with hk; exact .inr (by simp at hk; omega)
        · have:=HR3.out
          show ORow _ _ _ _ _ _ _
          rw [partV_app]
          simpa [partV,Part.val] using this
        · exact HQ2.out A1 c1
        · exact cut_keep HP.out HF.out HF1.out ((Fr.refl [] w2).alloc _) HG3.out (fun j hj => ORow.lt HR.out hj) HB3.out HR1.out HB1.out
        · exact fr_app (HF.out.trans (HF1.out.trans ((Fr.refl [] w2).alloc _))) HB.out HG3.out
        · exact newA_app (w':=w3) (HF.out.trans (HF1.out.trans ((Fr.refl [] w2).alloc _))) HB.out HB3.out
      case measure => simp [intOf]
    · obtain rfl:m = 0:=by omega
      have hq:=HQ.out
      have HEND:Hid (ps.map (fun p => (p.n,p.cs)) = Q):=by
        have:CutQ f Q ps 0 ys:=HQ.out
        show _ = _
        simpa [CutQ,cutsF] using this
      clear hq HQ
      go_wp2_with fail
      go_ret
      exact ⟨B,d,ps,rfl,ORow.sl HR.out,HEND.out,fun p hp => ⟨(HP.out p hp).1.now,(HP.out p hp).2⟩,HF.out⟩
end Go.Proofs.YteohomdiklkbfaaGreat
