import Derived.Test.YteohomdiklkbfaaGreatA19
namespace Go.Proofs.YteohomdiklkbfaaGreat
open Go.RowKit Go.Proofs.Dm
variable {E:List (Option Nat)}

theorem take_all (ks:List (Nat × List RV)) (q j:Nat) (hq:q < ks.length) (hj:j ≤ ks[q].2.length):(allOf ks).take (sumOf (ks.take q) + j) = allOf (ks.take q) ++ ks[q].2.take j:=by
  rw [allOf_split ks q hq,sumOf_eq,List.take_length_add_append,List.take_append_of_le_length hj]
def AncB (E:List (Option Nat)) (w:World) (N:Nat):Nat → List (Nat × Nat × Nat) → Nat → Nat → List RV → Prop
  | _,[],a,c,ah => a = 0 ∧ c = N ∧ ah = []
  | h,f :: fs,a,c,ah => ∃ (ks:List (Nat × List RV)) (A:Option Addr) (cp:Nat) (ah':List RV),Kp E w (fun w => Blk w f.1 TN #[.slice A ks.length cp,.slice none 0 0,.int .i64 ((allOf ks).length:Nat)] ∧ Sl w A (ptrs (ks.map (·.1)))) ∧ ks.length ≤ 6 ∧
      NodesAt TN E w h 3 ks ∧ (∃ hk:f.2.2 < ks.length,c = ks[f.2.2].2.length) ∧ f.2.1 = a ∧ sumOf (ks.take f.2.2) ≤ a ∧ ah = ah' ++ allOf (ks.take f.2.2) ∧ AncB E w N (h + 1) fs (a - sumOf (ks.take f.2.2)) (sumOf ks) ah'
theorem AncB.len {w:World} {N:Nat}:∀ {fs:List (Nat × Nat × Nat)} {h a c:Nat} {ah:List RV},AncB E w N h fs a c ah → a + c ≤ N ∧ ah.length = a
  | [],_,_,_,_,⟨h1,h2,h3⟩ => by subst h1 h2 h3; simp
  | f :: fs,h,a,c,ah,⟨ks,A,cp,ah',_,_,_,⟨hk,hc⟩,_,hs,hr,ht⟩ => by
    have:=AncB.len ht
    have h2:=sumOf_all ks f.2.2 hk
    have h3:(allOf (ks.take f.2.2)).length = sumOf (ks.take f.2.2):=(sumOf_eq _).symm
    have h4:sumOf ks = (allOf ks).length:=sumOf_eq _
    rw [hr,List.length_append,h3]
    omega
def TopB (E:List (Option Nat)) (w:World) (N:Nat) (fs:List (Nat × Nat × Nat)) (L:List RV):Prop :=
  ∃ (g a nx:Nat) (fs2:List (Nat × Nat × Nat)) (lo:Nat) (xs ah:List RV),fs = (g,a,nx) :: fs2 ∧ NodeAt TN E w 0 lo g xs ∧ nx < xs.length ∧ AncB E w N 0 fs2 a xs.length ah ∧ L = ah ++ xs.take (nx + 1)
def DownB (E:List (Option Nat)) (w0 w:World) (gs N:Nat) (A:Option Addr) (n:Nat) (L:List RV) (en:Ending) (w':World):Prop :=
  ∃ (A':Option Addr) (c':Nat) (fs':List (Nat × Nat × Nat)),en = .returned (.tuple #[]) ∧ StkOf E w0 w' gs A' c' fs' ∧ TopB E w0 N fs' L ∧ StkCh gs w w' A A' ∧ fs'.length ≤ n
set_option maxRecDepth 100000 in
set_option maxHeartbeats 1600000 in
theorem downB_any (w0 w:World) (gs g h lo a d i c N:Nat) (A:Option Addr) (fs:List (Nat × Nat × Nat)) (xs rest:List RV) (hst:StkOf E w0 w gs A c fs) (hn:NodeAt TN E w0 h lo g xs) (ha:AncB E w0 N h fs a xs.length rest) (hd:d < xs.length) (hi:i = a + d) (hN:N ≤ 100000) (hl:fs.length + h ≤ 900) :
    Calls Tryz.prog 78 #[.pointer (some ⟨gs,0,none⟩),.pointer (some ⟨g,0,none⟩),.int .i64 (a:Nat),.int .i64 (i:Nat)] w (DownB E w0 w gs N A (fs.length + h + 1) (rest ++ xs.take (d + 1))):=by
  obtain ⟨L,hL⟩:∃ L,L = rest ++ xs.take (d + 1):=⟨_,rfl⟩
  rw [← hL]
  obtain ⟨M,hM⟩:∃ M,M = fs.length + h + 1:=⟨_,rfl⟩
  rw [← hM]
  have HN0:=Lib.hid hn
  have HA0:=Lib.hid ha
  have HST:=Lib.hid hst
  have HI:=Lib.hid hi
  have HL:=Lib.hid hL
  have HM:=Lib.hid hM
  have hlen:=ha.len.1
  have hi2:i ≤ 100000:=by omega
  have HM2:Hid (M ≤ 901):=by show _ ≤ _; omega
  have hf0:fs.length + h + 1 ≤ M:=by omega
  have ha2:a ≤ 100000:=by omega
  clear hn ha hst hi hL hM hlen hl
  go_enter Tryz.func78,Tryz.ntmps78
  go_wp2_with fail
  go_loopg [1,2] h (fun k nv fv wr => ∃ (g a d lo:Nat) (A':Option Addr) (c:Nat) (fs:List (Nat × Nat × Nat)) (xs rest:List RV),nv = .pointer (some ⟨g,0,none⟩) ∧ fv = .int .i64 (a:Nat) ∧ a ≤ 100000 ∧ Hid (i = a + d) ∧ d < xs.length ∧ Hid (StkOf E w0 wr gs A' c fs) ∧ Hid (NodeAt TN E w0 k lo g xs) ∧ Hid (AncB E w0 N k fs a xs.length rest) ∧ Hid (L = rest ++ xs.take (d + 1)) ∧ Hid (StkCh gs w wr A A') ∧ fs.length + k + 1 ≤ M)
  case atStart => exact ⟨g,a,d,lo,A,c,fs,xs,rest,rfl,rfl,ha2,HI.out,hd,HST.out,HN0.out,HA0.out,HL.out,StkCh.refl _ _ _,hf0⟩
  case round =>
    clear HN0 HA0 HST HI HL HM hd ha2 hf0
    obtain ⟨g,a,d,lo,A',c,fs,xs,rest,rfl,rfl,ha2,HI,hd,HST,HN0,HA0,HL,HCH,hf0⟩:=hrel
    cases gk with
    | zero =>
      obtain ⟨_,h6,Ai,ci,hc,hk⟩:=HN0.out.fr HST.out.2.1
      have c0:wr.cell? ⟨g,0,none⟩ = some (.slice none 0 0):=hk.now.1.cell 0
      have e0:wr.cell? ⟨gs,0,none⟩ = some (.slice A' fs.length c):=HST.out.1.1.cell 0
      have hsub:(i:Int) - (a:Int) = (d:Int):=by have:=HI.out; omega
      have HM3:Hid (fs.length + 1 ≤ 901):=by show _ ≤ _; have:=HM2.out; omega
      have HEND:Hid (∀ (A2:Option Addr) (c2:Nat) (wx:World),StkOf E w0 wx gs A2 c2 ((g,a,d) :: fs) → StkCh gs wr wx A' A2 → DownB E w0 w gs N A M L (.returned (.tuple #[])) wx):=by
        show ∀ _,_
        intro A2 c2 wx h1 h2
        exact ⟨A2,c2,_,rfl,h1,⟨g,a,d,fs,lo,xs,rest,rfl,HN0.out,by omega,HA0.out,HL.out⟩,HCH.out.trans h2,by simp; omega⟩
      clear hk
      go_wp2_with (at_builtin; go_must (
        refine wpList_app _ rfl _ _ 149 TF rfl _ 3 24 Tryz.underlying149 infoF rfl (by decide) A' c fs.length (frs fs) rfl (ORow.fr HST.out.1.2.1 ((Fr.refl [] wr).alloc _) (.inr List.not_mem_nil)) _ 1 1 (frc (g,a,d)) rfl rfl (sl_frame wr (g,a,d)) (by intro u hu; exact frs_one [(g,a,d)] u (by simpa [frs] using hu)) (by have:=HM3.out; simp only [maxLen]; omega) (by have:=HM3.out; omega) ?_
        intro A2 c2 w2 hr2 hg2 hb2
        obtain ⟨k0,k1,k2⟩:=stk_cells HST.out ((Fr.refl [] wr).alloc _) hg2
        have HP:=Lib.hid (stk_push HST.out ((Fr.refl [] wr).alloc _) hr2 hg2 hb2)
        clear hr2 hg2 hb2))
      refine bodyPost_ret (results_none rfl _ _ _) rfl ?_
      exact HEND.out A2 c2 _ HP.out.1 HP.out.2
    | succ k =>
      have hn1:=HN0.out.fr HST.out.2.1
      obtain ⟨ks,A2,cp,hlo,h1,h6,rfl,hc,hk,hks⟩:=HN0.out
      have hkr:=hk.fr HST.out.2.1
      have c0:wr.cell? ⟨g,0,none⟩ = some (.slice A2 ks.length cp):=hkr.now.1.cell 0
      obtain ⟨ad,rfl,_⟩:=sl_ptrs hkr.now.2 (j:=0) (by rw [List.length_map]; omega)
      have HSL:=Lib.hid hkr.now.2
      have HKS:=Lib.hid hks
      have HK:=Lib.hid hk
      have hpos:(0:Int) < (ks.length:Int):=by omega
      have hal:(ks.map (·.2)).flatten = allOf ks:=rfl
      rw [hal] at hd HL HA0
      have HD:=Lib.hid hd
      have hxl:=HA0.out.len.1
      have hda:a + d ≤ 100000:=by omega
      obtain ⟨wo,rfl⟩:∃ wo:World,wo = wr:=⟨_,rfl⟩
      clear hn1 hk hks hkr hal hd hxl
      go_wp2_with fail
      go_loop [8,2] (fun kv fv => ∃ q:Nat,kv = .int .i64 q ∧ fv = .int .i64 ((a + sumOf (ks.take q):Nat)) ∧ q < ks.length ∧ Hid (sumOf (ks.take q) ≤ d)) (fun kv _ => ks.length - (intOf kv).toNat)
      case atStart => exact ⟨0,rfl,by simp [sumOf],h1,by show _ ≤ _; simp [sumOf]⟩
      case round =>
        obtain ⟨q,rfl,rfl,hq,HQ⟩:=hrel
        have hkm:=HKS.out ks[q] (List.getElem_mem hq)
        have hsn:=sumOf_snoc ks q hq
        have hse:=sumOf_all ks q hq
        rw [sumOf_eq ks] at hse
        obtain ⟨ad',he,hcell⟩:=sl_ptrs HSL.out (j:=q) (by rw [List.length_map]; exact hq)
        injection he with he
        subst he
        rw [List.getElem_map] at hcell
        have hk2:wo.cell? ⟨ks[q].1,2,none⟩ = some (.int .i64 (ks[q].2.length:Nat)):=(hkm.fr HST.out.2.1).cell2
        obtain ⟨sq,hsq⟩:∃ sq,sq = sumOf (ks.take q):=⟨_,rfl⟩
        obtain ⟨kx,hkx⟩:∃ kx,kx = ks[q].2:=⟨_,rfl⟩
        obtain ⟨kg,hkg⟩:∃ kg,kg = ks[q].1:=⟨_,rfl⟩
        have hrs:allOf (ks.take q) ++ (kx ++ allOf (ks.drop (q + 1))) = allOf ks:=by rw [hkx]; exact (allOf_split ks q hq).symm
        rw [← hsq] at hsn hse HQ ⊢
        rw [← hkx] at hsn hse hk2 hkm
        rw [← hkg] at hcell hk2 hkm
        obtain ⟨f,hf⟩:∃ f,f = a + sq:=⟨_,rfl⟩
        rw [← hf]
        have HSN:=Lib.hid hsn
        have HKG:Hid (ks[q].1 = kg):=hkg.symm
        have hkm6:kx.length ≤ 100000:=by have:=HA0.out.len.1; omega
        have hf6:f ≤ 100000:=by have:=HD.out; have:=HQ.out; omega
        have HF:=Lib.hid hf
        have HEX:Hid (q + 1 = ks.length ∨ i < f + kx.length → d - sq < kx.length):=by
          show _ → _
          intro h
          have h1:=HI.out
          have h2:=HQ.out
          have h3:=HD.out
          rcases h with h | h
          · have:ks.drop (q + 1) = []:=List.drop_eq_nil_of_le (by omega)
            rw [this] at hse
            simp [sumOf] at hse
            omega
          · omega
        have HRND:Hid (d - sq < kx.length → NodeAt TN E w0 k 3 kg kx ∧ AncB E w0 N k ((g,f,q) :: fs) f kx.length (rest ++ allOf (ks.take q)) ∧ L = (rest ++ allOf (ks.take q)) ++ kx.take (d - sq + 1) ∧ i = f + (d - sq)):=by
          show _ → _
          intro h
          have h1:=HI.out
          have h2:=HQ.out
          refine ⟨hkm,⟨ks,some ad,cp,rest,HK.out,h6,HKS.out,⟨hq,by rw [hkx]⟩,rfl,by show sumOf (ks.take q) ≤ f; omega,rfl,?_⟩,?_,by omega⟩
          · show AncB E w0 N (k + 1) fs (f - sumOf (ks.take q)) (sumOf ks) rest
            rw [← hsq,show f - sq = a by omega,sumOf_eq]
            exact HA0.out
          · rw [HL.out,List.append_assoc]
            congr 1
            have:=take_all ks q (d - sq + 1) hq (by rw [← hkx]; omega)
            rw [← hsq,show sq + (d - sq + 1) = d + 1 by omega,← hkx] at this
            exact this
        have e0:wo.cell? ⟨gs,0,none⟩ = some (.slice A' fs.length c):=HST.out.1.1.cell 0
        have HM3:Hid (fs.length + 1 ≤ 901):=by show _ ≤ _; have:=HM2.out; omega
        clear hkm hsn hse hsq hkx hkg hrs hf
        by_cases hcont:q + 1 < ks.length ∧ f + kx.length ≤ i
        · obtain ⟨hc1,hc2⟩:=hcont
          have hg1:(q:Int) < (ks.length:Int) - 1:=by omega
          have hg2:(f:Int) + (kx.length:Int) ≤ (i:Int):=by omega
          go_wp2_with fail
          go_round
          case rel => exact ⟨q + 1,by go_num,by rw [HSN.out]; have:=HF.out; congr 1; omega,hc1,by show _ ≤ _; rw [HSN.out]; have:=HF.out; have:=HI.out; omega⟩
          case measure => simp [intOf]; omega
        · have hex:=HEX.out (by omega)
          obtain ⟨q1,q2,q3,q4⟩:=HRND.out hex
          have HQ1:=Lib.hid q1
          have HQ2:=Lib.hid q2
          have HQ3:=Lib.hid q3
          have HQ4:=Lib.hid q4
          obtain ⟨d',hd'⟩:∃ d',d' = d - sq:=⟨_,rfl⟩
          rw [← hd'] at HQ3 HQ4 hex
          have HEX':=Lib.hid hex
          clear q1 q2 q3 q4 hex hd' HEX HRND HSN
          by_cases hlast:q + 1 = ks.length
          · have hg1:¬ ((q:Int) < (ks.length:Int) - 1):=by omega
            go_wp2_with (at_builtin; go_must (
              refine wpList_app _ rfl _ _ 149 TF rfl _ 3 24 Tryz.underlying149 infoF rfl (by decide) A' c fs.length (frs fs) rfl (ORow.fr HST.out.1.2.1 ((Fr.refl [] wo).alloc _) (.inr List.not_mem_nil)) _ 1 1 (frc (g,f,q)) rfl rfl (sl_frame wo (g,f,q)) (by intro u hu; exact frs_one [(g,f,q)] u (by simpa [frs] using hu)) (by have:=HM3.out; simp only [maxLen]; omega) (by have:=HM3.out; omega) ?_
              intro A2 c2 w2 hr2 hg2 hb2
              obtain ⟨k0,k1,k2⟩:=stk_cells HST.out ((Fr.refl [] wo).alloc _) hg2
              have HP:=Lib.hid (stk_push HST.out ((Fr.refl [] wo).alloc _) hr2 hg2 hb2)
              have hf2:=HP.out.1.2.1
              have hkr:=HK.out.fr hf2
              have m0:(w2.setCell ⟨gs,0,none⟩ (.slice A2 (fs.length + 1) c2)).cell? ⟨g,0,none⟩ = some (.slice (some ad) ks.length cp):=hkr.now.1.cell 0
              obtain ⟨ad',he,m1⟩:=sl_ptrs hkr.now.2 (j:=q) (by rw [List.length_map]; exact hq)
              injection he with he
              subst he
              rw [List.getElem_map,show ks[q].1 = kg from HKG.out] at m1
              clear hr2 hg2 hb2 hf2 hkr))
            go_roundg k
            case rel =>
              exact ⟨kg,f,d',3,A2,c2,(g,f,q) :: fs,kx,rest ++ allOf (ks.take q),rfl,rfl,hf6,HQ4.out,HEX'.out,HP.out.1,HQ1.out,HQ2.out,HQ3.out,HCH.out.trans HP.out.2,by simp; omega⟩
            case measure => omega
          · have hg1:(q:Int) < (ks.length:Int) - 1:=by omega
            have hg2:(i:Int) < (f:Int) + (kx.length:Int):=by omega
            go_wp2_with (at_builtin; go_must (
              refine wpList_app _ rfl _ _ 149 TF rfl _ 3 24 Tryz.underlying149 infoF rfl (by decide) A' c fs.length (frs fs) rfl (ORow.fr HST.out.1.2.1 ((Fr.refl [] wo).alloc _) (.inr List.not_mem_nil)) _ 1 1 (frc (g,f,q)) rfl rfl (sl_frame wo (g,f,q)) (by intro u hu; exact frs_one [(g,f,q)] u (by simpa [frs] using hu)) (by have:=HM3.out; simp only [maxLen]; omega) (by have:=HM3.out; omega) ?_
              intro A2 c2 w2 hr2 hg2 hb2
              obtain ⟨k0,k1,k2⟩:=stk_cells HST.out ((Fr.refl [] wo).alloc _) hg2
              have HP:=Lib.hid (stk_push HST.out ((Fr.refl [] wo).alloc _) hr2 hg2 hb2)
              have hf2:=HP.out.1.2.1
              have hkr:=HK.out.fr hf2
              have m0:(w2.setCell ⟨gs,0,none⟩ (.slice A2 (fs.length + 1) c2)).cell? ⟨g,0,none⟩ = some (.slice (some ad) ks.length cp):=hkr.now.1.cell 0
              obtain ⟨ad',he,m1⟩:=sl_ptrs hkr.now.2 (j:=q) (by rw [List.length_map]; exact hq)
              injection he with he
              subst he
              rw [List.getElem_map,show ks[q].1 = kg from HKG.out] at m1
              clear hr2 hg2 hb2 hf2 hkr))
            go_roundg k
            case rel =>
              exact ⟨kg,f,d',3,A2,c2,(g,f,q) :: fs,kx,rest ++ allOf (ks.take q),rfl,rfl,hf6,HQ4.out,HEX'.out,HP.out.1,HQ1.out,HQ2.out,HQ3.out,HCH.out.trans HP.out.2,by simp; omega⟩
            case measure => omega
end Go.Proofs.YteohomdiklkbfaaGreat
