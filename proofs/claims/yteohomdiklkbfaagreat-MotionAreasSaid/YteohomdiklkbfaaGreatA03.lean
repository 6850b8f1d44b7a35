import Derived.Test.YteohomdiklkbfaaGreatA02
import Derived.Test.YteohomdiklkbfaaGreatProg
import Derived.Deep.LoopGhost
import Derived.IntWalk
import Derived.Deep.RegionWith
import Derived.Deep.RegionLaw
namespace Go.Proofs.YteohomdiklkbfaaGreat
open Go.RowKit Go.Proofs.Dm

abbrev TRd:TypeId:=180
def RdAt (w:World) (g:Nat) (A:Option Addr) (c:Nat) (s:List UInt8) (a:Nat):Prop:=Blk w g TRd #[.slice A s.length c,.int .i64 (a:Nat)] ∧ Kp [some g] w (fun w => Sl w A (bts s))
theorem RdAt.fr0 {w w':World} {g c a:Nat} {A:Option Addr} {s:List UInt8} (h:RdAt w g A c s a) (hf:Fr [] w w'):RdAt w' g A c s a:=⟨h.1.fr hf (by simp),h.2.fr0 hf⟩
theorem RdAt.frS {S:List (Option Nat)} {w w':World} {g c a:Nat} {A:Option Addr} {s:List UInt8} (h:RdAt w g A c s a) (hf:Fr S w w') (hS:some g ∉ S) (hA:Kp [some g] w' (fun w => Sl w A (bts s))):RdAt w' g A c s a:=⟨h.1.fr hf hS,hA⟩
theorem RdAt.set {w:World} {g c a:Nat} {A:Option Addr} {s:List UInt8} (h:RdAt w g A c s a) (b:Nat):RdAt (w.setCell ⟨g,1,none⟩ (.int .i64 (b:Nat))) g A c s b ∧ Fr [some g] w (w.setCell ⟨g,1,none⟩ (.int .i64 (b:Nat))):=by
  have hf:Fr [some g] w (w.setCell ⟨g,1,none⟩ (.int .i64 (b:Nat))):=(Fr.refl _ w).setB (by simp) 1 _
  exact ⟨⟨h.1.set_ 1 _,h.2.fr hf⟩,hf⟩
def Qt (w:World) (v:Value) (e:Ending) (w':World):Prop:=e = .returned v ∧ ∃ m,w' = w.drewN m
theorem Qt.fr {w w':World} {v:Value} {e:Ending} (h:Qt w v e w'):e = .returned v ∧ Fr [] w w':=⟨h.1,by obtain ⟨m,rfl⟩:=h.2; exact (Fr.refl [] w).drewN m⟩
theorem u8_eq (x y:UInt8):(((x.toNat:Nat):Int) == ((y.toNat:Nat):Int)) = (x == y):=by
  rw [Bool.eq_iff_iff]
  simp [UInt8.toNat_inj,Int.natCast_inj]
set_option maxHeartbeats 400000 in
theorem done_any (w:World) (g c a:Nat) (A:Option Addr) (s:List UInt8) (h:RdAt w g A c s a) :
    Calls Tryz.prog 97 #[.pointer (some ⟨g,0,none⟩)] w (Qt w (.bool (decide (s.length ≤ a)))):=by
  have c0:w.cell? ⟨g,0,none⟩ = some (.slice A s.length c):=h.1.cell 0
  have c1:w.cell? ⟨g,1,none⟩ = some (.int .i64 (a:Nat)):=h.1.cell 1
  obtain ⟨b,hb⟩:∃ b,b = decide (s.length ≤ a):=⟨_,rfl⟩
  have HB:Hid (decide ((s.length:Int) ≤ (a:Int)) = b):=by show _ = _; rw [hb]; simp
  rw [← hb]
  clear h hb
  go_enter Tryz.func97,Tryz.ntmps97
  go_wp2_with fail
  go_quiet (fail)
  go_wp2_with fail
  go_ret
  refine ⟨?_,nq,rfl⟩
  rw [← HB.out]
  simp
def isB (s:List UInt8) (a:Nat) (x:UInt8):Bool:=s[a]? == some x
theorem isB_lt {s:List UInt8} {a:Nat} (h:a < s.length) (x:UInt8):isB s a x = (s[a] == x):=by
  unfold isB
  rw [List.getElem?_eq_getElem h]
  rfl
theorem isB_ge {s:List UInt8} {a:Nat} (h:s.length ≤ a) (x:UInt8):isB s a x = false:=by
  unfold isB
  rw [List.getElem?_eq_none h]
  rfl
set_option maxHeartbeats 800000 in
theorem is_any (w:World) (g c a:Nat) (A:Option Addr) (s:List UInt8) (x:UInt8) (h:RdAt w g A c s a) :
    Calls Tryz.prog 119 #[.pointer (some ⟨g,0,none⟩),.int .u8 ((x.toNat:Nat):Int)] w (Qt w (.bool (isB s a x))):=by
  have c0:w.cell? ⟨g,0,none⟩ = some (.slice A s.length c):=h.1.cell 0
  have c1:w.cell? ⟨g,1,none⟩ = some (.int .i64 (a:Nat)):=h.1.cell 1
  have hd:∀ m,Calls Tryz.prog 97 #[.pointer (some ⟨g,0,none⟩)] (w.drewN m) fun e w' => e = .returned (.bool (decide (s.length ≤ a))) ∧ ∃ k,w' = (w.drewN m).drewN k:=fun m => done_any (w.drewN m) g c a A s (h.fr0 ((Fr.refl [] w).drewN m))
  rcases Nat.lt_or_ge a s.length with hlt | hge
  · rw [decide_eq_false (by omega)] at hd
    obtain ⟨ad,rfl,hcell⟩:=sl_bts h.2.now hlt
    have h1:(a:Int) < (s.length:Int):=by omega
    have h2:(0:Int) ≤ (a:Int):=by omega
    rw [isB_lt hlt]
    obtain ⟨y,hy⟩:∃ y,y = s[a]:=⟨_,rfl⟩
    rw [← hy] at hcell ⊢
    rw [← u8_eq]
    obtain ⟨b,hb⟩:∃ b,b = (((y.toNat:Nat):Int) == ((x.toNat:Nat):Int)):=⟨_,rfl⟩
    rw [← hb]
    have HB:=Lib.hid hb
    clear h hy hb
    go_enter Tryz.func119,Tryz.ntmps119
    go_wp2_with fail
    go_quiet ((exact Calls.quiet_of (hd _)))
    clear hd
    go_wp2_with fail
    go_ret
    refine ⟨?_,nq,rfl⟩
    rw [HB.out]
    simp
  · rw [decide_eq_true hge] at hd
    rw [isB_ge hge]
    clear h
    go_enter Tryz.func119,Tryz.ntmps119
    go_wp2_with fail
    go_quiet ((exact Calls.quiet_of (hd _)))
    clear hd
    go_wp2_with fail
    go_ret
    exact ⟨rfl,nq,rfl⟩
def markB (s:List UInt8) (a:Nat):Bool:=match s[a]? with | none => true | some x => isMark x
set_option maxHeartbeats 800000 in
theorem marked_any (w:World) (g c a:Nat) (A:Option Addr) (s:List UInt8) (h:RdAt w g A c s a) :
    Calls Tryz.prog 148 #[.pointer (some ⟨g,0,none⟩)] w (Qt w (.bool (markB s a))):=by
  have hd:=Lib.hid (done_any w g c a A s h)
  have HR:=Lib.hid h
  rcases Nat.lt_or_ge a s.length with hlt | hge
  · rw [decide_eq_false (by omega)] at hd
    have hm:markB s a = isMark s[a]:=by unfold markB; rw [List.getElem?_eq_getElem hlt]
    rw [hm]
    obtain ⟨ad,rfl,hcell⟩:=sl_bts h.2.now hlt
    have hcl:∀ w',Fr [] w w' → w'.cell? (ad.add a) = some (.int .u8 ((s[a].toNat:Nat):Int)):=fun w' hf => (hf.cell (World.block_lt_of_cell? w _ hcell) (by simp)).trans hcell
    have HC:=Lib.hid hcl
    have h1:(a:Int) < (s.length:Int):=by omega
    have h2:(0:Int) ≤ (a:Int):=by omega
    obtain ⟨y,hy⟩:∃ y,y = s[a]:=⟨_,rfl⟩
    rw [← hy] at HC ⊢
    have e1:(((y.toNat:Nat):Int) == 44) = (y == 44):=u8_eq y 44
    have e2:(((y.toNat:Nat):Int) == 13) = (y == 13):=u8_eq y 13
    have e3:(((y.toNat:Nat):Int) == 10) = (y == 10):=u8_eq y 10
    have HM:isMark y = ((y == 44) || (y == 13) || (y == 10)):=rfl
    rw [HM]
    obtain ⟨b1,hb1⟩:∃ b1,b1 = (y == 44):=⟨_,rfl⟩
    obtain ⟨b2,hb2⟩:∃ b2,b2 = (y == 13):=⟨_,rfl⟩
    obtain ⟨b3,hb3⟩:∃ b3,b3 = (y == 10):=⟨_,rfl⟩
    rw [← hb1] at e1 ⊢
    rw [← hb2] at e2 ⊢
    rw [← hb3] at e3 ⊢
    have E1:=Lib.hid e1
    have E2:=Lib.hid e2
    have E3:=Lib.hid e3
    clear h hy hcell hcl hm HM e1 e2 e3 hb1 hb2 hb3
    cases b1 <;> cases b2 <;> cases b3
    all_goals
      go_enter Tryz.func148,Tryz.ntmps148
      go_wp2_with fail
      refine hd.out.mono ?_
      rintro e w1 hq
      obtain ⟨rfl,hf⟩:=hq.fr
      have hr1:=HR.out.fr0 hf
      have c0:w1.cell? ⟨g,0,none⟩ = some (.slice (some ad) s.length c):=hr1.1.cell 0
      have c1:w1.cell? ⟨g,1,none⟩ = some (.int .i64 (a:Nat)):=hr1.1.cell 1
      have c2:=HC.out w1 hf
      have HQ:=Lib.hid hq.2
      have e1:=E1.out
      have e2:=E2.out
      have e3:=E3.out
      clear hr1 hq hf
      go_wp2_with fail
      go_quiet (fail)
      go_wp2_with fail
      go_ret
      refine ⟨rfl,?_⟩
      obtain ⟨m,rfl⟩:=HQ.out
      exact ⟨m + nq,by rw [World.drewN_drewN]⟩
  · rw [decide_eq_true hge] at hd
    have hm:markB s a = true:=by unfold markB; rw [List.getElem?_eq_none hge]
    rw [hm]
    clear h hm
    go_enter Tryz.func148,Tryz.ntmps148
    go_wp2_with fail
    refine hd.out.mono ?_
    rintro e w1 hq
    obtain ⟨rfl,hf⟩:=hq.fr
    have HQ:=Lib.hid hq.2
    clear hq hf
    go_wp2_with fail
    go_ret
    exact ⟨rfl,HQ.out⟩
theorem tillP_more (s:List UInt8) (a:Nat) (h:markB s a = false):∃ hl:a < s.length,tillP (s.drop a) = tillP (s.drop (a + 1)) + 1 ∧ isMark s[a] = false:=by
  unfold markB at h
  rcases Nat.lt_or_ge a s.length with hlt | hge
  · rw [List.getElem?_eq_getElem hlt] at h
    refine ⟨hlt,?_,h⟩
    rw [tillP_step s a hlt,if_neg (by simp at h; simp [h])]
  · rw [List.getElem?_eq_none hge] at h; cases h
theorem tillP_stop (s:List UInt8) (a:Nat) (h:markB s a = true):tillP (s.drop a) = 0:=by
  unfold markB at h
  rcases Nat.lt_or_ge a s.length with hlt | hge
  · rw [List.getElem?_eq_getElem hlt] at h
    rw [tillP_step s a hlt,if_pos (by simpa using h)]
  · exact tillP_none s a hge
def PlainAns (w:World) (g c a:Nat) (A:Option Addr) (s:List UInt8) (e:Ending) (w':World):Prop :=
  e = .returned (.bool (decide ((34:UInt8) ∈ (s.drop a).take (tillP (s.drop a))))) ∧ RdAt w' g A c s (a + tillP (s.drop a)) ∧ Fr [some g] w w'
theorem mem_more (s:List UInt8) (a j:Nat) (h:a + j < s.length):decide ((34:UInt8) ∈ (s.drop a).take (j + 1)) = (decide ((34:UInt8) ∈ (s.drop a).take j) || isB s (a + j) 34):=by
  rw [isB_lt h,List.take_succ_eq_append_getElem (by rw [List.length_drop]; omega)]
  rw [Bool.eq_iff_iff]
  simp [List.getElem_drop]
  constructor
  · rintro (h | h)
    · exact .inl h
    · exact .inr h.symm
  · rintro (h | h)
    · exact .inl h
    · exact .inr h.symm
set_option maxHeartbeats 800000 in
theorem plain_any (w:World) (g c a:Nat) (A:Option Addr) (s:List UInt8) (h:RdAt w g A c s a) (ha:a ≤ s.length) (hn:s.length ≤ 1000000) :
    Calls Tryz.prog 143 #[.pointer (some ⟨g,0,none⟩)] w (PlainAns w g c a A s):=by
  obtain ⟨K,hK⟩:∃ K,K = tillP (s.drop a):=⟨_,rfl⟩
  have hKb:=tillP_bd s a ha
  rw [← hK] at hKb
  have HEND:Hid (∀ (p:Bool) (w':World),p = decide ((34:UInt8) ∈ (s.drop a).take K) → RdAt w' g A c s (a + K) → Fr [some g] w w' → PlainAns w g c a A s (.returned (.bool p)) w'):=by
    show ∀ _,_
    intro p w' h1 h2 h3
    rw [hK] at h1 h2
    exact ⟨by rw [h1],h2,h3⟩
  have HR:=Lib.hid h
  have HK:=Lib.hid hK
  clear h hK
  go_enter Tryz.func143,Tryz.ntmps143
  go_wp2_with fail
  go_loopg [3] K (fun k pv wr => ∃ (j:Nat) (p:Bool),pv = .bool p ∧ k + j = K ∧ Hid (p = decide ((34:UInt8) ∈ (s.drop a).take j)) ∧ Hid (RdAt wr g A c s (a + j)) ∧ Hid (Fr [some g] w wr) ∧ Hid (tillP (s.drop (a + j)) = k))
  case atStart => exact ⟨0,false,rfl,by omega,by show _ = _; simp,HR.out,Fr.refl _ _,by show _ = _; rw [Nat.add_zero]; exact HK.out.symm⟩
  case round =>
    clear HR HK
    obtain ⟨j,p,rfl,hkj,HP,HR,HF,HT⟩:=hrel
    have hmk:=marked_any wr g c (a + j) A s HR.out
    cases hm:markB s (a + j) with
    | true =>
      have hk0:gk = 0:=by rw [← HT.out]; exact tillP_stop s (a + j) hm
      rw [hm] at hmk
      have HMK:=Lib.hid hmk
      have hjK:j = K:=by omega
      have HJK:=Lib.hid hjK
      clear hmk hm hk0 hjK
      go_wp2_with fail
      refine HMK.out.mono ?_
      rintro e w1 hq
      obtain ⟨rfl,hf⟩:=hq.fr
      have HFF:=Lib.hid hf
      clear hq hf
      go_wp2_with fail
      go_ret
      exact HEND.out p _ (by rw [HP.out,HJK.out]) (by rw [← HJK.out]; exact HR.out.fr0 HFF.out) (HF.out.trans HFF.out.of_nil)
    | false =>
      obtain ⟨hl,ht,_⟩:=tillP_more s (a + j) hm
      rw [hm] at hmk
      have HMK:=Lib.hid hmk
      obtain ⟨k,rfl⟩:∃ k,gk = k + 1:=⟨tillP (s.drop (a + j + 1)),by rw [← HT.out,ht]⟩
      have HT2:Hid (tillP (s.drop (a + (j + 1))) = k):=by
        show _ = _
        have:=HT.out
        rw [ht] at this
        rw [← Nat.add_assoc]
        omega
      have HMM:=Lib.hid (mem_more s a j hl)
      obtain ⟨q,hq⟩:∃ q,q = a + j:=⟨_,rfl⟩
      rw [← hq] at HR HMM hl
      have HQQ:=Lib.hid hq
      clear hmk hm ht hq HT
      go_wp2_with fail
      refine HMK.out.mono ?_
      rintro e w1 hq
      obtain ⟨rfl,hf⟩:=hq.fr
      have hr1:=HR.out.fr0 hf
      have HF1:=Lib.hid hf
      have his:Calls Tryz.prog 119 #[.pointer (some ⟨g,0,none⟩),.int .u8 34] w1 (Qt w1 (.bool (isB s q 34))):=is_any w1 g c q A s 34 hr1
      have HIS:=Lib.hid his
      have HR1:=Lib.hid hr1
      have c1:w1.cell? ⟨g,1,none⟩ = some (.int .i64 (q:Nat)):=hr1.1.cell 1
      have f1:=hr1.1.frozen 1
      have l1:=hr1.1.lt
      clear hq hf hr1 his
      cases p with
      | true =>
        go_wp2_with fail
        go_roundg k
        case rel =>
          refine ⟨j + 1,true,rfl,by omega,by show _ = _; rw [HMM.out,← HP.out]; rfl,?_,?_,HT2.out⟩
          · have:=(HR1.out.set (q + 1)).1
            rw [← Nat.add_assoc,← HQQ.out]
            exact this
          · exact (HF.out.trans HF1.out.of_nil).trans (HR1.out.set (q + 1)).2
        case measure => omega
      | false =>
        go_wp2_with fail
        refine HIS.out.mono ?_
        rintro e w2 hq
        obtain ⟨rfl,hf⟩:=hq.fr
        have hr2:=HR1.out.fr0 hf
        have HF2:=Lib.hid hf
        have HR2:=Lib.hid hr2
        have c1:w2.cell? ⟨g,1,none⟩ = some (.int .i64 (q:Nat)):=hr2.1.cell 1
        have f1:=hr2.1.frozen 1
        have l1:=hr2.1.lt
        obtain ⟨b,hb⟩:∃ b,b = isB s q 34:=⟨_,rfl⟩
        rw [← hb] at HMM ⊢
        have HB:=Lib.hid hb
        clear hq hf hr2 hb
        go_wp2_with fail
        go_roundg k
        case rel =>
          refine ⟨j + 1,b,rfl,by omega,by show _ = _; rw [HMM.out,← HP.out]; rfl,?_,?_,HT2.out⟩
          · have:=(HR2.out.set (q + 1)).1
            rw [← Nat.add_assoc,← HQQ.out]
            exact this
          · exact ((HF.out.trans HF1.out.of_nil).trans HF2.out.of_nil).trans (HR2.out.set (q + 1)).2
        case measure => omega
end Go.Proofs.YteohomdiklkbfaaGreat
namespace Go.Proofs.YteohomdiklkbfaaGreat
open Go.RowKit Go.Proofs.Dm

abbrev TSp:TypeId:=124
abbrev TPs:TypeId:=227
def sp2 (x:Nat × Nat):List Value:=[.int .i64 (x.1:Nat),.int .i64 (x.2:Nat)]
def spc (sp:List (Nat × Nat)):List Value:=sp.flatMap sp2
theorem spc_len (sp:List (Nat × Nat)):(spc sp).length = sp.length * 2:=enc_len (sz:=2) (fun _ => rfl) sp
theorem spc_app (a b:List (Nat × Nat)):spc (a ++ b) = spc a ++ spc b:=by simp [spc]
theorem spc_one (sp:List (Nat × Nat)):∀ u ∈ spc sp,u.oneCell' = true:=by
  refine enc_one (fun x u hu => ?_) sp
  simp only [sp2,List.mem_cons,List.not_mem_nil,or_false] at hu
  rcases hu with rfl | rfl <;> rfl
def plc (sp:List (Nat × Nat)):List Nat:=sp.flatMap fun x => List.range' x.1 x.2
theorem plc_app (a b:List (Nat × Nat)):plc (a ++ b) = plc a ++ plc b:=by simp [plc]
theorem plc_one (a n:Nat):plc [(a,n)] = List.range' a n:=by simp [plc]
set_option maxHeartbeats 400000 in
theorem join_yes (a n m:Nat) (w:World) (h:a + n + m ≤ 1000000) :
    Calls Tryz.prog 144 #[.agg #[.int .i64 (a:Nat),.int .i64 (n:Nat)],.agg #[.int .i64 ((a + n:Nat):Int),.int .i64 (m:Nat)]] w fun e w' => e = .returned (.tuple #[.agg #[.int .i64 (a:Nat),.int .i64 ((n + m:Nat):Int)],.bool true]) ∧ Fr [] w w':=by
  obtain ⟨b,hb⟩:∃ b,b = a + n:=⟨_,rfl⟩
  obtain ⟨k,hk⟩:∃ k,k = n + m:=⟨_,rfl⟩
  rw [← hb,← hk]
  have h1:(a:Int) + (n:Int) = (b:Int):=by omega
  have h2:(n:Int) + (m:Int) = (k:Int):=by omega
  have b1:(b:Int) ≤ 1000000:=by omega
  have b2:(k:Int) ≤ 1000000:=by omega
  clear hb hk h
  go_enter Tryz.func144,Tryz.ntmps144
  go_wp2_with fail
  exact bodyPost_ret (v:=.tuple #[.agg #[.int .i64 (a:Nat),.int .i64 (k:Nat)],.bool true]) (by simp [results,Tryz.results144,go_sem]) rfl ⟨rfl,(((Fr.refl [] w).alloc _).alloc _).alloc _⟩
set_option maxHeartbeats 400000 in
theorem join_no (a n b m:Nat) (w:World) (h:a + n ≤ 1000000) (hne:b ≠ a + n) :
    Calls Tryz.prog 144 #[.agg #[.int .i64 (a:Nat),.int .i64 (n:Nat)],.agg #[.int .i64 (b:Nat),.int .i64 (m:Nat)]] w fun e w' => e = .returned (.tuple #[.agg #[.int .i64 0,.int .i64 0],.bool false]) ∧ Fr [] w w':=by
  obtain ⟨k,hk⟩:∃ k,k = a + n:=⟨_,rfl⟩
  rw [← hk] at hne
  have h1:(a:Int) + (n:Int) = (k:Int):=by omega
  have h2:¬ (b:Int) = (k:Int):=by omega
  have b1:(k:Int) ≤ 1000000:=by omega
  clear hk h
  go_enter Tryz.func144,Tryz.ntmps144
  go_wp2_with fail
  exact bodyPost_ret (v:=.tuple #[.agg #[.int .i64 0,.int .i64 0],.bool false]) (by simp [results,Tryz.results144,go_sem]) rfl ⟨rfl,(((Fr.refl [] w).alloc _).alloc _).alloc _⟩
def PartsAt (w:World) (p:Nat) (B:Option Addr) (d:Nat) (sp:List (Nat × Nat)):Prop:=Blk w p TPs #[.slice B sp.length d] ∧ ORow w TSp 2 B d sp.length (spc sp) ∧ bk B ≠ some p
def AddAns (w:World) (p N:Nat) (B:Option Addr) (sp:List (Nat × Nat)) (f t:Nat) (e:Ending) (w':World):Prop :=
  ∃ (B':Option Addr) (d':Nat) (sp':List (Nat × Nat)),e = .returned (.tuple #[]) ∧ PartsAt w' p B' d' sp' ∧ plc sp' = plc sp ++ List.range' f (t - f) ∧ (∀ x ∈ sp',1 ≤ x.2 ∧ x.1 + x.2 ≤ N) ∧ sp'.length ≤ sp.length + 1 ∧ Fr [some p,bk B] w w' ∧ (bk B' = bk B ∨ ∃ j,bk B' = some j ∧ w.heap.size ≤ j)
theorem add_nothing (w:World) (p N d f t:Nat) (B:Option Addr) (sp:List (Nat × Nat)) (h:PartsAt w p B d sp) (hN:∀ x ∈ sp,1 ≤ x.2 ∧ x.1 + x.2 ≤ N) (ht:t ≤ f) :
    Calls Tryz.prog 142 #[.pointer (some ⟨p,0,none⟩),.int .i64 (f:Nat),.int .i64 (t:Nat)] w (AddAns w p N B sp f t):=by
  have HEND:Hid (AddAns w p N B sp f t (.returned (.tuple #[])) w):=⟨B,d,sp,rfl,h,by rw [show t - f = 0 by omega]; simp,hN,by omega,Fr.refl _ _,.inl rfl⟩
  have h1:(t:Int) ≤ (f:Int):=by omega
  clear h hN ht
  go_enter Tryz.func142,Tryz.ntmps142
  go_wp2_with fail
  refine bodyPost_ret (results_none rfl _ _ _) rfl ?_
  exact HEND.out
theorem parts_push {w wa w2:World} {p d d2:Nat} {B B2:Option Addr} {sp:List (Nat × Nat)} {x:Nat × Nat} (h:PartsAt w p B d sp) (hfa:Fr [] w wa) (hr:ORow w2 TSp 2 B2 d2 (sp.length + 1) (spc sp ++ sp2 x)) (hg:Fr [bk B] wa w2) (hb:bk B2 = bk B ∨ bk B2 = some wa.heap.size) :
    PartsAt (w2.setCell ⟨p,0,none⟩ (.slice B2 (sp.length + 1) d2)) p B2 d2 (sp ++ [x]) ∧ Fr [some p,bk B] w (w2.setCell ⟨p,0,none⟩ (.slice B2 (sp.length + 1) d2)) ∧ (bk B2 = bk B ∨ ∃ j,bk B2 = some j ∧ w.heap.size ≤ j):=by
  obtain ⟨h1,h2,h3⟩:=h
  have hsz:=hfa.size
  have hpl:=h1.lt
  have hblk:Blk w2 p TPs #[.slice B sp.length d]:=(h1.fr hfa (by simp)).fr hg (by rw [List.mem_singleton]; exact fun e => h3 e.symm)
  have hne:bk B2 ≠ some p:=by
    rcases hb with hb | hb
    · rw [hb]; exact h3
    · rw [hb]; intro e; injection e with e; omega
  have hset:Fr [some p] w2 (w2.setCell ⟨p,0,none⟩ (.slice B2 (sp.length + 1) d2)):=(Fr.refl _ w2).setB (by simp) 0 _
  refine ⟨⟨by rw [List.length_append]; exact hblk.set_ 0 _,?_,hne⟩,?_,?_⟩
  · rw [spc_app,List.length_append]
    refine ORow.fr ?_ hset ?_
    · simpa [spc] using hr
    · cases hb2:bk B2 with
      | none => exact .inl rfl
      | some j => exact .inr (by rw [List.mem_singleton,← hb2]; exact hne)
  · exact (hfa.of_nil.trans (hg.weaken fun i _ hi => by rw [List.mem_singleton] at hi; rw [hi]; exact List.mem_cons_of_mem _ (List.mem_singleton.2 rfl))).trans (hset.weaken fun i _ hi => by rw [List.mem_singleton] at hi; rw [hi]; exact List.mem_cons_self ..)
  · rcases hb with hb | hb
    · exact .inl hb
    · exact .inr ⟨_,hb,hsz⟩
theorem parts_cells {w wa w2:World} {p d:Nat} {B:Option Addr} {sp:List (Nat × Nat)} (h:PartsAt w p B d sp) (hfa:Fr [] w wa) (hg:Fr [bk B] wa w2):w2.cell? ⟨p,0,none⟩ = some (.slice B sp.length d) ∧ w2.frozen? ⟨p,0,none⟩ = false ∧ p < w2.heap.size:=by
  have hblk:Blk w2 p TPs #[.slice B sp.length d]:=(h.1.fr hfa (by simp)).fr hg (by rw [List.mem_singleton]; exact fun e => h.2.2 e.symm)
  exact ⟨hblk.cell 0,hblk.frozen 0,hblk.lt⟩
theorem sl_span (w:World) (x:Nat × Nat) (t:TypeId):Sl (w.alloc (.cells #[.int .i64 (x.1:Nat),.int .i64 (x.2:Nat)] t)) (some ⟨w.heap.size,0,none⟩) (sp2 x):=blk_sl (cs:=sp2 x) (Blk.new w t _) 2
theorem infoSp:(Tryz.prog.info? TSp).map (fun i => (i.zero,i.size,i.bytes)) = some (some (Value.agg #[.int .i64 0,.int .i64 0]),2,16):=by kernel_rfl
set_option maxRecDepth 100000 in
set_option maxHeartbeats 800000 in
theorem add_first (w:World) (p N d f t:Nat) (B:Option Addr) (h:PartsAt w p B d []) (ht:f < t) (hN:t ≤ N) (hn:N ≤ 1000000) :
    Calls Tryz.prog 142 #[.pointer (some ⟨p,0,none⟩),.int .i64 (f:Nat),.int .i64 (t:Nat)] w (AddAns w p N B [] f t):=by
  obtain ⟨m,hm⟩:∃ m,m = t - f:=⟨_,rfl⟩
  have c0:w.cell? ⟨p,0,none⟩ = some (.slice B 0 d):=h.1.cell 0
  have hpl:=h.1.lt
  have h1:¬ (t:Int) ≤ (f:Int):=by omega
  have hsub:(t:Int) - (f:Int) = (m:Int):=by omega
  have hf1:(f:Int) ≤ 1000000:=by omega
  have ht1:(t:Int) ≤ 1000000:=by omega
  have HP:=Lib.hid h
  have HEND:Hid (∀ (B':Option Addr) (d':Nat) (w':World),PartsAt w' p B' d' [(f,m)] → Fr [some p,bk B] w w' → (bk B' = bk B ∨ ∃ j,bk B' = some j ∧ w.heap.size ≤ j) → AddAns w p N B [] f t (.returned (.tuple #[])) w'):=by
    show ∀ _,_
    intro B' d' w' q1 q2 q3
    refine ⟨B',d',[(f,m)],rfl,q1,by rw [plc_one,hm]; rfl,fun x hx => ?_,by simp,q2,q3⟩
    rw [List.mem_singleton] at hx
    subst hx
    show 1 ≤ m ∧ f + m ≤ N
    omega
  clear h hm ht hN
  go_enter Tryz.func142,Tryz.ntmps142
  go_wp2_with fail
  have hbox:(w.alloc (.cells #[.int .i64 (f:Nat),.int .i64 (m:Nat)] TSp)).cell? ⟨w.heap.size,0,none⟩ = some (.int .i64 (f:Nat)) ∧ (w.alloc (.cells #[.int .i64 (f:Nat),.int .i64 (m:Nat)] TSp)).cell? ⟨w.heap.size,1,none⟩ = some (.int .i64 (m:Nat)):=⟨(Blk.new w TSp #[.int .i64 (f:Nat),.int .i64 (m:Nat)]).cell 0,(Blk.new w TSp #[.int .i64 (f:Nat),.int .i64 (m:Nat)]).cell 1⟩
  obtain ⟨wb,hwb⟩:∃ wb,wb = w.alloc (.cells #[.int .i64 (f:Nat),.int .i64 (m:Nat)] TSp):=⟨_,rfl⟩
  rw [← hwb] at hbox ⊢
  have HPB:Hid (PartsAt wb p B d [] ∧ Fr [] w wb):=by
    have hf:Fr [] w wb:=by rw [hwb]; exact (Fr.refl [] w).alloc _
    exact ⟨⟨HP.out.1.fr hf (by simp),ORow.fr HP.out.2.1 hf (.inr List.not_mem_nil),HP.out.2.2⟩,hf⟩
  have cb:wb.cell? ⟨p,0,none⟩ = some (.slice B 0 d):=HPB.out.1.1.cell 0
  obtain ⟨x0,x1⟩:=hbox
  have HX:Hid (∀ wa w2,Fr [] wb wa → Fr [bk B] wa w2 → w2.cell? ⟨w.heap.size,0,none⟩ = some (.int .i64 (f:Nat)) ∧ w2.cell? ⟨w.heap.size,1,none⟩ = some (.int .i64 (m:Nat))):=by
    show ∀ _,_
    intro wa w2 hfa hg
    have hl:w.heap.size < wb.heap.size:=World.block_lt_of_cell? wb _ x0
    have hno:some w.heap.size ∉ [bk B]:=fun h => by
      rw [List.mem_singleton] at h
      have:=ORow.lt HP.out.2.1 h.symm
      omega
    have key:∀ i,w2.cell? ⟨w.heap.size,i,none⟩ = wb.cell? ⟨w.heap.size,i,none⟩:=fun i => (hg.cell (p:=⟨w.heap.size,i,none⟩) (Nat.lt_of_lt_of_le hl hfa.size) hno).trans (hfa.cell (p:=⟨w.heap.size,i,none⟩) hl (by simp))
    exact ⟨(key 0).trans x0,(key 1).trans x1⟩
  clear hwb c0 hpl HP
  have q1:(wb.alloc (.cells #[.int .i64 (f:Nat),.int .i64 (m:Nat)] TSp)).cell? ⟨p,0,none⟩ = some (.slice B 0 d):=(parts_cells HPB.out.1 ((Fr.refl [] wb).alloc _) (Fr.refl _ _)).1
  go_region_law (
    (refine step_app _ (by rfl) _ _ 227 TSp (by rfl) (Value.agg #[.int .i64 0,.int .i64 0]) 2 16 Tryz.underlying227 infoSp rfl (by decide) B d 0 [] (by rfl) (ORow.fr HPB.out.1.2.1 (((Fr.refl [] wb).alloc _).drew) (.inr List.not_mem_nil)) _ 1 1 (sp2 (f,m)) (by rfl) rfl (sl_span wb (f,m) TSp) (spc_one [(f,m)]) (by simp only [maxLen]; omega) (by omega) ?_
     intro A2 c2 w2 hr2 hg2 hb2
     have HPU:=Lib.hid (parts_push (x:=(f,m)) HPB.out.1 ((Fr.refl [] wb).alloc _).drew hr2 hg2 hb2)
     have k0:=(parts_cells HPB.out.1 ((Fr.refl [] wb).alloc _).drew hg2).1
     have k1:=(parts_cells HPB.out.1 ((Fr.refl [] wb).alloc _).drew hg2).2.1
     have k2:=(parts_cells HPB.out.1 ((Fr.refl [] wb).alloc _).drew hg2).2.2))
  all_goals
    refine bodyPost_ret (results_none rfl _ _ _) rfl ?_
    refine HEND.out _ _ _ HPU.out.1 (HPB.out.2.of_nil.trans HPU.out.2.1) ?_
    rcases HPU.out.2.2 with h | ⟨j,hj,hle⟩
    · exact .inl h
    · exact .inr ⟨j,hj,Nat.le_trans HPB.out.2.size hle⟩
end Go.Proofs.YteohomdiklkbfaaGreat
