import Derived.Test.YteohomdiklkbfaaGreatA04
import Derived.ScopeJumps
import Derived.WalkMore
namespace Go.Proofs.YteohomdiklkbfaaGreat
open Go.RowKit Go.Proofs.Dm

theorem wp_scope_jumps2 {P:Program} {a:Act} {w:World} {Q:Exit → Act → World → Prop} {c X:Code} (l:Nat) (J:Act → World → Prop) (μ:Act → World → Nat) (hf:findLabel c l = some (.seq .skip X))
    (pass:∀ a w,J a w → X.wp P (Exit.jump l (fun a' w' => J a' w' ∧ μ a' w' < μ a w) Q) a w)
    (first:(∀ a w,J a w → X.wp P (Exit.jump l J Q) a w) → c.wp P (Exit.jump l J Q) a w):(Code.scope c).wp P Q a w:=by
  refine wp_scope_jumps l J μ hf (first fun a w h => Code.wp_mono (fun e a1 w1 he => ?_) (pass a w h)) (fun a w h => wp_seq (wp_skip (pass a w h)))
  cases e with
  | goto l' => exact ⟨he.1,he.2.1⟩
  | normal => exact he
  | exit id => exact he
  | ret => exact he
  | panic ch => exact he
  | outgrown => exact he
theorem quoP_more (s:List UInt8) (i:Nat) (h:i < s.length) (hc:s[i] ≠ 34):quoP (s.drop i) i = (i :: (quoP (s.drop (i + 1)) (i + 1)).1,(quoP (s.drop (i + 1)) (i + 1)).2):=by
  rw [List.drop_eq_getElem_cons h]
  cases s.drop (i + 1) with
  | nil => simp [quoP,hc]
  | cons d r => simp [quoP,hc]
theorem quoP_dbl (s:List UInt8) (i:Nat) (h:i + 1 < s.length) (hc:s[i] = 34) (hd:s[i + 1] = 34):quoP (s.drop i) i = (i :: (quoP (s.drop (i + 2)) (i + 2)).1,(quoP (s.drop (i + 2)) (i + 2)).2):=by
  rw [List.drop_eq_getElem_cons (show i < s.length by omega),List.drop_eq_getElem_cons h,hc,hd]
  simp [quoP]
theorem quoP_stop (s:List UInt8) (i:Nat) (h:i < s.length) (hc:s[i] = 34) (hd:isB s (i + 1) 34 = false):quoP (s.drop i) i = ([],i,true):=by
  rw [List.drop_eq_getElem_cons h,hc]
  rcases Nat.lt_or_ge (i + 1) s.length with hl | hl
  · rw [isB_lt hl] at hd
    rw [List.drop_eq_getElem_cons hl]
    have:s[i + 1] ≠ 34:=by simpa using hd
    simp [quoP,this]
  · rw [List.drop_eq_nil_of_le hl]
    simp [quoP]
structure QS (w0 w:World) (g p c:Nat) (A:Option Addr) (s:List UInt8) (pos:Nat) (B:Option Addr) (d:Nat) (sp:List (Nat × Nat)):Prop where
  rd:RdAt w g A c s pos
  pt:PartsAt w p B d sp
  fr:Fr [some g] w0 w
  kp:Kp [some g] w0 (fun w => Sl w A (bts s))
  gl:g < w0.heap.size
  pn:w0.heap.size ≤ p
  bn:∀ j,bk B = some j → w0.heap.size ≤ j
  bd:∀ x ∈ sp,1 ≤ x.2 ∧ x.1 + x.2 ≤ s.length
section
variable {w0 w w':World} {g p c pos d:Nat} {A B:Option Addr} {s:List UInt8} {sp:List (Nat × Nat)}
theorem QS.gB (h:QS w0 w g p c A s pos B d sp):bk B = none ∨ bk B ∉ [some g]:=by
  cases hb:bk B with
  | none => exact .inl rfl
  | some j =>
    refine .inr fun e => ?_
    rw [List.mem_singleton] at e
    injection e with e
    have:=h.bn j hb
    have:=h.gl
    omega
theorem QS.turn (h:QS w0 w g p c A s pos B d sp) {q:Nat} (hf:Fr [some g] w w') (hr:RdAt w' g A c s q):QS w0 w' g p c A s q B d sp:=by
  have hgp:some p ∉ [some g]:=fun e => by
    rw [List.mem_singleton] at e
    injection e with e
    have:=h.pn
    have:=h.gl
    omega
  exact ⟨hr,⟨h.pt.1.fr hf hgp,ORow.fr h.pt.2.1 hf h.gB,h.pt.2.2⟩,h.fr.trans hf,h.kp,h.gl,h.pn,h.bn,h.bd⟩
theorem QS.fr0 (h:QS w0 w g p c A s pos B d sp) (hf:Fr [] w w'):QS w0 w' g p c A s pos B d sp:=h.turn hf.of_nil (h.rd.fr0 hf)
theorem QS.move (h:QS w0 w g p c A s pos B d sp) (q:Nat):QS w0 (w.setCell ⟨g,1,none⟩ (.int .i64 (q:Nat))) g p c A s q B d sp:=h.turn (h.rd.set q).2 (h.rd.set q).1
theorem QS.add (h:QS w0 w g p c A s pos B d sp) {f t:Nat} {e:Ending} (ha:AddAns w p s.length B sp f t e w') :
    e = .returned (.tuple #[]) ∧ ∃ (B':Option Addr) (d':Nat) (sp':List (Nat × Nat)),QS w0 w' g p c A s pos B' d' sp' ∧ plc sp' = plc sp ++ List.range' f (t - f) ∧ sp'.length ≤ sp.length + 1:=by
  obtain ⟨B',d',sp',he,h1,h2,h3,h4,h5,h6⟩:=ha
  have hS:some g ∉ [some p,bk B]:=fun e => by
    have hp:=h.pn
    have hg:=h.gl
    rcases List.mem_cons.1 e with e | e
    · injection e with e; omega
    · rw [List.mem_singleton] at e
      have:=h.bn g e.symm
      omega
  have hf:Fr [some g] w0 w':=h.fr.seq h5 fun x hx => by
    rcases List.mem_cons.1 hx with rfl | hx
    · exact .inr (.inr ⟨p,h.pn,rfl⟩)
    · rw [List.mem_singleton] at hx
      subst hx
      cases hb:bk B with
      | none => exact .inr (.inl rfl)
      | some j => exact .inr (.inr ⟨j,h.bn j hb,rfl⟩)
  refine ⟨he,B',d',sp',⟨⟨h.rd.1.fr h5 hS,h.kp.fr hf⟩,h1,hf,h.kp,h.gl,h.pn,fun j hj => ?_,h3⟩,h2,h4⟩
  have hsz:=h.fr.size
  rcases h6 with h6 | ⟨j',hj',hle⟩
  · exact h.bn j (h6 ▸ hj)
  · rw [hj'] at hj; injection hj with hj; omega
end
def FldAns (w:World) (g c a:Nat) (A:Option Addr) (s:List UInt8) (e:Ending) (w':World):Prop :=
  ∃ (B:Option Addr) (m d:Nat) (sp:List (Nat × Nat)),e = .returned (.tuple #[.int .i64 ((fieldP s a).kind:Nat),.slice B m d]) ∧ m = sp.length ∧ ORow w' TSp 2 B d sp.length (spc sp) ∧ plc sp = (fieldP s a).places ∧ (∀ x ∈ sp,1 ≤ x.2 ∧ x.1 + x.2 ≤ s.length) ∧
    RdAt w' g A c s (a + (fieldP s a).n) ∧ Fr [some g] w w' ∧ ∀ j,bk B = some j → w.heap.size ≤ j
def QFrame (g p i:Nat) (a:Act):Prop:=∃ u1 u6 u7 u8 u9 u10 u11 u12 u13 u14 u15 u16 u17 u18 u19 u20 u21 u22 u23 u24 u25 u26 u27 u28 u29 u30 u31 u32 u33 u34 u35 u36 u37 u38 u39 u40 u41 u42 u43 u44 u45 u46 u47 u48 u49 u50 u51 u52 u53 u54 u55 u56 u57 u58 u59 u60 u61 u62 u63 u64 u65 u66 u67 u68 u69 u70 u71 u72 u73 u74 u75 u76 u77 u78 u79 u80 u81 u82 u83 u84 u85 u86 u87 u88 u89 u90 u91 u92 u93:Value,a = { tmps:=#[.pointer (some ⟨g,0,none⟩),u1,.int .i64 0,.slice none 0 0,.pointer (some ⟨p,0,none⟩),.int .i64 (i:Nat),u6,u7,u8,u9,u10,u11,u12,u13,u14,u15,u16,u17,u18,u19,u20,u21,u22,u23,u24,u25,u26,u27,u28,u29,u30,u31,u32,u33,u34,u35,u36,u37,u38,u39,u40,u41,u42,u43,u44,u45,u46,u47,u48,u49,u50,u51,u52,u53,u54,u55,u56,u57,u58,u59,u60,u61,u62,u63,u64,u65,u66,u67,u68,u69,u70,u71,u72,u73,u74,u75,u76,u77,u78,u79,u80,u81,u82,u83,u84,u85,u86,u87,u88,u89,u90,u91,u92,u93],defers:=[] }
def QJ (w0:World) (g p c:Nat) (A:Option Addr) (s:List UInt8) (a i:Nat) (w:World):Prop :=
  ∃ (B:Option Addr) (d:Nat) (sp:List (Nat × Nat)),QS w0 w g p c A s i B d sp ∧ (sp.length ≤ i ∧ a < i) ∧ i ≤ s.length ∧ (plc sp ++ (quoP (s.drop i) i).1,(quoP (s.drop i) i).2) = quoP (s.drop (a + 1)) (a + 1)
theorem qj_start {w:World} {g c a q:Nat} {A:Option Addr} {s:List UInt8} (h:RdAt w g A c s a) (ha:a < s.length) (hq:q = a + 1) (gl:g < w.heap.size) :
    QJ w g w.heap.size c A s a q ((w.setCell ⟨g,1,none⟩ (.int .i64 (q:Nat))).alloc (.cells #[.slice none 0 0] TPs)):=by
  obtain ⟨r1,r2⟩:=h.set q
  have hsz:(w.setCell ⟨g,1,none⟩ (.int .i64 (q:Nat))).heap.size = w.heap.size:=by simp [World.setCell]
  refine ⟨none,0,[],⟨r1.fr0 ((Fr.refl [] _).alloc _),⟨?_,ORow.nil_ _ _ _,by simp [bk]⟩,r2.alloc _,h.2,gl,Nat.le_refl _,fun j hj => by simp [bk] at hj,fun x hx => by simp at hx⟩,⟨Nat.zero_le _,by omega⟩,by omega,by rw [hq]; simp [plc]⟩
  have:=Blk.new (w.setCell ⟨g,1,none⟩ (.int .i64 (q:Nat))) TPs #[.slice none 0 0]
  rwa [hsz] at this
theorem fld_open {w w3:World} {g p c a d n m:Nat} {A B:Option Addr} {s:List UInt8} {sp:List (Nat × Nat)} (hq:s[a]? = some 34) (ha:a < s.length) (hE:quoP (s.drop (a + 1)) (a + 1) = (plc sp,m,false)) (hS:QS w w3 g p c A s s.length B d sp) (hn:n = sp.length) :
    FldAns w g c a A s (.returned (.tuple #[.int .i64 4,.slice B n d])) w3:=by
  have hf:fieldP s a = ⟨a,s.length - a,4,plc sp⟩:=by
    unfold fieldP
    rw [if_pos hq,hE]
    rfl
  refine ⟨B,n,d,sp,by rw [hf]; rfl,hn,hS.pt.2.1,by rw [hf],hS.bd,?_,hS.fr,hS.bn⟩
  rw [hf]
  show RdAt w3 g A c s (a + (s.length - a))
  rw [Nat.add_sub_cancel' (by omega)]
  exact hS.rd
theorem fld_closed {w w3:World} {g p c a d n m k t:Nat} {A B:Option Addr} {s:List UInt8} {sp:List (Nat × Nat)} {P:List Nat} {v:Nat} (hq:s[a]? = some 34) (hE:quoP (s.drop (a + 1)) (a + 1) = (P,m,true)) (ham:a ≤ m) (ht:t = m + 1 + k) (hS:QS w w3 g p c A s t B d sp) (hk:k = tillP (s.drop (m + 1)))
    (hp:plc sp = P ++ List.range' (m + 1) k) (hn:n = sp.length) (hv:v = if 0 < k then 3 else 1) :
    FldAns w g c a A s (.returned (.tuple #[.int .i64 (v:Nat),.slice B n d])) w3:=by
  have hf:fieldP s a = ⟨a,m + 1 + k - a,v,plc sp⟩:=by
    unfold fieldP
    rw [if_pos hq,hE,hp,hv,hk]
    rfl
  refine ⟨B,n,d,sp,by rw [hf],hn,hS.pt.2.1,by rw [hf],hS.bd,?_,hS.fr,hS.bn⟩
  rw [hf]
  show RdAt w3 g A c s (a + (m + 1 + k - a))
  rw [Nat.add_sub_cancel' (by omega),← ht]
  exact hS.rd
theorem q_chain {sp sp':List (Nat × Nat)} {s:List UInt8} {a i m x:Nat} {b:Bool} {ys:List Nat} {z:Nat × Bool} (h1:(plc sp ++ (quoP (s.drop i) i).1,(quoP (s.drop i) i).2) = quoP (s.drop (a + 1)) (a + 1)) (h2:(List.range' i (m - i) ++ (quoP (s.drop m) m).1,(quoP (s.drop m) m).2) = quoP (s.drop i) i) (h3:quoP (s.drop m) m = (ys,z)) :
    quoP (s.drop (a + 1)) (a + 1) = (plc sp ++ List.range' i (m - i) ++ ys,z):=by
  rw [← h1,← h2,h3]
  simp
def intOfV:Value → Int | .int _ q => q | _ => 0
set_option maxRecDepth 100000 in
set_option maxHeartbeats 1600000 in
theorem quoted_any (w:World) (g c a:Nat) (A:Option Addr) (s:List UInt8) (h:RdAt w g A c s a) (ha:a < s.length) (hq:s[a]? = some 34) (hn:s.length ≤ 1000000) :
    Calls Tryz.prog 131 #[.pointer (some ⟨g,0,none⟩)] w (FldAns w g c a A s):=by
  have HR:=Lib.hid h
  have c1:w.cell? ⟨g,1,none⟩ = some (.int .i64 (a:Nat)):=h.1.cell 1
  have f1:=h.1.frozen 1
  have gl:=h.1.lt
  have ha1:(a:Int) ≤ 1000000:=by omega
  have HA:=Lib.hid ha
  have HN:=Lib.hid hn
  have HQ:=Lib.hid hq
  clear h ha hq hn
  go_enter Tryz.func131,Tryz.ntmps131
  go_wp2_with fail
  refine wp_scope_jumps2 0 (fun a' w' => ∃ i,QFrame g w.heap.size i a' ∧ QJ w g w.heap.size c A s a i w') (fun a' _ => s.length + 1 - (intOfV (a'.tmps.getD 5 undef)).toNat) (by rfl) ?_ ?_
  · rintro a' w' ⟨i,⟨u1,u6,u7,u8,u9,u10,u11,u12,u13,u14,u15,u16,u17,u18,u19,u20,u21,u22,u23,u24,u25,u26,u27,u28,u29,u30,u31,u32,u33,u34,u35,u36,u37,u38,u39,u40,u41,u42,u43,u44,u45,u46,u47,u48,u49,u50,u51,u52,u53,u54,u55,u56,u57,u58,u59,u60,u61,u62,u63,u64,u65,u66,u67,u68,u69,u70,u71,u72,u73,u74,u75,u76,u77,u78,u79,u80,u81,u82,u83,u84,u85,u86,u87,u88,u89,u90,u91,u92,u93,rfl⟩,B,d,sp,hs,h1,h2,h3⟩
    have HI:Hid ((sp.length ≤ i ∧ a < i) ∧ i ≤ s.length ∧ (plc sp ++ (quoP (s.drop i) i).1,(quoP (s.drop i) i).2) = quoP (s.drop (a + 1)) (a + 1)):=⟨h1,h2,h3⟩
    have HSS:=Lib.hid hs
    have i1:(i:Int) ≤ 1000000:=by have:=HN.out; omega
    clear hs h1 h2 h3 c1 f1
    go_wp2_with fail
    go_loopg [] (s.length - i) (fun k wr => ∃ m,Hid (m + k = s.length) ∧ Hid (QS w wr g w.heap.size c A s m B d sp) ∧ Hid (i ≤ m) ∧ Hid ((List.range' i (m - i) ++ (quoP (s.drop m) m).1,(quoP (s.drop m) m).2) = quoP (s.drop i) i))
    case atStart => exact ⟨i,by show _ = _; have:=HI.out.2.1; omega,HSS.out,Nat.le_refl _,by show _ = _; simp⟩
    case round =>
      obtain ⟨m,HM,HS,HIM,HQM⟩:=hrel
      have m1:(m:Int) ≤ 1000000:=by have:=HN.out; have:=HM.out; omega
      rcases Nat.lt_or_ge m s.length with hlt | hge
      · have hdn:∀ v,RdAt v g A c s m → Calls Tryz.prog 97 #[.pointer (some ⟨g,0,none⟩)] v (Qt v (.bool false)):=fun v hv => by
          have:=done_any v g c m A s hv
          rwa [decide_eq_false (by omega)] at this
        have HDN:=Lib.hid hdn
        have HLT:=Lib.hid hlt
        have his:∀ v,RdAt v g A c s m → Calls Tryz.prog 119 #[.pointer (some ⟨g,0,none⟩),.int .u8 34] v (Qt v (.bool (isB s m 34))):=fun v hv => is_any v g c m A s 34 hv
        have HIS:=Lib.hid his
        clear hdn hlt his
        go_wp2_with fail
        refine (HDN.out _ HS.out.rd).mono ?_
        rintro e w1 hq
        obtain ⟨rfl,hf⟩:=hq.fr
        have HS1:=Lib.hid (HS.out.fr0 hf)
        clear hq hf
        cases hb:isB s m 34 with
        | false =>
          rw [hb] at HIS
          have HB:=Lib.hid hb
          clear hb
          go_wp2_with fail
          refine (HIS.out _ HS1.out.rd).mono ?_
          rintro e w2 hq
          obtain ⟨rfl,hf⟩:=hq.fr
          have HS2:=Lib.hid (HS1.out.fr0 hf)
          have c1:w2.cell? ⟨g,1,none⟩ = some (.int .i64 (m:Nat)):=HS2.out.rd.1.cell 1
          have f1:=HS2.out.rd.1.frozen 1
          have l1:=HS2.out.rd.1.lt
          obtain ⟨q,hq2⟩:∃ q,q = m + 1:=⟨_,rfl⟩
          have hq1:(m:Int) + 1 = (q:Int):=by omega
          have HQ2:=Lib.hid hq2
          clear hq hf hq2
          go_wp2_with fail
          go_roundg (gk - 1)
          case rel =>
            have hl:=HLT.out
            have hM:=HM.out
            have e:=HQM.out
            have hne:s[m] ≠ 34:=by have:=HB.out; rw [isB_lt hl] at this; simpa using this
            have hi:=HIM.out
            rw [HQ2.out]
            refine ⟨m + 1,by show _ = _; omega,HQ2.out ▸ HS2.out.move q,by show _ ≤ _; omega,?_⟩
            show _ = _
            rw [← e,quoP_more s m hl hne,show m + 1 - i = (m - i) + 1 by omega,List.range'_concat]
            simp
            omega
          case measure => have hl:=HLT.out; have hM:=HM.out; omega
        | true =>
          rw [hb] at HIS
          have HB:=Lib.hid hb
          obtain ⟨q,hq2⟩:∃ q,q = m + 1:=⟨_,rfl⟩
          have hq1:(m:Int) + 1 = (q:Int):=by omega
          have hqm:(q:Int) - 1 = (m:Int):=by omega
          have hq3:(q:Int) ≤ 1000001:=by omega
          have HQL:Hid (m < s.length ∧ q = m + 1):=⟨HLT.out,hq2⟩
          clear hb hq2
          go_wp2_with fail
          refine (HIS.out _ HS1.out.rd).mono ?_
          rintro e w2 hq
          obtain ⟨rfl,hf⟩:=hq.fr
          have HS2:=Lib.hid (HS1.out.fr0 hf)
          clear hq hf
          go_wp2_with fail
          refine (HDN.out _ HS2.out.rd).mono ?_
          rintro e w3 hq
          obtain ⟨rfl,hf⟩:=hq.fr
          have HS3:=Lib.hid (HS2.out.fr0 hf)
          have c1:w3.cell? ⟨g,1,none⟩ = some (.int .i64 (m:Nat)):=HS3.out.rd.1.cell 1
          have f1:=HS3.out.rd.1.frozen 1
          have l1:=HS3.out.rd.1.lt
          clear hq hf
          go_wp2_with fail
          have HS4:=Lib.hid (HS3.out.move q)
          obtain ⟨w4,hw4⟩:∃ w4,w4 = w3.setCell ⟨g,1,none⟩ (.int .i64 (q:Nat)):=⟨_,rfl⟩
          rw [← hw4] at HS4 ⊢
          clear hw4 c1 f1 l1
          have his2:Calls Tryz.prog 119 #[.pointer (some ⟨g,0,none⟩),.int .u8 34] w4 (Qt w4 (.bool (isB s q 34))):=is_any w4 g c q A s 34 HS4.out.rd
          cases hb2:isB s q 34 with
          | true =>
            rw [hb2] at his2
            have HIS2:=Lib.hid his2
            have HB2:=Lib.hid hb2
            clear his2 hb2
            refine HIS2.out.mono ?_
            rintro e w5 hq
            obtain ⟨rfl,hf⟩:=hq.fr
            have HS5:=Lib.hid (HS4.out.fr0 hf)
            have HQS:Hid (q < s.length):=by
              have:=HB2.out
              unfold isB at this
              rcases Nat.lt_or_ge q s.length with h | h
              · exact h
              · rw [List.getElem?_eq_none h] at this; cases this
            have c5:w5.cell? ⟨g,1,none⟩ = some (.int .i64 (q:Nat)):=HS5.out.rd.1.cell 1
            have f5:=HS5.out.rd.1.frozen 1
            have l5:=HS5.out.rd.1.lt
            clear hq hf
            have hadd:Calls Tryz.prog 142 #[.pointer (some ⟨w.heap.size,0,none⟩),.int .i64 (i:Nat),.int .i64 (q:Nat)] w5 (AddAns w5 w.heap.size s.length B sp i q):=add_any w5 w.heap.size s.length d i q B sp HS5.out.pt HS5.out.bd (by have:=HQL.out; omega) HN.out (by have:=HI.out; have:=HIM.out; have:=HQL.out; have:=HN.out; omega)
            have HAD:=Lib.hid hadd
            clear hadd
            go_wp2_with fail
            refine HAD.out.mono ?_
            rintro e w6 ha
            obtain ⟨rfl,B',d',sp',hs6,hp6,hl6⟩:=HS5.out.add ha
            have HS6:=Lib.hid hs6
            have HP6:=Lib.hid hp6
            have HL6:=Lib.hid hl6
            have c6:w6.cell? ⟨g,1,none⟩ = some (.int .i64 (q:Nat)):=HS6.out.rd.1.cell 1
            have f6:=HS6.out.rd.1.frozen 1
            have l6:=HS6.out.rd.1.lt
            obtain ⟨r,hr⟩:∃ r,r = q + 1:=⟨_,rfl⟩
            have hr1:(q:Int) + 1 = (r:Int):=by omega
            have HR1:=Lib.hid hr
            clear ha hs6 hp6 hl6 hr c5 f5 l5
            go_wp2_with fail
            go_step3
            have hQL:=HQL.out
            have hQS:=HQS.out
            have hI:=HI.out
            have hIM:=HIM.out
            have hR:=HR1.out
            have hL:=HL6.out
            refine ⟨rfl,⟨r,⟨_,_,_,_,_,_,_,_,_,_,_,_,_,_,_,_,_,_,_,_,_,_,_,_,_,_,_,_,_,_,_,_,_,_,_,_,_,_,_,_,_,_,_,_,_,_,_,_,_,_,_,_,_,_,_,_,_,_,_,_,_,_,_,_,_,_,_,_,_,_,_,_,_,_,_,_,_,_,_,_,_,_,_,_,_,_,_,_,_,rfl⟩,B',d',sp',HS6.out.move r,⟨by omega,by omega⟩,by omega,?_⟩,?_⟩
            · have h3:quoP (s.drop m) m = (m :: (quoP (s.drop (m + 2)) (m + 2)).1,(quoP (s.drop (m + 2)) (m + 2)).2):=by
                have e1:=HB.out
                have e2:=HB2.out
                rw [isB_lt hQL.1] at e1
                rw [hQL.2,isB_lt (by omega)] at e2
                exact quoP_dbl s m (by omega) (by simpa using e1) (by simpa using e2)
              rw [q_chain (sp':=sp) (x:=0) (b:=true) hI.2.2 HQM.out h3,HP6.out,show r = m + 2 by omega,show q - i = (m - i) + 1 by omega,List.range'_concat]
              simp
              omega
            · show s.length + 1 - r < s.length + 1 - i
              omega
          | false =>
            rw [hb2] at his2
            have HIS2:=Lib.hid his2
            have HB2:=Lib.hid hb2
            clear his2 hb2
            refine HIS2.out.mono ?_
            rintro e w5 hq
            obtain ⟨rfl,hf⟩:=hq.fr
            have HS5:=Lib.hid (HS4.out.fr0 hf)
            have c5:w5.cell? ⟨g,1,none⟩ = some (.int .i64 (q:Nat)):=HS5.out.rd.1.cell 1
            have f5:=HS5.out.rd.1.frozen 1
            have l5:=HS5.out.rd.1.lt
            clear hq hf
            have hadd:Calls Tryz.prog 142 #[.pointer (some ⟨w.heap.size,0,none⟩),.int .i64 (i:Nat),.int .i64 (m:Nat)] w5 (AddAns w5 w.heap.size s.length B sp i m):=add_any w5 w.heap.size s.length d i m B sp HS5.out.pt HS5.out.bd (by have:=HQL.out; omega) HN.out (by have:=HI.out; have:=HIM.out; have:=HQL.out; have:=HN.out; omega)
            have HAD:=Lib.hid hadd
            clear hadd
            go_wp2_with fail
            refine HAD.out.mono ?_
            rintro e w6 ha
            obtain ⟨rfl,B',d',sp',hs6,hp6,hl6⟩:=HS5.out.add ha
            have HS6:=Lib.hid hs6
            have HP6:=Lib.hid hp6
            have HL6:=Lib.hid hl6
            have c6:w6.cell? ⟨g,1,none⟩ = some (.int .i64 (q:Nat)):=HS6.out.rd.1.cell 1
            have f6:=HS6.out.rd.1.frozen 1
            have l6:=HS6.out.rd.1.lt
            clear ha hs6 hp6 hl6 c5 f5 l5
            have hpl:=plain_any w6 g c q A s HS6.out.rd (by have:=HQL.out; omega) HN.out
            have HPL:=Lib.hid hpl
            clear hpl
            go_wp2_with fail
            refine HPL.out.mono ?_
            rintro e w7 ⟨rfl,hr7,hf7⟩
            generalize decide ((34:UInt8) ∈ (s.drop q).take (tillP (s.drop q))) = bb
            obtain ⟨k,hk⟩:∃ k,k = tillP (s.drop q):=⟨_,rfl⟩
            have htb:=tillP_bd s q (by have:=HQL.out; omega)
            rw [← hk] at hr7 htb
            obtain ⟨t,ht⟩:∃ t,t = q + k:=⟨_,rfl⟩
            rw [← ht] at hr7 htb
            have HS7:=Lib.hid (HS6.out.turn hf7 hr7)
            have HTK:Hid (k = tillP (s.drop q) ∧ t = q + k ∧ t ≤ s.length):=⟨hk,ht,htb⟩
            have ht1:(t:Int) ≤ 1000000:=by have:=HN.out; omega
            have c7:w7.cell? ⟨g,1,none⟩ = some (.int .i64 (t:Nat)):=HS7.out.rd.1.cell 1
            have f7:=HS7.out.rd.1.frozen 1
            have l7:=HS7.out.rd.1.lt
            clear hr7 hf7 hk htb ht c6 f6 l6
            have hadd:Calls Tryz.prog 142 #[.pointer (some ⟨w.heap.size,0,none⟩),.int .i64 (q:Nat),.int .i64 (t:Nat)] w7 (AddAns w7 w.heap.size s.length B' sp' q t):=add_any w7 w.heap.size s.length d' q t B' sp' HS7.out.pt HS7.out.bd HTK.out.2.2 HN.out (by have:=HI.out; have:=HIM.out; have:=HQL.out; have:=HN.out; have:=HL6.out; omega)
            have HAD2:=Lib.hid hadd
            clear hadd
            go_wp2_with fail
            refine HAD2.out.mono ?_
            rintro e w8 ha
            obtain ⟨rfl,B2,d2,sp2,hs8,hp8,hl8⟩:=HS7.out.add ha
            have HS8:=Lib.hid hs8
            have HP8:=Lib.hid hp8
            obtain ⟨n,hn2⟩:∃ n,n = sp2.length:=⟨_,rfl⟩
            have HN2:=Lib.hid hn2
            have cp:w8.cell? ⟨w.heap.size,0,none⟩ = some (.slice B2 n d2):=by rw [hn2]; exact hs8.pt.1.cell 0
            have c8:w8.cell? ⟨g,1,none⟩ = some (.int .i64 (t:Nat)):=HS8.out.rd.1.cell 1
            have f8:=HS8.out.rd.1.frozen 1
            have l8:=HS8.out.rd.1.lt
            clear ha hs8 hp8 hl8 hn2 c7 f7 l7
            have HANS:Hid (∀ v:Nat,(v = if 0 < k then 3 else 1) → FldAns w g c a A s (.returned (.tuple #[.int .i64 (v:Nat),.slice B2 n d2])) w8.drew):=by
              show ∀ _,_
              intro v hv
              have hQL:=HQL.out
              have hTK:=HTK.out
              have hI:=HI.out
              have hIM:=HIM.out
              have h3:quoP (s.drop m) m = ([],m,true):=by
                have e1:=HB.out
                have e2:=HB2.out
                rw [isB_lt hQL.1] at e1
                rw [hQL.2] at e2
                exact quoP_stop s m hQL.1 (by simpa using e1) e2
              have h4:=q_chain (sp':=sp) (x:=0) (b:=true) hI.2.2 HQM.out h3
              refine fld_closed HQ.out h4 (by omega) (k:=k) (by omega) (HS8.out.fr0 ((Fr.refl [] _).drew)) (by rw [hTK.1,hQL.2]) ?_ HN2.out hv
              rw [HP8.out,HP6.out,show t - q = k by omega,hQL.2]
              simp
            rcases Nat.lt_or_ge q t with hqt | hqt
            · have hv:(3:Nat) = if 0 < k then 3 else 1:=by rw [if_pos (by have:=HTK.out; omega)]
              have HV:=Lib.hid (HANS.out 3 hv)
              have hqt1:(q:Int) < (t:Int):=by omega
              clear hv hqt
              go_wp2_with fail
              go_region_law (fail)
              all_goals
                go_wp2_with fail
                refine bodyPost_ret (v:=.tuple #[.int .i64 3,.slice B2 n d2]) (by simp [results,Tryz.results131,go_sem]) rfl ?_
                exact HV.out
            · have hv:(1:Nat) = if 0 < k then 3 else 1:=by rw [if_neg (by have:=HTK.out; omega)]
              have HV:=Lib.hid (HANS.out 1 hv)
              have hqt1:¬ (q:Int) < (t:Int):=by omega
              clear hv hqt
              go_wp2_with fail
              go_region_law (fail)
              all_goals
                go_wp2_with fail
                refine bodyPost_ret (v:=.tuple #[.int .i64 1,.slice B2 n d2]) (by simp [results,Tryz.results131,go_sem]) rfl ?_
                exact HV.out
      · have hme:m = s.length:=by have:=HM.out; omega
        have hdn:∀ v,RdAt v g A c s m → Calls Tryz.prog 97 #[.pointer (some ⟨g,0,none⟩)] v (Qt v (.bool true)):=fun v hv => by
          have:=done_any v g c m A s hv
          rwa [decide_eq_true (by omega)] at this
        have HDN:=Lib.hid hdn
        have HME:=Lib.hid hme
        clear hdn hme hge
        go_wp2_with fail
        refine (HDN.out _ HS.out.rd).mono ?_
        rintro e w1 hq
        obtain ⟨rfl,hf⟩:=hq.fr
        have HS1:=Lib.hid (HS.out.fr0 hf)
        clear hq hf
        go_wp2_with fail
        refine (HDN.out _ HS1.out.rd).mono ?_
        rintro e w2 hq
        obtain ⟨rfl,hf⟩:=hq.fr
        have HS2:=Lib.hid (HS1.out.fr0 hf)
        have c2:w2.cell? ⟨g,1,none⟩ = some (.int .i64 (m:Nat)):=HS2.out.rd.1.cell 1
        clear hq hf
        have hadd:Calls Tryz.prog 142 #[.pointer (some ⟨w.heap.size,0,none⟩),.int .i64 (i:Nat),.int .i64 (m:Nat)] w2 (AddAns w2 w.heap.size s.length B sp i m):=add_any w2 w.heap.size s.length d i m B sp HS2.out.pt HS2.out.bd (by have:=HME.out; omega) HN.out (by have:=HI.out; have:=HN.out; omega)
        have HAD:=Lib.hid hadd
        clear hadd
        go_wp2_with fail
        refine HAD.out.mono ?_
        rintro e w3 ha
        obtain ⟨rfl,B',d',sp',hs3,hp3,hl3⟩:=HS2.out.add ha
        have HS3:=Lib.hid hs3
        have HP3:=Lib.hid hp3
        obtain ⟨n,hn2⟩:∃ n,n = sp'.length:=⟨_,rfl⟩
        have HN2:=Lib.hid hn2
        have cp:w3.cell? ⟨w.heap.size,0,none⟩ = some (.slice B' n d'):=by rw [hn2]; exact hs3.pt.1.cell 0
        clear ha hs3 hp3 hl3 hn2 c2
        have HV:Hid (FldAns w g c a A s (.returned (.tuple #[.int .i64 4,.slice B' n d'])) w3.drew):=by
          have h3:quoP (s.drop m) m = ([],m,false):=by rw [HME.out,List.drop_length]; rfl
          have h4:=q_chain (sp':=sp) (x:=0) (b:=true) HI.out.2.2 HQM.out h3
          rw [List.append_nil,← HP3.out] at h4
          refine fld_open (p:=w.heap.size) HQ.out HA.out h4 ?_ HN2.out
          rw [← HME.out]
          exact HS3.out.fr0 ((Fr.refl [] _).drew)
        go_wp2_with fail
        go_region_law (fail)
        all_goals
          go_wp2_with fail
          refine bodyPost_ret (v:=.tuple #[.int .i64 4,.slice B' n d']) (by simp [results,Tryz.results131,go_sem]) rfl ?_
          exact HV.out
  · intro hrest
    obtain ⟨q,hq2⟩:∃ q,q = a + 1:=⟨_,rfl⟩
    have hq1:(a:Int) + 1 = (q:Int):=by omega
    have HQ2:=Lib.hid hq2
    clear hq2
    go_wp2_with fail
    rename_i Q' K hK
    go_step3
    refine hK _ _ (hrest _ _ ⟨q,⟨_,_,_,_,_,_,_,_,_,_,_,_,_,_,_,_,_,_,_,_,_,_,_,_,_,_,_,_,_,_,_,_,_,_,_,_,_,_,_,_,_,_,_,_,_,_,_,_,_,_,_,_,_,_,_,_,_,_,_,_,_,_,_,_,_,_,_,_,_,_,_,_,_,_,_,_,_,_,_,_,_,_,_,_,_,_,_,_,_,rfl⟩,?_⟩)
    exact qj_start HR.out HA.out HQ2.out gl
end Go.Proofs.YteohomdiklkbfaaGreat
namespace Go.Proofs.YteohomdiklkbfaaGreat
open Go.RowKit Go.Proofs.Dm

theorem qs_start {w:World} {g c a:Nat} {A:Option Addr} {s:List UInt8} (h:RdAt w g A c s a) :
    QS w (w.alloc (.cells #[.slice none 0 0] TPs)) g w.heap.size c A s a none 0 [] :=
  ⟨h.fr0 ((Fr.refl [] _).alloc _),⟨Blk.new w TPs #[.slice none 0 0],ORow.nil_ _ _ _,by simp [bk]⟩,(Fr.refl _ w).alloc _,h.2,h.1.lt,Nat.le_refl _,fun j hj => by simp [bk] at hj,fun x hx => by simp at hx⟩
theorem fld_bare {w w3:World} {g p c a d n k t:Nat} {A B:Option Addr} {s:List UInt8} {sp:List (Nat × Nat)} {v:Nat} (hq:s[a]? ≠ some 34) (ht:t = a + k) (hS:QS w w3 g p c A s t B d sp) (hk:k = tillP (s.drop a))
    (hp:plc sp = List.range' a k) (hn:n = sp.length) (hv:v = if (34:UInt8) ∈ (s.drop a).take k then 2 else 0) :
    FldAns w g c a A s (.returned (.tuple #[.int .i64 (v:Nat),.slice B n d])) w3:=by
  have hf:fieldP s a = ⟨a,k,v,plc sp⟩:=by
    unfold fieldP
    rw [if_neg hq,hp,hv,hk]
  refine ⟨B,n,d,sp,by rw [hf],hn,hS.pt.2.1,by rw [hf],hS.bd,?_,hS.fr,hS.bn⟩
  rw [hf]
  show RdAt w3 g A c s (a + k)
  rw [← ht]
  exact hS.rd
set_option maxRecDepth 100000 in
set_option maxHeartbeats 1600000 in
theorem bare_any (w:World) (g c a:Nat) (A:Option Addr) (s:List UInt8) (h:RdAt w g A c s a) (ha:a ≤ s.length) (hq:s[a]? ≠ some 34) (hn:s.length ≤ 1000000) :
    Calls Tryz.prog 132 #[.pointer (some ⟨g,0,none⟩)] w (FldAns w g c a A s):=by
  have HS:=Lib.hid (qs_start h)
  have c1:w.cell? ⟨g,1,none⟩ = some (.int .i64 (a:Nat)):=h.1.cell 1
  have gl:=h.1.lt
  have ha1:(a:Int) ≤ 1000000:=by omega
  have HA:=Lib.hid ha
  have HN:=Lib.hid hn
  have HQ:=Lib.hid hq
  have hpl:=plain_any _ g c a A s HS.out.rd ha hn
  have HPL:=Lib.hid hpl
  clear h ha hq hn hpl
  go_enter Tryz.func132,Tryz.ntmps132
  go_wp2_with fail
  refine HPL.out.mono ?_
  rintro e w7 ⟨rfl,hr7,hf7⟩
  obtain ⟨k,hk⟩:∃ k,k = tillP (s.drop a):=⟨_,rfl⟩
  have htb:=tillP_bd s a HA.out
  rw [← hk] at hr7 htb ⊢
  obtain ⟨b,hb⟩:∃ b,b = decide ((34:UInt8) ∈ (s.drop a).take k):=⟨_,rfl⟩
  rw [← hb]
  obtain ⟨t,ht⟩:∃ t,t = a + k:=⟨_,rfl⟩
  rw [← ht] at hr7 htb
  have HS7:=Lib.hid (HS.out.turn hf7 hr7)
  have HTK:Hid (k = tillP (s.drop a) ∧ t = a + k ∧ t ≤ s.length ∧ b = decide ((34:UInt8) ∈ (s.drop a).take k)):=⟨hk,ht,htb,hb⟩
  have ht1:(t:Int) ≤ 1000000:=by have:=HN.out; omega
  have c7:w7.cell? ⟨g,1,none⟩ = some (.int .i64 (t:Nat)):=HS7.out.rd.1.cell 1
  have hadd:Calls Tryz.prog 142 #[.pointer (some ⟨w.heap.size,0,none⟩),.int .i64 (a:Nat),.int .i64 (t:Nat)] w7 (AddAns w7 w.heap.size s.length none [] a t):=add_any w7 w.heap.size s.length 0 a t none [] HS7.out.pt HS7.out.bd HTK.out.2.2.1 HN.out (by simp)
  have HAD2:=Lib.hid hadd
  clear hr7 hf7 hk htb ht hb hadd
  go_wp2_with fail
  refine HAD2.out.mono ?_
  rintro e w8 ha
  obtain ⟨rfl,B2,d2,sp2,hs8,hp8,hl8⟩:=HS7.out.add ha
  have HS8:=Lib.hid hs8
  have HP8:=Lib.hid hp8
  obtain ⟨n,hn2⟩:∃ n,n = sp2.length:=⟨_,rfl⟩
  have HN2:=Lib.hid hn2
  have cp:w8.cell? ⟨w.heap.size,0,none⟩ = some (.slice B2 n d2):=by rw [hn2]; exact hs8.pt.1.cell 0
  clear ha hs8 hp8 hl8 hn2 c7
  have HANS:Hid (∀ v:Nat,(v = if (34:UInt8) ∈ (s.drop a).take k then 2 else 0) → FldAns w g c a A s (.returned (.tuple #[.int .i64 (v:Nat),.slice B2 n d2])) w8.drew):=by
    show ∀ _,_
    intro v hv
    have hTK:=HTK.out
    refine fld_bare HQ.out hTK.2.1 (HS8.out.fr0 ((Fr.refl [] _).drew)) hTK.1 ?_ HN2.out hv
    rw [HP8.out,show t - a = k by omega]
    simp [plc]
  cases hbb:b with
  | true =>
    have HV:=Lib.hid (HANS.out 2 (by rw [if_pos (by have:=HTK.out.2.2.2; rw [hbb] at this; simpa using this.symm)]))
    subst hbb
    go_wp2_with fail
    go_region_law (fail)
    all_goals
      go_wp2_with fail
      refine bodyPost_ret (v:=.tuple #[.int .i64 2,.slice B2 n d2]) (by simp [results,Tryz.results132,go_sem]) rfl ?_
      exact HV.out
  | false =>
    have HV:=Lib.hid (HANS.out 0 (by rw [if_neg (by have:=HTK.out.2.2.2; rw [hbb] at this; simpa using this.symm)]))
    subst hbb
    go_wp2_with fail
    go_region_law (fail)
    all_goals
      go_wp2_with fail
      refine bodyPost_ret (v:=.tuple #[.int .i64 0,.slice B2 n d2]) (by simp [results,Tryz.results132,go_sem]) rfl ?_
      exact HV.out
def EndAns (w:World) (g c a:Nat) (A:Option Addr) (s:List UInt8) (e:Ending) (w':World):Prop :=
  e = .returned (.int .i64 ((endP s a).1:Nat)) ∧ RdAt w' g A c s (a + (endP s a).2) ∧ Fr [some g] w w'
theorem isB_iff {s:List UInt8} {a:Nat} {x:UInt8}:isB s a x = true ↔ s[a]? = some x:=by
  unfold isB
  simp
theorem isB_no {s:List UInt8} {a:Nat} {x:UInt8}:isB s a x = false ↔ s[a]? ≠ some x:=by
  rw [← Bool.not_eq_true,Ne,isB_iff]
end Go.Proofs.YteohomdiklkbfaaGreat
namespace Go.Proofs.YteohomdiklkbfaaGreat
open Go.RowKit Go.Proofs.Dm

abbrev TFd:TypeId:=183
def FieldAns (w:World) (g c a:Nat) (A:Option Addr) (s:List UInt8) (e:Ending) (w':World):Prop :=
  ∃ (B:Option Addr) (m d:Nat) (sp:List (Nat × Nat)),e = .returned (.agg #[.int .i64 (a:Nat),.int .i64 ((fieldP s a).n:Nat),.int .i64 ((fieldP s a).kind:Nat),.slice B m d]) ∧ m = sp.length ∧ ORow w' TSp 2 B d sp.length (spc sp) ∧ plc sp = (fieldP s a).places ∧ (∀ x ∈ sp,1 ≤ x.2 ∧ x.1 + x.2 ≤ s.length) ∧
    RdAt w' g A c s (a + (fieldP s a).n) ∧ Fr [some g] w w' ∧ ∀ j,bk B = some j → w.heap.size ≤ j
theorem fld_any (w:World) (g c a:Nat) (A:Option Addr) (s:List UInt8) (h:RdAt w g A c s a) (ha:a ≤ s.length) (hn:s.length ≤ 1000000) :
    (isB s a 34 = true → Calls Tryz.prog 131 #[.pointer (some ⟨g,0,none⟩)] w (FldAns w g c a A s)) ∧ (isB s a 34 = false → Calls Tryz.prog 132 #[.pointer (some ⟨g,0,none⟩)] w (FldAns w g c a A s)):=by
  refine ⟨fun hb => ?_,fun hb => bare_any w g c a A s h ha (isB_no.1 hb) hn⟩
  have hq:=isB_iff.1 hb
  refine quoted_any w g c a A s h ?_ hq hn
  rcases Nat.lt_or_ge a s.length with h | h
  · exact h
  · rw [List.getElem?_eq_none h] at hq; cases hq
set_option maxRecDepth 100000 in
set_option maxHeartbeats 1600000 in
theorem field_any (w:World) (g c a:Nat) (A:Option Addr) (s:List UInt8) (h:RdAt w g A c s a) (ha:a ≤ s.length) (hn:s.length ≤ 1000000) :
    Calls Tryz.prog 118 #[.pointer (some ⟨g,0,none⟩)] w (FieldAns w g c a A s):=by
  have HR:=Lib.hid h
  have c1:w.cell? ⟨g,1,none⟩ = some (.int .i64 (a:Nat)):=h.1.cell 1
  have gl:=h.1.lt
  have ha1:(a:Int) ≤ 1000000:=by omega
  have HA:=Lib.hid ha
  have HN:=Lib.hid hn
  clear h ha hn
  have HRA:=Lib.hid ((HR.out.fr0 ((Fr.refl [] w).alloc (.cells #[.int .i64 0,.int .i64 0,.int .i64 0,.slice none 0 0] TFd))).fr0 ((Fr.refl [] _).alloc (.cells #[.int .i64 0,.int .i64 0,.int .i64 0,.slice none 0 0] TFd)))
  have his:Calls Tryz.prog 119 #[.pointer (some ⟨g,0,none⟩),.int .u8 34] _ (Qt _ (.bool (isB s a 34))):=is_any _ g c a A s 34 HRA.out
  have HBA:Hid (Blk ((w.alloc (.cells #[.int .i64 0,.int .i64 0,.int .i64 0,.slice none 0 0] TFd)).alloc (.cells #[.int .i64 0,.int .i64 0,.int .i64 0,.slice none 0 0] TFd)) w.heap.size TFd #[.int .i64 0,.int .i64 0,.int .i64 0,.slice none 0 0] ∧ Blk ((w.alloc (.cells #[.int .i64 0,.int .i64 0,.int .i64 0,.slice none 0 0] TFd)).alloc (.cells #[.int .i64 0,.int .i64 0,.int .i64 0,.slice none 0 0] TFd)) (w.heap.size + 1) TFd #[.int .i64 0,.int .i64 0,.int .i64 0,.slice none 0 0] ∧ Fr [] w ((w.alloc (.cells #[.int .i64 0,.int .i64 0,.int .i64 0,.slice none 0 0] TFd)).alloc (.cells #[.int .i64 0,.int .i64 0,.int .i64 0,.slice none 0 0] TFd))):=by
    refine ⟨(Blk.new w TFd _).alloc _,?_,((Fr.refl [] w).alloc _).alloc _⟩
    have:=Blk.new (w.alloc (.cells #[.int .i64 0,.int .i64 0,.int .i64 0,.slice none 0 0] TFd)) TFd #[.int .i64 0,.int .i64 0,.int .i64 0,.slice none 0 0]
    rwa [show (w.alloc (.cells #[.int .i64 0,.int .i64 0,.int .i64 0,.slice none 0 0] TFd)).heap.size = w.heap.size + 1 by simp] at this
  go_enter Tryz.func118,Tryz.ntmps118
  go_wp2_with fail
  obtain ⟨wa,hwa⟩:∃ wa,wa = (w.alloc (.cells #[.int .i64 0,.int .i64 0,.int .i64 0,.slice none 0 0] TFd)).alloc (.cells #[.int .i64 0,.int .i64 0,.int .i64 0,.slice none 0 0] TFd):=⟨_,rfl⟩
  rw [← hwa] at HRA his HBA ⊢
  clear hwa
  obtain ⟨L2,hL2⟩:∃ L2,L2 = w.heap.size + 1:=⟨_,rfl⟩
  rw [← hL2] at HBA ⊢
  obtain ⟨L1,hL1⟩:∃ L1,L1 = w.heap.size:=⟨_,rfl⟩
  rw [← hL1] at HBA ⊢
  have HNE:Hid (g ≠ L1 ∧ g ≠ L2):=⟨by omega,by omega⟩
  have HLN:Hid (L1 ≠ L2):=by show _ ≠ _; omega
  have HLS:Hid (w.heap.size ≤ L1 ∧ w.heap.size ≤ L2 ∧ L1 < L2):=⟨by omega,by omega,by omega⟩
  clear hL1 hL2 c1
  cases hb:isB s a 34 with
  | true =>
    rw [hb] at his
    have HIS:=Lib.hid his
    have HFL:=Lib.hid (fun v hv => (fld_any v g c a A s hv HA.out HN.out).1 hb)
    clear his hb
    refine HIS.out.mono ?_
    rintro e wb hq
    obtain ⟨rfl,hf⟩:=hq.fr
    have HRB:=Lib.hid (HRA.out.fr0 hf)
    have HBB:Hid (Blk wb L1 TFd #[.int .i64 0,.int .i64 0,.int .i64 0,.slice none 0 0] ∧ Blk wb L2 TFd #[.int .i64 0,.int .i64 0,.int .i64 0,.slice none 0 0] ∧ Fr [] w wb):=⟨HBA.out.1.fr hf (by simp),HBA.out.2.1.fr hf (by simp),HBA.out.2.2.trans hf⟩
    clear hq hf
    go_wp2_with fail
    refine (HFL.out _ HRB.out).mono ?_
    rintro e wc ⟨B,m,d,sp,rfl,hm,hr,hp,hbd,hrd,hf,hn⟩
    obtain ⟨kd,hkd⟩:∃ kd,kd = (fieldP s a).kind:=⟨_,rfl⟩
    obtain ⟨nn,hnn⟩:∃ nn,nn = (fieldP s a).n:=⟨_,rfl⟩
    obtain ⟨t,ht⟩:∃ t,t = a + nn:=⟨_,rfl⟩
    rw [← hnn,← ht] at hrd
    rw [← hkd]
    have hbnd:t ≤ s.length:=by rw [ht,hnn]; exact fieldP_bd s a HA.out
    have ht1:(t:Int) ≤ 1000000:=by have:=HN.out; omega
    have hsub:(t:Int) - (a:Int) = (nn:Int):=by omega
    have hS1:some L1 ∉ [some g]:=fun e => by rw [List.mem_singleton] at e; injection e with e; exact HNE.out.1 e.symm
    have hS2:some L2 ∉ [some g]:=fun e => by rw [List.mem_singleton] at e; injection e with e; exact HNE.out.2 e.symm
    have b1:=HBB.out.1.fr hf hS1
    have b2:=HBB.out.2.1.fr hf hS2
    have HANS:Hid (∀ wf,Fr [some L1,some L2] wc wf → FieldAns w g c a A s (.returned (.agg #[.int .i64 (a:Nat),.int .i64 (nn:Nat),.int .i64 (kd:Nat),.slice B m d])) wf):=by
      show ∀ _,_
      intro wf hw
      have hL:=HLS.out
      have hwb:=HBB.out.2.2.size
      have hall:Fr [some g] w wf:=(HBB.out.2.2.of_nil.trans hf).seq hw fun x hx => by
        rcases List.mem_cons.1 hx with rfl | hx
        · exact .inr (.inr ⟨L1,by omega,rfl⟩)
        · rw [List.mem_singleton] at hx
          exact .inr (.inr ⟨L2,by omega,hx⟩)
      have hgn:some g ∉ [some L1,some L2]:=fun e => by
        rcases List.mem_cons.1 e with e | e
        · injection e with e; exact HNE.out.1 e
        · rw [List.mem_singleton] at e; injection e with e; exact HNE.out.2 e
      have hBn:bk B = none ∨ bk B ∉ [some L1,some L2]:=by
        cases hbB:bk B with
        | none => exact .inl rfl
        | some j =>
          have h1:=hn j hbB
          have h2:=HBB.out.2.1.lt
          refine .inr fun e => ?_
          rcases List.mem_cons.1 e with e | e
          · injection e with e; omega
          · rw [List.mem_singleton] at e; injection e with e; omega
      refine ⟨B,m,d,sp,by rw [hkd,hnn],hm,ORow.fr hr hw hBn,hp,hbd,?_,hall,fun j hj => Nat.le_trans hwb (hn j hj)⟩
      rw [← hnn,← ht]
      exact hrd.frS hw hgn (HR.out.2.fr hall)
    have c5:wc.cell? ⟨g,1,none⟩ = some (.int .i64 (t:Nat)):=hrd.1.cell 1
    have d0:wc.cell? ⟨L2,0,none⟩ = some (.int .i64 0):=b2.cell 0
    have d1:wc.cell? ⟨L2,1,none⟩ = some (.int .i64 0):=b2.cell 1
    have d2:wc.cell? ⟨L2,2,none⟩ = some (.int .i64 0):=b2.cell 2
    have d3:wc.cell? ⟨L2,3,none⟩ = some (.slice none 0 0):=b2.cell 3
    have e0:wc.cell? ⟨L1,0,none⟩ = some (.int .i64 0):=b1.cell 0
    have e1:wc.cell? ⟨L1,1,none⟩ = some (.int .i64 0):=b1.cell 1
    have e2:wc.cell? ⟨L1,2,none⟩ = some (.int .i64 0):=b1.cell 2
    have e3:wc.cell? ⟨L1,3,none⟩ = some (.slice none 0 0):=b1.cell 3
    have z0:=b2.frozen 0
    have z1:=b2.frozen 1
    have z2:=b2.frozen 2
    have z3:=b2.frozen 3
    have y0:=b1.frozen 0
    have y1:=b1.frozen 1
    have y2:=b1.frozen 2
    have y3:=b1.frozen 3
    have l1:=b1.lt
    have l2:=b2.lt
    obtain ⟨n1,n2⟩:=HNE.out
    have n3:=n1.symm
    have n4:=n2.symm
    have n5:=HLN.out
    have n6:=n5.symm
    clear hm hr hp hbd hrd hf hn hkd hnn ht hbnd hS1 hS2 b1 b2
    go_wp2_with fail
    refine bodyPost_ret (v:=.agg #[.int .i64 (a:Nat),.int .i64 (nn:Nat),.int .i64 (kd:Nat),.slice B m d]) (by simp [results,Tryz.results118,go_sem, *]) rfl ?_
    exact HANS.out _ (((((((((Fr.refl [some L1,some L2] wc).setB (fun _ => by simp) _ _).setB (fun _ => by simp) _ _).setB (fun _ => by simp) _ _).setB (fun _ => by simp) _ _).setB (fun _ => by simp) _ _).setB (fun _ => by simp) _ _).setB (fun _ => by simp) _ _).setB (fun _ => by simp) _ _)
  | false =>
    rw [hb] at his
    have HIS:=Lib.hid his
    have HFL:=Lib.hid (fun v hv => (fld_any v g c a A s hv HA.out HN.out).2 hb)
    clear his hb
    refine HIS.out.mono ?_
    rintro e wb hq
    obtain ⟨rfl,hf⟩:=hq.fr
    have HRB:=Lib.hid (HRA.out.fr0 hf)
    have HBB:Hid (Blk wb L1 TFd #[.int .i64 0,.int .i64 0,.int .i64 0,.slice none 0 0] ∧ Blk wb L2 TFd #[.int .i64 0,.int .i64 0,.int .i64 0,.slice none 0 0] ∧ Fr [] w wb):=⟨HBA.out.1.fr hf (by simp),HBA.out.2.1.fr hf (by simp),HBA.out.2.2.trans hf⟩
    clear hq hf
    go_wp2_with fail
    refine (HFL.out _ HRB.out).mono ?_
    rintro e wc ⟨B,m,d,sp,rfl,hm,hr,hp,hbd,hrd,hf,hn⟩
    obtain ⟨kd,hkd⟩:∃ kd,kd = (fieldP s a).kind:=⟨_,rfl⟩
    obtain ⟨nn,hnn⟩:∃ nn,nn = (fieldP s a).n:=⟨_,rfl⟩
    obtain ⟨t,ht⟩:∃ t,t = a + nn:=⟨_,rfl⟩
    rw [← hnn,← ht] at hrd
    rw [← hkd]
    have hbnd:t ≤ s.length:=by rw [ht,hnn]; exact fieldP_bd s a HA.out
    have ht1:(t:Int) ≤ 1000000:=by have:=HN.out; omega
    have hsub:(t:Int) - (a:Int) = (nn:Int):=by omega
    have hS1:some L1 ∉ [some g]:=fun e => by rw [List.mem_singleton] at e; injection e with e; exact HNE.out.1 e.symm
    have hS2:some L2 ∉ [some g]:=fun e => by rw [List.mem_singleton] at e; injection e with e; exact HNE.out.2 e.symm
    have b1:=HBB.out.1.fr hf hS1
    have b2:=HBB.out.2.1.fr hf hS2
    have HANS:Hid (∀ wf,Fr [some L1,some L2] wc wf → FieldAns w g c a A s (.returned (.agg #[.int .i64 (a:Nat),.int .i64 (nn:Nat),.int .i64 (kd:Nat),.slice B m d])) wf):=by
      show ∀ _,_
      intro wf hw
      have hL:=HLS.out
      have hwb:=HBB.out.2.2.size
      have hall:Fr [some g] w wf:=(HBB.out.2.2.of_nil.trans hf).seq hw fun x hx => by
        rcases List.mem_cons.1 hx with rfl | hx
        · exact .inr (.inr ⟨L1,by omega,rfl⟩)
        · rw [List.mem_singleton] at hx
          exact .inr (.inr ⟨L2,by omega,hx⟩)
      have hgn:some g ∉ [some L1,some L2]:=fun e => by
        rcases List.mem_cons.1 e with e | e
        · injection e with e; exact HNE.out.1 e
        · rw [List.mem_singleton] at e; injection e with e; exact HNE.out.2 e
      have hBn:bk B = none ∨ bk B ∉ [some L1,some L2]:=by
        cases hbB:bk B with
        | none => exact .inl rfl
        | some j =>
          have h1:=hn j hbB
          have h2:=HBB.out.2.1.lt
          refine .inr fun e => ?_
          rcases List.mem_cons.1 e with e | e
          · injection e with e; omega
          · rw [List.mem_singleton] at e; injection e with e; omega
      refine ⟨B,m,d,sp,by rw [hkd,hnn],hm,ORow.fr hr hw hBn,hp,hbd,?_,hall,fun j hj => Nat.le_trans hwb (hn j hj)⟩
      rw [← hnn,← ht]
      exact hrd.frS hw hgn (HR.out.2.fr hall)
    have c5:wc.cell? ⟨g,1,none⟩ = some (.int .i64 (t:Nat)):=hrd.1.cell 1
    have d0:wc.cell? ⟨L2,0,none⟩ = some (.int .i64 0):=b2.cell 0
    have d1:wc.cell? ⟨L2,1,none⟩ = some (.int .i64 0):=b2.cell 1
    have d2:wc.cell? ⟨L2,2,none⟩ = some (.int .i64 0):=b2.cell 2
    have d3:wc.cell? ⟨L2,3,none⟩ = some (.slice none 0 0):=b2.cell 3
    have e0:wc.cell? ⟨L1,0,none⟩ = some (.int .i64 0):=b1.cell 0
    have e1:wc.cell? ⟨L1,1,none⟩ = some (.int .i64 0):=b1.cell 1
    have e2:wc.cell? ⟨L1,2,none⟩ = some (.int .i64 0):=b1.cell 2
    have e3:wc.cell? ⟨L1,3,none⟩ = some (.slice none 0 0):=b1.cell 3
    have z0:=b2.frozen 0
    have z1:=b2.frozen 1
    have z2:=b2.frozen 2
    have z3:=b2.frozen 3
    have y0:=b1.frozen 0
    have y1:=b1.frozen 1
    have y2:=b1.frozen 2
    have y3:=b1.frozen 3
    have l1:=b1.lt
    have l2:=b2.lt
    obtain ⟨n1,n2⟩:=HNE.out
    have n3:=n1.symm
    have n4:=n2.symm
    have n5:=HLN.out
    have n6:=n5.symm
    clear hm hr hp hbd hrd hf hn hkd hnn ht hbnd hS1 hS2 b1 b2
    go_wp2_with fail
    refine bodyPost_ret (v:=.agg #[.int .i64 (a:Nat),.int .i64 (nn:Nat),.int .i64 (kd:Nat),.slice B m d]) (by simp [results,Tryz.results118,go_sem, *]) rfl ?_
    exact HANS.out _ (((((((((Fr.refl [some L1,some L2] wc).setB (fun _ => by simp) _ _).setB (fun _ => by simp) _ _).setB (fun _ => by simp) _ _).setB (fun _ => by simp) _ _).setB (fun _ => by simp) _ _).setB (fun _ => by simp) _ _).setB (fun _ => by simp) _ _).setB (fun _ => by simp) _ _)
end Go.Proofs.YteohomdiklkbfaaGreat
namespace Go.Proofs.YteohomdiklkbfaaGreat
open Go.RowKit Go.Proofs.Dm

set_option maxRecDepth 100000 in
set_option maxHeartbeats 800000 in
theorem end_any (w:World) (g c a:Nat) (A:Option Addr) (s:List UInt8) (h:RdAt w g A c s a) (ha:a ≤ s.length) (hn:s.length ≤ 1000000) :
    Calls Tryz.prog 120 #[.pointer (some ⟨g,0,none⟩)] w (EndAns w g c a A s):=by
  have HR:=Lib.hid h
  have ha1:(a:Int) ≤ 1000000:=by omega
  have HANS:Hid (∀ (v k t:Nat) (w':World),endP s a = (v,k) → t = a + k → RdAt w' g A c s t → Fr [some g] w w' → EndAns w g c a A s (.returned (.int .i64 (v:Nat))) w'):=by
    show ∀ _,_
    intro v k t w' h1 h2 h3 h4
    exact ⟨by rw [h1],by rw [h1]; exact h2 ▸ h3,h4⟩
  have h10:∀ v q,RdAt v g A c s q → Calls Tryz.prog 119 #[.pointer (some ⟨g,0,none⟩),.int .u8 10] v (Qt v (.bool (isB s q 10))):=fun v q hv => is_any v g c q A s 10 hv
  have h13:∀ v q,RdAt v g A c s q → Calls Tryz.prog 119 #[.pointer (some ⟨g,0,none⟩),.int .u8 13] v (Qt v (.bool (isB s q 13))):=fun v q hv => is_any v g c q A s 13 hv
  have H10:=Lib.hid h10
  have H13:=Lib.hid h13
  obtain ⟨q,hq2⟩:∃ q,q = a + 1:=⟨_,rfl⟩
  have hq1:(a:Int) + 1 = (q:Int):=by omega
  have hq3:(q:Int) ≤ 1000001:=by omega
  obtain ⟨r,hr2⟩:∃ r,r = q + 1:=⟨_,rfl⟩
  have hr1:(q:Int) + 1 = (r:Int):=by omega
  have HQ:Hid (q = a + 1 ∧ r = q + 1):=⟨hq2,hr2⟩
  clear h ha hn h10 h13 hq2 hr2
  have hi:=H10.out w a HR.out
  go_enter Tryz.func120,Tryz.ntmps120
  cases hb:isB s a 10 with
  | true =>
    rw [hb] at hi
    have HI:=Lib.hid hi
    have HB:=Lib.hid (isB_iff.1 hb)
    clear hi hb
    go_wp2_with fail
    refine HI.out.mono ?_
    rintro e w1 hq
    obtain ⟨rfl,hf⟩:=hq.fr
    have HS:=Lib.hid (HR.out.fr0 hf)
    have HF:=Lib.hid hf
    have c1:w1.cell? ⟨g,1,none⟩ = some (.int .i64 (a:Nat)):=HS.out.1.cell 1
    have f1:=HS.out.1.frozen 1
    have l1:=HS.out.1.lt
    clear hq hf
    go_wp2_with fail
    go_ret
    exact HANS.out 1 1 q _ (by unfold endP; rw [if_pos HB.out]) HQ.out.1 (HS.out.set q).1 (HF.out.of_nil.trans (HS.out.set q).2)
  | false =>
    rw [hb] at hi
    have HI:=Lib.hid hi
    have HB:=Lib.hid (isB_no.1 hb)
    clear hi hb
    go_wp2_with fail
    refine HI.out.mono ?_
    rintro e w1 hq
    obtain ⟨rfl,hf⟩:=hq.fr
    have HS:=Lib.hid (HR.out.fr0 hf)
    have HF:=Lib.hid hf
    clear hq hf
    have hi:=H13.out w1 a HS.out
    cases hb:isB s a 13 with
    | false =>
      rw [hb] at hi
      have HI:=Lib.hid hi
      have HB2:=Lib.hid (isB_no.1 hb)
      clear hi hb
      go_wp2_with fail
      refine HI.out.mono ?_
      rintro e w2 hq
      obtain ⟨rfl,hf⟩:=hq.fr
      have HS2:=Lib.hid (HS.out.fr0 hf)
      have HF2:=Lib.hid (HF.out.trans hf)
      clear hq hf
      go_wp2_with fail
      go_ret
      exact HANS.out 0 0 a _ (by unfold endP; rw [if_neg HB.out,if_neg HB2.out]) rfl HS2.out HF2.out.of_nil
    | true =>
      rw [hb] at hi
      have HI:=Lib.hid hi
      have HB2:=Lib.hid (isB_iff.1 hb)
      clear hi hb
      go_wp2_with fail
      refine HI.out.mono ?_
      rintro e w2 hq
      obtain ⟨rfl,hf⟩:=hq.fr
      have HS2:=Lib.hid (HS.out.fr0 hf)
      have HF2:=Lib.hid (HF.out.trans hf)
      have c1:w2.cell? ⟨g,1,none⟩ = some (.int .i64 (a:Nat)):=HS2.out.1.cell 1
      have f1:=HS2.out.1.frozen 1
      have l1:=HS2.out.1.lt
      clear hq hf
      go_wp2_with fail
      have HS3:=Lib.hid (HS2.out.set q).1
      have HF3:=Lib.hid (HF2.out.of_nil.trans (HS2.out.set q).2)
      obtain ⟨w3,hw3⟩:∃ w3,w3 = w2.setCell ⟨g,1,none⟩ (.int .i64 (q:Nat)):=⟨_,rfl⟩
      rw [← hw3] at HS3 HF3 ⊢
      clear hw3 c1 f1 l1
      have hi:=H10.out w3 q HS3.out
      cases hb:isB s q 10 with
      | true =>
        rw [hb] at hi
        have HI:=Lib.hid hi
        have HB3:=Lib.hid (isB_iff.1 hb)
        clear hi hb
        refine HI.out.mono ?_
        rintro e w4 hq
        obtain ⟨rfl,hf⟩:=hq.fr
        have HS4:=Lib.hid (HS3.out.fr0 hf)
        have HF4:=Lib.hid (HF3.out.trans hf.of_nil)
        have c1:w4.cell? ⟨g,1,none⟩ = some (.int .i64 (q:Nat)):=HS4.out.1.cell 1
        have f1:=HS4.out.1.frozen 1
        have l1:=HS4.out.1.lt
        clear hq hf
        go_wp2_with fail
        go_ret
        exact HANS.out 2 2 r _ (by unfold endP; rw [if_neg HB.out,if_pos HB2.out,if_pos (HQ.out.1 ▸ HB3.out)]) (by have:=HQ.out; omega) (HS4.out.set r).1 (HF4.out.trans (HS4.out.set r).2)
      | false =>
        rw [hb] at hi
        have HI:=Lib.hid hi
        have HB3:=Lib.hid (isB_no.1 hb)
        clear hi hb
        refine HI.out.mono ?_
        rintro e w4 hq
        obtain ⟨rfl,hf⟩:=hq.fr
        have HS4:=Lib.hid (HS3.out.fr0 hf)
        have HF4:=Lib.hid (HF3.out.trans hf.of_nil)
        clear hq hf
        go_wp2_with fail
        go_ret
        exact HANS.out 3 1 q _ (by unfold endP; rw [if_neg HB.out,if_pos HB2.out,if_neg (HQ.out.1 ▸ HB3.out)]) HQ.out.1 HS4.out HF4.out
end Go.Proofs.YteohomdiklkbfaaGreat
namespace Go.Proofs.YteohomdiklkbfaaGreat
open Go.RowKit Go.Proofs.Dm

def restF (s:List UInt8) (k t:Nat):List FieldP:=if s[t]? = some 44 then fieldsP s k (t + 1) else []
def restE (s:List UInt8) (k t:Nat):Nat:=if s[t]? = some 44 then fendP s k (t + 1) else t
theorem rest_start (s:List UInt8) (k a:Nat):fieldsP s (k + 1) a = fieldP s a :: restF s k (a + (fieldP s a).n) ∧ fendP s (k + 1) a = restE s k (a + (fieldP s a).n):=⟨rfl,rfl⟩
theorem rest_more (s:List UInt8) (k t:Nat) (h:s[t]? = some 44):restF s (k + 1) t = fieldP s (t + 1) :: restF s k (t + 1 + (fieldP s (t + 1)).n) ∧ restE s (k + 1) t = restE s k (t + 1 + (fieldP s (t + 1)).n):=by
  unfold restF restE
  rw [if_pos h,if_pos h]
  exact ⟨rfl,rfl⟩
theorem rest_stop (s:List UInt8) (k t:Nat) (h:s[t]? ≠ some 44):restF s k t = [] ∧ restE s k t = t:=by
  unfold restF restE
  rw [if_neg h,if_neg h]
  exact ⟨rfl,rfl⟩
structure FV where
  f:FieldP
  B:Option Addr
  d:Nat
  sp:List (Nat × Nat)
def FV.cells (x:FV):List Value:=[.int .i64 (x.f.a:Nat),.int .i64 (x.f.n:Nat),.int .i64 (x.f.kind:Nat),.slice x.B x.sp.length x.d]
def fvc (xs:List FV):List Value:=xs.flatMap FV.cells
def FV.ok (N:Nat) (w:World) (x:FV):Prop:=ORow w TSp 2 x.B x.d x.sp.length (spc x.sp) ∧ plc x.sp = x.f.places ∧ ∀ y ∈ x.sp,1 ≤ y.2 ∧ y.1 + y.2 ≤ N
theorem ORow.ne {w:World} {e1 e2:TypeId} {z1 z2 c1 c2 n1 n2:Nat} {A1 A2:Option Addr} {cs1 cs2:List Value} (h1:ORow w e1 z1 A1 c1 n1 cs1) (h2:ORow w e2 z2 A2 c2 n2 cs2) (he:e1 ≠ e2):bk A1 = none ∨ bk A1 ≠ bk A2:=by
  rcases h1.2 with ⟨h,_⟩ | ⟨g1,k1,r1,h,_,hg1,_⟩
  · injection h with h; subst h; exact .inl rfl
  · injection h with h
    subst h
    rcases h2.2 with ⟨h,_⟩ | ⟨g2,k2,r2,h,_,hg2,_⟩
    · injection h with h; subst h; exact .inr (by simp [bk])
    · injection h with h
      subst h
      refine .inr fun e => ?_
      simp only [bk,Option.map_some,Option.some.injEq] at e
      subst e
      rw [hg1] at hg2
      injection hg2 with hg2
      injection hg2 with _ hg2 _
      exact he hg2
theorem FV.ok.fr {N:Nat} {w w':World} {x:FV} {S:List (Option Nat)} (h:x.ok N w) (hf:Fr S w w') (hn:bk x.B = none ∨ bk x.B ∉ S):x.ok N w':=⟨ORow.fr h.1 hf hn,h.2⟩
theorem FV.ok.grown {N:Nat} {w w':World} {x:FV} {B:Option Addr} {d n:Nat} {cs:List Value} (h:x.ok N w) (hr:ORow w TFd 4 B d n cs) (hf:Fr [bk B] w w'):x.ok N w':=by
  refine h.fr hf ?_
  rcases ORow.ne h.1 hr (by decide) with h | h
  · exact .inl h
  · exact .inr (by rw [List.mem_singleton]; exact h)
end Go.Proofs.YteohomdiklkbfaaGreat
