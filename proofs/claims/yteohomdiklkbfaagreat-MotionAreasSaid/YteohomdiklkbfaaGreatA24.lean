import Derived.Test.YteohomdiklkbfaaGreatA17
namespace Go.Proofs.Dm
def dmk (s:List UInt8) (a:Nat):Bool:=match s[a]? with | none => true | some c => isMark c
end Go.Proofs.Dm
namespace Go.Proofs.YteohomdiklkbfaaGreat
open Go.RowKit Go.Proofs.Dm

set_option maxHeartbeats 400000 in
theorem dquote_any (s:List UInt8) (a:Nat) (w:World) :
    Calls Tryz.prog 136 #[.string ⟨s.toArray⟩,.int .i64 (a:Nat)] w fun e w' => e = .returned (.bool (isB s a 34)) ∧ w = w':=by
  rcases Nat.lt_or_ge a s.length with hlt | hge
  · have h1:(a:Int) < (s.length:Int):=by omega
    go_enter Tryz.func136,Tryz.ntmps136
    go_wp2_with fail
    go_ret
    refine ⟨?_,rfl⟩
    rw [isB_lt hlt]
    exact congrArg (fun b => Ending.returned (.bool b)) (u8_eq s[a] 34)
  · rw [isB_ge hge]
    have h1:¬ (a:Int) < (s.length:Int):=by omega
    go_enter Tryz.func136,Tryz.ntmps136
    go_wp2_with fail
    go_ret
    exact ⟨rfl,rfl⟩
set_option maxHeartbeats 400000 in
theorem dmark_any (s:List UInt8) (a:Nat) (w:World) :
    Calls Tryz.prog 146 #[.string ⟨s.toArray⟩,.int .i64 (a:Nat)] w fun e w' => e = .returned (.bool (dmk s a)) ∧ w = w':=by
  rcases Nat.lt_or_ge a s.length with hlt | hge
  · have h1:¬ (s.length:Int) ≤ (a:Int):=by omega
    have h2:(a:Int) < (s.length:Int):=by omega
    go_enter Tryz.func146,Tryz.ntmps146
    have hi:a < (⟨s.toArray⟩:ByteArray).size:=by simpa [ByteArray.size] using hlt
    have hk:Hid (dmk s a = (((((⟨s.toArray⟩:ByteArray)[a].toNat:Nat):Int) == 44) || ((((⟨s.toArray⟩:ByteArray)[a].toNat:Nat):Int) == 13) || ((((⟨s.toArray⟩:ByteArray)[a].toNat:Nat):Int) == 10))):=by
      have hx:(⟨s.toArray⟩:ByteArray)[a] = s[a]:=rfl
      show _ = _
      unfold dmk isMark
      rw [List.getElem?_eq_getElem hlt,hx]
      show (s[a] == 44 || s[a] == 13 || s[a] == 10) = _
      rw [← u8_eq s[a] 44,← u8_eq s[a] 13,← u8_eq s[a] 10]
      rfl
    go_wp2_with fail
    all_goals
      go_ret
      refine ⟨?_,rfl⟩
      rw [hk.out]
      simp [*]
  · have h1:(s.length:Int) ≤ (a:Int):=by omega
    have h2:dmk s a = true:=by unfold dmk; rw [List.getElem?_eq_none hge]
    rw [h2]
    clear h2
    go_enter Tryz.func146,Tryz.ntmps146
    go_wp2_with fail
    go_ret
    exact ⟨rfl,rfl⟩
theorem tillP_eq (s:List UInt8) (a:Nat):(dmk s a = true → tillP (s.drop a) = 0) ∧ (dmk s a = false → a < s.length ∧ tillP (s.drop a) = tillP (s.drop (a + 1)) + 1):=by
  rcases Nat.lt_or_ge a s.length with h | h
  · have e:=tillP_step s a h
    have hd:dmk s a = isMark s[a]:=by unfold dmk; rw [List.getElem?_eq_getElem h]
    refine ⟨fun hm => by rw [e,← hd,hm]; rfl,fun hm => ⟨h,by rw [e,← hd,hm]; rfl⟩⟩
  · refine ⟨fun _ => tillP_none s a h,fun hm => ?_⟩
    unfold dmk at hm
    rw [List.getElem?_eq_none h] at hm
    cases hm
set_option maxHeartbeats 800000 in
theorem dtill_any (s:List UInt8) (a:Nat) (w:World) (ha:a ≤ s.length) (hn:s.length ≤ 1000000) :
    Calls Tryz.prog 137 #[.string ⟨s.toArray⟩,.int .i64 (a:Nat)] w fun e w' => e = .returned (.int .i64 ((a + tillP (s.drop a):Nat):Int)) ∧ w = w':=by
  obtain ⟨T,hT⟩:∃ T,T = a + tillP (s.drop a):=⟨_,rfl⟩
  have hTl:T ≤ s.length:=by have:=tillP_bd s a ha; omega
  rw [← hT]
  have HT:=Lib.hid hT
  have HTL:=Lib.hid hTl
  have HN:=Lib.hid hn
  have haT:a ≤ T:=by omega
  clear hT hTl hn ha
  go_enter Tryz.func137,Tryz.ntmps137
  go_wp2_with fail
  go_loopw [1] (fun iv wr => ∃ j:Nat,iv = .int .i64 j ∧ w = wr ∧ j ≤ T ∧ Hid (T = j + tillP (s.drop j))) (fun iv _ => T - (intOf iv).toNat)
  case atStart => exact ⟨a,rfl,rfl,haT,HT.out⟩
  case round =>
    clear haT
    obtain ⟨j,rfl,rfl,hj,HJ⟩:=hrel
    have hm:=dmark_any s j w
    have hj1:(j:Int) ≤ 1000000:=by have:=HTL.out; have:=HN.out; omega
    cases hb:dmk s j with
    | true =>
      rw [hb] at hm
      have HM:=Lib.hid hm
      have HE:Hid (T = j):=by have:=(tillP_eq s j).1 hb; have:=HJ.out; show _ = _; omega
      clear hm hb
      go_wp2_with fail
      refine HM.out.mono ?_
      rintro e w2 ⟨rfl,rfl⟩
      go_wp2_with fail
      go_ret
      exact ⟨by rw [HE.out]; rfl,rfl⟩
    | false =>
      rw [hb] at hm
      have HM:=Lib.hid hm
      have h2:=(tillP_eq s j).2 hb
      have HE:Hid (T = (j + 1) + tillP (s.drop (j + 1))):=by have:=HJ.out; show _ = _; omega
      clear hm hb h2
      go_wp2_with fail
      refine HM.out.mono ?_
      rintro e w2 ⟨rfl,rfl⟩
      go_wp2_with fail
      have hle:j + 1 ≤ T:=by have:=HE.out; omega
      go_roundw
      case rel => exact ⟨j + 1,by go_num,trivial,hle,HE.out⟩
      case measure => simp [intOf]; omega
theorem infoI:(Tryz.prog.info? 3).map (fun i => (i.zero,i.size,i.bytes)) = some (some (.int .i64 0),1,8):=by kernel_rfl
def nats (l:List Nat):List Value:=l.map fun k => .int .i64 (k:Nat)
def PlAns (w:World) (A:Option Addr) (l:List Nat) (e:Ending) (w':World):Prop:=∃ (A':Option Addr) (m c':Nat),e = .returned (.slice A' m c') ∧ m = l.length ∧ ORow w' 3 1 A' c' m (nats l) ∧ Fr [bk A] w w' ∧ (∀ j,bk A' = some j → bk A = some j ∨ w.heap.size ≤ j)
set_option maxHeartbeats 800000 in
theorem dplaces_any (A:Option Addr) (c n f t:Nat) (l:List Nat) (w:World) (h:ORow w 3 1 A c n (nats l)) (hl:n = l.length) (hft:f ≤ t) (ht:t ≤ 1000000) (hn:n ≤ 1000000) :
    Calls Tryz.prog 138 #[.slice A n c,.int .i64 (f:Nat),.int .i64 (t:Nat)] w (PlAns w A (l ++ List.range' f (t - f))):=by
  have HO:=Lib.hid h
  have HL:=Lib.hid hl
  have HN:=Lib.hid hn
  have ht1:(t:Int) ≤ 1000000:=by omega
  clear h hl hn
  go_enter Tryz.func138,Tryz.ntmps138
  go_wp2_with fail
  go_loopw [7,0] (fun iv ov wr => ∃ (j:Nat) (B:Option Addr) (d m:Nat),iv = .int .i64 j ∧ ov = .slice B m d ∧ f ≤ j ∧ j ≤ t ∧ Hid (ORow wr 3 1 B d m (nats (l ++ List.range' f (j - f)))) ∧ Hid (m = n + (j - f)) ∧ Hid (Fr [bk A] w wr) ∧ Hid (∀ j,bk B = some j → bk A = some j ∨ w.heap.size ≤ j)) (fun iv _ _ => t - (intOf iv).toNat)
  case atStart => exact ⟨f,A,c,n,rfl,rfl,Nat.le_refl _,hft,by show ORow _ _ _ _ _ _ _; rw [Nat.sub_self]; simpa using HO.out,by show _ = _; omega,Fr.refl _ _,fun j hj => .inl hj⟩
  case round =>
    obtain ⟨j,B,d,m,rfl,rfl,hf,hj,HR,HM,HF,HB⟩:=hrel
    by_cases hlt:j < t
    · have hm1:Hid (m ≤ 2000000):=by show _ ≤ _; have:=HM.out; have:=HN.out; omega
      go_wp2_with (at_builtin; go_must (
        refine wpList_app _ rfl _ _ 55 3 rfl (.int .i64 0) 1 8 Tryz.underlying55 infoI rfl (by decide) B d m (nats (l ++ List.range' f (j - f))) rfl (ORow.fr HR.out ((Fr.refl [] wr).alloc _) (.inr List.not_mem_nil)) _ 1 1 [.int .i64 (j:Nat)] rfl rfl (sl_new wr _ 3) (by simp [Value.oneCell']) (by have:=hm1.out; simp only [maxLen]; omega) (by have:=hm1.out; omega) ?_
        intro B2 d2 w2 hr2 hg2 hb2
        have HR2:Hid (ORow w2 3 1 B2 d2 (m + 1) (nats (l ++ List.range' f (j + 1 - f)))):=by
          have e:nats (l ++ List.range' f (j + 1 - f)) = nats (l ++ List.range' f (j - f)) ++ [.int .i64 (j:Nat)]:=by
            rw [show j + 1 - f = (j - f) + 1 by omega,List.range'_1_concat,← List.append_assoc]
            unfold nats
            rw [List.map_append (l₁:=l ++ List.range' f (j - f))]
            simp
            omega
          show ORow _ _ _ _ _ _ _
          rw [e]
          exact hr2
        have HF2:Hid (Fr [bk A] w w2):=by
          refine (HF.out.alloc (.cells #[.int .i64 (j:Nat)] 3)).seq hg2 fun x hx => ?_
          rw [List.mem_singleton] at hx
          subst hx
          cases hB:bk B with
          | none => exact .inr (.inl rfl)
          | some k =>
            rcases HB.out k hB with h | h
            · exact .inl (by rw [h]; exact List.mem_singleton.2 rfl)
            · exact .inr (.inr ⟨k,h,rfl⟩)
        have HB2:Hid (∀ j,bk B2 = some j → bk A = some j ∨ w.heap.size ≤ j):=by
          show ∀ _,_
          intro k hk
          rcases hb2 with h | h
          · exact HB.out k (h ▸ hk)
          · rw [h] at hk
            injection hk with hk
            have:=HF.out.size
            simp at hk
            exact .inr (by omega)
        clear hr2 hg2 hb2))
      go_roundw
      case rel => exact ⟨j + 1,B2,d2,m + 1,by go_num,by simp,by omega,by omega,HR2.out,by show _ = _; have:=HM.out; omega,HF2.out,HB2.out⟩
      case measure => simp [intOf]; omega
    · obtain rfl:j = t:=by omega
      have HE:Hid (PlAns w A (l ++ List.range' f (j - f)) (.returned (.slice B m d)) wr):=⟨B,m,d,rfl,by rw [List.length_append,List.length_range',HM.out,HL.out],HR.out,HF.out,HB.out⟩
      go_wp2_with fail
      go_ret
      exact HE.out
end Go.Proofs.YteohomdiklkbfaaGreat
namespace Go.Proofs.YteohomdiklkbfaaGreat
open Go.RowKit Go.Proofs.Dm

abbrev TDf:TypeId:=193
abbrev TI:TypeId:=3
def DFAns (w:World) (s:List UInt8) (a:Nat) (e:Ending) (w':World):Prop :=
  ∃ (B:Option Addr) (m d:Nat),e = .returned (.agg #[.int .i64 (a:Nat),.int .i64 ((fieldP s a).n:Nat),.int .i64 ((fieldP s a).kind:Nat),.slice B m d]) ∧ m = (fieldP s a).places.length ∧ ORow w' TI 1 B d m (nats (fieldP s a).places) ∧ Fr [] w w' ∧ ∀ j,bk B = some j → w.heap.size ≤ j
structure DF (W1 w:World) (F L x y k:Nat) (B:Option Addr) (d m:Nat) (l:List Nat):Prop where
  fb:Blk w F TDf #[.int .i64 (x:Nat),.int .i64 (y:Nat),.int .i64 (k:Nat),.slice B m d]
  lb:Blk w L TDf #[.int .i64 0,.int .i64 0,.int .i64 0,.slice none 0 0]
  own:ORow w TI 1 B d m (nats l)
  ln:m = l.length
  fr:Fr [some F] W1 w
  fl:F < W1.heap.size
  ll:L < W1.heap.size
  ne:F ≠ L
  bn:∀ j,bk B = some j → W1.heap.size ≤ j
section
variable {W1 w w':World} {F L x y k d m:Nat} {B:Option Addr} {l:List Nat}
theorem DF.fr0 (h:DF W1 w F L x y k B d m l) (hf:Fr [] w w'):DF W1 w' F L x y k B d m l :=
  ⟨h.fb.fr hf (by simp),h.lb.fr hf (by simp),ORow.fr h.own hf (.inr List.not_mem_nil),h.ln,h.fr.trans hf.of_nil,h.fl,h.ll,h.ne,h.bn⟩
theorem DF.bF (h:DF W1 w F L x y k B d m l):bk B = none ∨ bk B ∉ [some F]:=by
  cases hb:bk B with
  | none => exact .inl rfl
  | some j => exact .inr fun e => by rw [List.mem_singleton] at e; injection e with e; have:=h.bn j hb; have:=h.fl; omega
theorem DF.raw (h:DF W1 w F L x y k B d m l) (x' y':Nat):DF W1 ((w.setCell ⟨F,0,none⟩ (.int .i64 (x':Nat))).setCell ⟨F,1,none⟩ (.int .i64 (y':Nat))) F L x' y' k B d m l:=by
  have hf:Fr [some F] w ((w.setCell ⟨F,0,none⟩ (.int .i64 (x':Nat))).setCell ⟨F,1,none⟩ (.int .i64 (y':Nat))):=((Fr.refl _ w).setB (by simp) 0 _).setB (by simp) 1 _
  exact ⟨(h.fb.set_ 0 _).set_ 1 _,h.lb.fr hf (fun e => by rw [List.mem_singleton] at e; injection e with e; exact h.ne e.symm),ORow.fr h.own hf h.bF,h.ln,h.fr.trans hf,h.fl,h.ll,h.ne,h.bn⟩
theorem DF.kind (h:DF W1 w F L x y k B d m l) (k':Nat):DF W1 (w.setCell ⟨F,2,none⟩ (.int .i64 (k':Nat))) F L x y k' B d m l:=by
  have hf:Fr [some F] w (w.setCell ⟨F,2,none⟩ (.int .i64 (k':Nat))):=(Fr.refl _ w).setB (by simp) 2 _
  exact ⟨h.fb.set_ 2 _,h.lb.fr hf (fun e => by rw [List.mem_singleton] at e; injection e with e; exact h.ne e.symm),ORow.fr h.own hf h.bF,h.ln,h.fr.trans hf,h.fl,h.ll,h.ne,h.bn⟩
theorem DF.row {B':Option Addr} {d' m':Nat} {l':List Nat} (h:DF W1 w F L x y k B d m l) (ho:ORow w' TI 1 B' d' m' (nats l')) (hm:m' = l'.length) (hf:Fr [bk B] w w') (hb:∀ j,bk B' = some j → bk B = some j ∨ w.heap.size ≤ j) :
    DF W1 (w'.setCell ⟨F,3,none⟩ (.slice B' m' d')) F L x y k B' d' m' l' ∧ Blk w' F TDf #[.int .i64 (x:Nat),.int .i64 (y:Nat),.int .i64 (k:Nat),.slice B m d]:=by
  have hs:=h.fr.size
  have hn:∀ b,b < W1.heap.size → some b ∉ [bk B]:=fun b hb e => by
    rw [List.mem_singleton] at e
    have:=h.bn b e.symm
    omega
  have hfb:=h.fb.fr hf (hn F h.fl)
  have hlb:=h.lb.fr hf (hn L h.ll)
  have hset:Fr [some F] w' (w'.setCell ⟨F,3,none⟩ (.slice B' m' d')):=(Fr.refl _ w').setB (by simp) 3 _
  have hbn:∀ j,bk B' = some j → W1.heap.size ≤ j:=fun j hj => by
    rcases hb j hj with h1 | h1
    · exact h.bn j h1
    · omega
  refine ⟨⟨hfb.set_ 3 _,hlb.fr hset (fun e => by rw [List.mem_singleton] at e; injection e with e; exact h.ne e.symm),ORow.fr ho hset ?_,hm,?_,h.fl,h.ll,h.ne,hbn⟩,hfb⟩
  · cases hB:bk B' with
    | none => exact .inl rfl
    | some j => exact .inr fun e => by rw [List.mem_singleton] at e; injection e with e; have:=hbn j hB; have:=h.fl; omega
  · refine (h.fr.seq hf fun z hz => ?_).trans hset
    rw [List.mem_singleton] at hz
    subst hz
    cases hB:bk B with
    | none => exact .inr (.inl rfl)
    | some j => exact .inr (.inr ⟨j,h.bn j hB,rfl⟩)
theorem DF.fin {w0 w'':World} {s:List UInt8} {a:Nat} (h:DF W1 w F L x y k B d m l) (h0:Fr [] w0 W1) (hF:w0.heap.size ≤ F) (hL:w0.heap.size ≤ L) (hw:Fr [some L] w w'') (hp:fieldP s a = ⟨a,y,k,l⟩) (hx:x = a) :
    DFAns w0 s a (.returned (.agg #[.int .i64 (x:Nat),.int .i64 (y:Nat),.int .i64 (k:Nat),.slice B m d])) w'':=by
  subst hx
  have hs:=h0.size
  refine ⟨B,m,d,by rw [hp],by rw [hp]; exact h.ln,?_,?_,fun j hj => by have:=h.bn j hj; omega⟩
  · rw [hp]
    refine ORow.fr h.own hw ?_
    cases hB:bk B with
    | none => exact .inl rfl
    | some j => exact .inr fun e => by rw [List.mem_singleton] at e; injection e with e; have:=h.bn j hB; have:=h.ll; omega
  · refine (h0.seq h.fr fun z hz => ?_).seq hw fun z hz => ?_
    · rw [List.mem_singleton] at hz; exact .inr (.inr ⟨F,hF,hz⟩)
    · rw [List.mem_singleton] at hz; exact .inr (.inr ⟨L,hL,hz⟩)
theorem DF.start (w:World):DF ((w.alloc (.cells #[.int .i64 0,.int .i64 0,.int .i64 0,.slice none 0 0] TDf)).alloc (.cells #[.int .i64 0,.int .i64 0,.int .i64 0,.slice none 0 0] TDf)) ((w.alloc (.cells #[.int .i64 0,.int .i64 0,.int .i64 0,.slice none 0 0] TDf)).alloc (.cells #[.int .i64 0,.int .i64 0,.int .i64 0,.slice none 0 0] TDf)) (w.heap.size + 1) w.heap.size 0 0 0 none 0 0 []:=by
  have b1:=Blk.new (w.alloc (.cells #[.int .i64 0,.int .i64 0,.int .i64 0,.slice none 0 0] TDf)) TDf #[.int .i64 0,.int .i64 0,.int .i64 0,.slice none 0 0]
  rw [show (w.alloc (.cells #[.int .i64 0,.int .i64 0,.int .i64 0,.slice none 0 0] TDf)).heap.size = w.heap.size + 1 by simp] at b1
  exact ⟨b1,(Blk.new w TDf _).alloc _,ORow.nil_ _ _ _,rfl,Fr.refl _ _,by simp,by simp; omega,by omega,fun j hj => by cases hj⟩
end
set_option maxRecDepth 100000 in
set_option maxHeartbeats 1600000 in
theorem dfield_bare (s:List UInt8) (a:Nat) (w:World) (ha:a ≤ s.length) (hn:s.length ≤ 1000000) (hq:isB s a 34 = false) :
    Calls Tryz.prog 124 #[.string ⟨s.toArray⟩,.int .i64 (a:Nat)] w (DFAns w s a):=by
  obtain ⟨kk,hkk⟩:∃ kk,kk = tillP (s.drop a):=⟨_,rfl⟩
  obtain ⟨T,hT⟩:∃ T,T = a + kk:=⟨_,rfl⟩
  have hTl:T ≤ s.length:=by have:=tillP_bd s a ha; omega
  have HQ:Hid (∀ w',Calls Tryz.prog 136 #[.string ⟨s.toArray⟩,.int .i64 (a:Nat)] w' fun e w'' => e = .returned (.bool false) ∧ w' = w''):=by
    show ∀ _,_
    intro w'
    have:=dquote_any s a w'
    rwa [hq] at this
  have HTI:Hid (∀ w',Calls Tryz.prog 137 #[.string ⟨s.toArray⟩,.int .i64 (a:Nat)] w' fun e w'' => e = .returned (.int .i64 (T:Nat)) ∧ w' = w''):=by
    show ∀ _,_
    intro w'
    have:=dtill_any s a w' ha hn
    rwa [← hkk,← hT] at this
  have HPL:Hid (∀ w',Calls Tryz.prog 138 #[.slice none 0 0,.int .i64 (a:Nat),.int .i64 (T:Nat)] w' (PlAns w' none (List.range' a kk))):=by
    show ∀ _,_
    intro w'
    have:=dplaces_any none 0 0 a T [] w' (ORow.nil_ _ _ _) rfl (by omega) (by omega) (by omega)
    rw [List.nil_append,show T - a = kk by omega] at this
    exact this
  have HFP:Hid (∀ v,v = (if (34:UInt8) ∈ (s.drop a).take kk then 2 else 0) → fieldP s a = ⟨a,kk,v,List.range' a kk⟩):=by
    show ∀ _,_
    intro v hv
    unfold fieldP
    rw [if_neg (by rw [← isB_iff,hq]; simp),← hkk,hv]
  have HST:=Lib.hid (DF.start w)
  have H0:Hid (Fr [] w ((w.alloc (.cells #[.int .i64 0,.int .i64 0,.int .i64 0,.slice none 0 0] TDf)).alloc (.cells #[.int .i64 0,.int .i64 0,.int .i64 0,.slice none 0 0] TDf))):=((Fr.refl [] w).alloc _).alloc _
  have t1:(T:Int) - (a:Int) = (kk:Int):=by omega
  have t2:(T:Int) ≤ 1000000:=by omega
  have t3:(a:Int) ≤ 1000000:=by omega
  have HTT:Hid (T = a + kk ∧ T ≤ s.length):=⟨hT,hTl⟩
  clear ha hn hq hT hTl hkk
  go_enter Tryz.func124,Tryz.ntmps124
  go_wp2_with fail
  obtain ⟨W1,hW1⟩:∃ W1,W1 = (w.alloc (.cells #[.int .i64 0,.int .i64 0,.int .i64 0,.slice none 0 0] TDf)).alloc (.cells #[.int .i64 0,.int .i64 0,.int .i64 0,.slice none 0 0] TDf):=⟨_,rfl⟩
  rw [← hW1] at HST H0 ⊢
  obtain ⟨F,hF⟩:∃ F,F = w.heap.size + 1:=⟨_,rfl⟩
  obtain ⟨L,hL⟩:∃ L,L = w.heap.size:=⟨_,rfl⟩
  rw [← hF] at HST ⊢
  rw [← hL] at HST ⊢
  have HFL:Hid (w.heap.size ≤ F ∧ w.heap.size ≤ L):=⟨by omega,by omega⟩
  clear hW1 hF hL
  refine (HQ.out _).mono ?_
  rintro e w2 ⟨rfl,rfl⟩
  go_wp2_with fail
  refine (HTI.out _).mono ?_
  rintro e w2 ⟨rfl,rfl⟩
  have f0:W1.cell? ⟨F,0,none⟩ = some (.int .i64 (0:Nat)):=HST.out.fb.cell 0
  have f1:W1.cell? ⟨F,1,none⟩ = some (.int .i64 (0:Nat)):=HST.out.fb.cell 1
  have z0:=HST.out.fb.frozen 0
  have z1:=HST.out.fb.frozen 1
  have lf:=HST.out.fb.lt
  have HR:=Lib.hid (HST.out.raw a kk)
  go_wp2_with fail
  obtain ⟨W2,hW2⟩:∃ W2,W2 = (W1.setCell ⟨F,0,none⟩ (.int .i64 (a:Nat))).setCell ⟨F,1,none⟩ (.int .i64 (kk:Nat)):=⟨_,rfl⟩
  rw [← hW2] at HR ⊢
  clear hW2 f0 f1 z0 z1 lf HST
  refine (HPL.out _).mono ?_
  rintro e w3 ⟨B,m,d,rfl,hm,ho,hf,hb⟩
  have hrow:=HR.out.row ho hm hf hb
  have HR3:=Lib.hid hrow.1
  have f3:w3.cell? ⟨F,3,none⟩ = some (.slice none 0 0):=hrow.2.cell 3
  have z3:=hrow.2.frozen 3
  have lf:=hrow.2.lt
  clear hm ho hf hb hrow
  go_wp2_with fail
  obtain ⟨W4,hW4⟩:∃ W4,W4 = w3.setCell ⟨F,3,none⟩ (.slice B m d):=⟨_,rfl⟩
  rw [← hW4] at HR3 ⊢
  clear hW4 f3 z3 lf HR
  go_loopw [7] (fun iv wr => ∃ j v:Nat,iv = .int .i64 j ∧ a ≤ j ∧ j ≤ T ∧ Hid (v = if (34:UInt8) ∈ (s.drop a).take (j - a) then 2 else 0) ∧ Hid (DF W1 wr F L a kk v B d m (List.range' a kk))) (fun iv _ => T - (intOf iv).toNat)
  case atStart => exact ⟨a,0,rfl,Nat.le_refl _,by have:=HTT.out; omega,by show _ = _; simp,HR3.out⟩
  case round =>
    clear HR3
    obtain ⟨j,v,rfl,ha,hj,HV,HD⟩:=hrel
    by_cases hlt:j < T
    · have hqu:=dquote_any s j wr
      have HS:Hid ((if (34:UInt8) ∈ (s.drop a).take (j + 1 - a) then 2 else 0) = if isB s j 34 = true then 2 else v):=by
        have h1:=mem_more s a (j - a) (by have:=HTT.out; omega)
        rw [show a + (j - a) = j by omega,show j - a + 1 = j + 1 - a by omega] at h1
        show _ = _
        rw [HV.out]
        by_cases h2:isB s j 34 = true
        · rw [h2,Bool.or_true] at h1
          rw [if_pos (of_decide_eq_true h1),if_pos h2]
        · rw [Bool.not_eq_true] at h2
          rw [h2,Bool.or_false] at h1
          rw [h2]
          have h3:((34:UInt8) ∈ (s.drop a).take (j + 1 - a)) ↔ (34:UInt8) ∈ (s.drop a).take (j - a):=by
            have:=decide_eq_decide.1 h1
            exact this
          simp [h3]
      cases hb:isB s j 34 with
      | false =>
        rw [hb] at hqu
        have HQU:=Lib.hid hqu
        have hs2:=HS.out
        rw [hb] at hs2
        simp only [Bool.false_eq_true,if_false] at hs2
        have HS2:=Lib.hid hs2
        clear hs2
        clear hqu hb HS
        go_wp2_with fail
        refine HQU.out.mono ?_
        rintro e w2 ⟨rfl,rfl⟩
        go_wp2_with fail
        go_roundw
        case rel => exact ⟨j + 1,v,by go_num,by omega,by omega,HS2.out.symm,HD.out⟩
        case measure => simp [intOf]; omega
      | true =>
        rw [hb] at hqu
        have HQU:=Lib.hid hqu
        have hs2:=HS.out
        rw [hb] at hs2
        simp only [eq_self_iff_true,if_true] at hs2
        have HS2:=Lib.hid hs2
        clear hs2
        have f2:wr.cell? ⟨F,2,none⟩ = some (.int .i64 (v:Nat)):=HD.out.fb.cell 2
        have z2:=HD.out.fb.frozen 2
        have lf:=HD.out.fb.lt
        clear hqu hb HS
        go_wp2_with fail
        refine HQU.out.mono ?_
        rintro e w2 ⟨rfl,rfl⟩
        go_wp2_with fail
        go_roundw
        case rel => exact ⟨j + 1,2,by go_num,by omega,by omega,HS2.out.symm,HD.out.kind 2⟩
        case measure => simp [intOf]; omega
    · obtain rfl:j = T:=by omega
      have f0:wr.cell? ⟨F,0,none⟩ = some (.int .i64 (a:Nat)):=HD.out.fb.cell 0
      have f1:wr.cell? ⟨F,1,none⟩ = some (.int .i64 (kk:Nat)):=HD.out.fb.cell 1
      have f2:wr.cell? ⟨F,2,none⟩ = some (.int .i64 (v:Nat)):=HD.out.fb.cell 2
      have f3:wr.cell? ⟨F,3,none⟩ = some (.slice B m d):=HD.out.fb.cell 3
      have l0:wr.cell? ⟨L,0,none⟩ = some (.int .i64 0):=HD.out.lb.cell 0
      have l1:wr.cell? ⟨L,1,none⟩ = some (.int .i64 0):=HD.out.lb.cell 1
      have l2:wr.cell? ⟨L,2,none⟩ = some (.int .i64 0):=HD.out.lb.cell 2
      have l3:wr.cell? ⟨L,3,none⟩ = some (.slice none 0 0):=HD.out.lb.cell 3
      have z0:=HD.out.lb.frozen 0
      have z1:=HD.out.lb.frozen 1
      have z2:=HD.out.lb.frozen 2
      have z3:=HD.out.lb.frozen 3
      have ll:=HD.out.lb.lt
      have HEND:Hid (∀ w'',Fr [some L] wr w'' → DFAns w s a (.returned (.agg #[.int .i64 (a:Nat),.int .i64 (kk:Nat),.int .i64 (v:Nat),.slice B m d])) w''):=by
        show ∀ _,_
        intro w'' hf
        refine HD.out.fin H0.out HFL.out.1 HFL.out.2 hf (HFP.out v ?_) rfl
        rw [HV.out,show j - a = kk by have:=HTT.out; omega]
      go_wp2_with fail
      refine bodyPost_ret (v:=.agg #[.int .i64 (a:Nat),.int .i64 (kk:Nat),.int .i64 (v:Nat),.slice B m d]) (by simp [results,Tryz.results124,go_sem, *]) rfl ?_
      exact HEND.out _ (((((Fr.refl [some L] wr).setB (fun _ => by simp) _ _).setB (fun _ => by simp) _ _).setB (fun _ => by simp) _ _).setB (fun _ => by simp) _ _)
end Go.Proofs.YteohomdiklkbfaaGreat
namespace Go.Proofs.YteohomdiklkbfaaGreat
open Go.RowKit Go.Proofs.Dm

def DQ (W1 w:World) (F L:Nat) (s:List UInt8) (a j:Nat) (B:Option Addr) (d m:Nat) (l:List Nat):Prop :=
  DF W1 w F L 0 0 0 B d m l ∧ a < j ∧ j ≤ s.length ∧ m ≤ j ∧ (l ++ (quoP (s.drop j) j).1,(quoP (s.drop j) j).2) = quoP (s.drop (a + 1)) (a + 1)
section
variable {W1 w w':World} {F L a j d m:Nat} {B:Option Addr} {l:List Nat} {s:List UInt8}
theorem DQ.fr0 (h:DQ W1 w F L s a j B d m l) (hf:Fr [] w w'):DQ W1 w' F L s a j B d m l:=⟨h.1.fr0 hf,h.2⟩
theorem DQ.next {wa w5:World} {B2:Option Addr} {d2 q:Nat} (h:DQ W1 w F L s a j B d m l) (hfa:Fr [] w wa) (hq:j < q) (hqs:q ≤ s.length) (hQ:quoP (s.drop j) j = (j :: (quoP (s.drop q) q).1,(quoP (s.drop q) q).2))
    (hr:ORow w5 TI 1 B2 d2 (m + 1) (nats l ++ [.int .i64 (j:Nat)])) (hg:Fr [bk B] wa w5) (hb:bk B2 = bk B ∨ bk B2 = some wa.heap.size) :
    DQ W1 (w5.setCell ⟨F,3,none⟩ (.slice B2 (m + 1) d2)) F L s a q B2 d2 (m + 1) (l ++ [j]) ∧ Blk w5 F TDf #[.int .i64 (0:Nat),.int .i64 (0:Nat),.int .i64 (0:Nat),.slice B m d]:=by
  have hn:nats (l ++ [j]) = nats l ++ [.int .i64 (j:Nat)]:=by simp [nats]
  have hrow:=(h.1.fr0 hfa).row (B':=B2) (d':=d2) (m':=m + 1) (l':=l ++ [j]) (w':=w5) (by rw [hn]; exact hr) (by rw [List.length_append,h.1.ln]; rfl) hg (fun k hk => by
    rcases hb with h | h
    · exact .inl (h ▸ hk)
    · rw [h] at hk; injection hk with hk; exact .inr (by omega))
  refine ⟨⟨hrow.1,by have:=h.2.1; omega,hqs,by have:=h.2.2.2.1; omega,?_⟩,hrow.2⟩
  rw [← h.2.2.2.2,hQ]
  simp
end
set_option maxRecDepth 100000 in
set_option maxHeartbeats 1600000 in
theorem dfield_quoted (s:List UInt8) (a:Nat) (w:World) (ha:a ≤ s.length) (hn:s.length ≤ 1000000) (hq:isB s a 34 = true) :
    Calls Tryz.prog 124 #[.string ⟨s.toArray⟩,.int .i64 (a:Nat)] w (DFAns w s a):=by
  have hq34:=isB_iff.1 hq
  have hal:a < s.length:=by
    rcases Nat.lt_or_ge a s.length with h | h
    · exact h
    · rw [List.getElem?_eq_none h] at hq34; cases hq34
  have HQ:Hid (∀ j w',Calls Tryz.prog 136 #[.string ⟨s.toArray⟩,.int .i64 (j:Nat)] w' fun e w'' => e = .returned (.bool (isB s j 34)) ∧ w' = w''):=fun j w' => dquote_any s j w'
  have HQ0:Hid (∀ w',Calls Tryz.prog 136 #[.string ⟨s.toArray⟩,.int .i64 (a:Nat)] w' fun e w'' => e = .returned (.bool true) ∧ w' = w''):=by
    show ∀ _,_
    intro w'
    have:=dquote_any s a w'
    rwa [hq] at this
  have HN:=Lib.hid hn
  have HAL:Hid (a < s.length ∧ s[a]? = some 34):=⟨hal,hq34⟩
  have HST:=Lib.hid (DF.start w)
  have H0:Hid (Fr [] w ((w.alloc (.cells #[.int .i64 0,.int .i64 0,.int .i64 0,.slice none 0 0] TDf)).alloc (.cells #[.int .i64 0,.int .i64 0,.int .i64 0,.slice none 0 0] TDf))):=((Fr.refl [] w).alloc _).alloc _
  obtain ⟨b,hb⟩:∃ b,b = a + 1:=⟨_,rfl⟩
  have b1:(a:Int) + 1 = (b:Int):=by omega
  have b2:(b:Int) ≤ 1000001:=by omega
  have a2:(a:Int) ≤ 1000000:=by omega
  have n2:(s.length:Int) ≤ 1000000:=by omega
  have HB:=Lib.hid hb
  clear ha hn hq hq34 hal hb
  go_enter Tryz.func124,Tryz.ntmps124
  go_wp2_with fail
  obtain ⟨W1,hW1⟩:∃ W1,W1 = (w.alloc (.cells #[.int .i64 0,.int .i64 0,.int .i64 0,.slice none 0 0] TDf)).alloc (.cells #[.int .i64 0,.int .i64 0,.int .i64 0,.slice none 0 0] TDf):=⟨_,rfl⟩
  rw [← hW1] at HST H0 ⊢
  obtain ⟨F,hF⟩:∃ F,F = w.heap.size + 1:=⟨_,rfl⟩
  obtain ⟨L,hL⟩:∃ L,L = w.heap.size:=⟨_,rfl⟩
  rw [← hF] at HST ⊢
  rw [← hL] at HST ⊢
  have HFL:Hid (w.heap.size ≤ F ∧ w.heap.size ≤ L):=⟨by omega,by omega⟩
  clear hW1 hF hL
  refine (HQ0.out _).mono ?_
  rintro e w2 ⟨rfl,rfl⟩
  go_wp2_with fail
  go_loopg [8] (s.length - a) (fun k av wr => ∃ (k' j m d:Nat) (B:Option Addr) (l:List Nat),k' = k ∧ av = .int .i64 j ∧ Hid (DQ W1 wr F L s a j B d m l) ∧ Hid (s.length ≤ j + k'))
  case atStart => exact ⟨_,b,0,0,none,[],rfl,rfl,⟨HST.out,by rw [HB.out]; omega,by rw [HB.out]; exact HAL.out.1,Nat.zero_le _,by rw [HB.out]; simp⟩,by show _ ≤ _; have:=HB.out; omega⟩
  case round =>
    clear HST
    obtain ⟨k',j,m,d,B,l,hkk',rfl,HD,HJK⟩:=hrel
    rcases Nat.lt_or_ge j s.length with hlt | hge
    · have j1:(j:Int) < (s.length:Int):=by omega
      obtain ⟨q,hq⟩:∃ q,q = j + 1:=⟨_,rfl⟩
      have q1:(j:Int) + 1 = (q:Int):=by omega
      have q2:(q:Int) ≤ 1000001:=by omega
      have HLT:Hid (j < s.length ∧ q = j + 1):=⟨hlt,hq⟩
      have HM9:Hid (m ≤ 1000000):=by show _ ≤ _; have:=HD.out.2.2.2.1; have:=HN.out; omega
      have h1:=HQ.out q wr
      cases hb0:isB s j 34 with
      | false =>
        have HQJ:Hid (∀ w',Calls Tryz.prog 136 #[.string ⟨s.toArray⟩,.int .i64 (j:Nat)] w' fun e w'' => e = .returned (.bool false) ∧ w' = w''):=by
          show ∀ _,_
          intro w'
          have:=HQ.out j w'
          rwa [hb0] at this
        have HNX:Hid (quoP (s.drop j) j = (j :: (quoP (s.drop q) q).1,(quoP (s.drop q) q).2)):=by
          show _ = _
          rw [hq]
          exact quoP_more s j hlt (by rw [isB_lt hlt] at hb0; simpa using hb0)
        have HQL:Hid (q ≤ s.length):=by show _ ≤ _; omega
        clear h1 hb0 hlt hq
        go_wp2_with fail
        refine (HQJ.out _).mono ?_
        rintro e w2 ⟨rfl,rfl⟩
        have f3:wr.cell? ⟨F,3,none⟩ = some (.slice B m d):=HD.out.1.fb.cell 3
        have lf:=HD.out.1.fb.lt
        go_wp2_with (at_builtin; go_must (
          refine wpList_app _ rfl _ _ 55 3 rfl (.int .i64 0) 1 8 Tryz.underlying55 infoI rfl (by decide) B d m (nats l) rfl (ORow.fr HD.out.1.own ((Fr.refl [] wr).alloc _) (.inr List.not_mem_nil)) _ 1 1 [.int .i64 (j:Nat)] rfl rfl (sl_new wr _ 3) (by simp [Value.oneCell']) (by have:=HM9.out; simp only [maxLen]; omega) (by have:=HM9.out; omega) ?_
          intro B2 d2 w2 hr2 hg2 hb2
          have hx:=HD.out.next ((Fr.refl [] wr).alloc _) (q:=q) (by have:=HLT.out; omega) (by have:=HQL.out; omega) HNX.out hr2 hg2 hb2
          have HX:=Lib.hid hx.1
          have g3:w2.cell? ⟨F,3,none⟩ = some (.slice B m d):=hx.2.cell 3
          have z3:=hx.2.frozen 3
          have lg:=hx.2.lt
          clear hr2 hg2 hb2 hx))
        obtain ⟨W3,hW3⟩:∃ W3,W3 = w2.setCell ⟨F,3,none⟩ (.slice B2 (m + 1) d2):=⟨_,rfl⟩
        rw [← hW3] at HX ⊢
        clear hW3 g3 z3 lg f3 lf
        refine (HQJ.out _).mono ?_
        rintro e w4 ⟨rfl,rfl⟩
        go_wp2_with fail
        go_roundg (k' - 1)
        case rel => exact ⟨_,q,m + 1,d2,B2,l ++ [j],rfl,by go_num,HX.out,by have:=HJK.out; have:=HLT.out; have:=HQL.out; show _ ≤ _; omega⟩
        case measure => have:=HJK.out; have:=HLT.out; omega
      | true =>
        have HQJ:Hid (∀ w',Calls Tryz.prog 136 #[.string ⟨s.toArray⟩,.int .i64 (j:Nat)] w' fun e w'' => e = .returned (.bool true) ∧ w' = w''):=by
          show ∀ _,_
          intro w'
          have:=HQ.out j w'
          rwa [hb0] at this
        cases hb1:isB s q 34 with
        | true =>
          rw [hb1] at h1
          have HQ1:=Lib.hid h1
          have hql:q < s.length:=by
            rcases Nat.lt_or_ge q s.length with h | h
            · exact h
            · rw [isB_ge h] at hb1; cases hb1
          obtain ⟨p,hp⟩:∃ p,p = q + 1:=⟨_,rfl⟩
          have p1:(q:Int) + 1 = (p:Int):=by omega
          have HNX:Hid (quoP (s.drop j) j = (j :: (quoP (s.drop p) p).1,(quoP (s.drop p) p).2)):=by
            show _ = _
            rw [isB_lt hlt] at hb0
            rw [isB_lt hql] at hb1
            subst hp hq
            exact quoP_dbl s j hql (by simpa using hb0) (by simpa using hb1)
          have HQL:Hid (p ≤ s.length ∧ p = q + 1):=⟨by omega,hp⟩
          clear h1 hb0 hb1 hlt hq hql hp
          go_wp2_with fail
          refine (HQJ.out _).mono ?_
          rintro e w2 ⟨rfl,rfl⟩
          go_wp2_with fail
          refine HQ1.out.mono ?_
          rintro e w2 ⟨rfl,rfl⟩
          have f3:wr.cell? ⟨F,3,none⟩ = some (.slice B m d):=HD.out.1.fb.cell 3
          have lf:=HD.out.1.fb.lt
          go_wp2_with (at_builtin; go_must (
            refine wpList_app _ rfl _ _ 55 3 rfl (.int .i64 0) 1 8 Tryz.underlying55 infoI rfl (by decide) B d m (nats l) rfl (ORow.fr HD.out.1.own ((Fr.refl [] wr).alloc _) (.inr List.not_mem_nil)) _ 1 1 [.int .i64 (j:Nat)] rfl rfl (sl_new wr _ 3) (by simp [Value.oneCell']) (by have:=HM9.out; simp only [maxLen]; omega) (by have:=HM9.out; omega) ?_
            intro B2 d2 w2 hr2 hg2 hb2
            have hx:=HD.out.next ((Fr.refl [] wr).alloc _) (q:=p) (by have:=HLT.out; omega) (by have:=HQL.out; omega) HNX.out hr2 hg2 hb2
            have HX:=Lib.hid hx.1
            have g3:w2.cell? ⟨F,3,none⟩ = some (.slice B m d):=hx.2.cell 3
            have z3:=hx.2.frozen 3
            have lg:=hx.2.lt
            clear hr2 hg2 hb2 hx))
          obtain ⟨W3,hW3⟩:∃ W3,W3 = w2.setCell ⟨F,3,none⟩ (.slice B2 (m + 1) d2):=⟨_,rfl⟩
          rw [← hW3] at HX ⊢
          clear hW3 g3 z3 lg f3 lf
          refine (HQJ.out _).mono ?_
          rintro e w4 ⟨rfl,rfl⟩
          go_wp2_with fail
          go_roundg (k' - 1)
          case rel => exact ⟨_,p,m + 1,d2,B2,l ++ [j],rfl,by go_num,HX.out,by have:=HJK.out; have:=HLT.out; have:=HQL.out; show _ ≤ _; omega⟩
          case measure => have:=HJK.out; have:=HLT.out; omega
        | false =>
          rw [hb1] at h1
          have HQ1:=Lib.hid h1
          have hjn:¬ (s.length:Int) ≤ (j:Int):=by omega
          obtain ⟨kk,hkk⟩:∃ kk,kk = tillP (s.drop q):=⟨_,rfl⟩
          obtain ⟨T,hT⟩:∃ T,T = q + kk:=⟨_,rfl⟩
          have hTl:T ≤ s.length:=by have:=tillP_bd s q (by omega); omega
          have HTI:Hid (∀ w',Calls Tryz.prog 137 #[.string ⟨s.toArray⟩,.int .i64 (q:Nat)] w' fun e w'' => e = .returned (.int .i64 (T:Nat)) ∧ w' = w''):=by
            show ∀ _,_
            intro w'
            have:=dtill_any s q w' (by omega) HN.out
            rwa [← hkk,← hT] at this
          obtain ⟨y,hy⟩:∃ y,y = T - a:=⟨_,rfl⟩
          have haj:=HD.out.2.1
          have y9:(T:Int) - (a:Int) = (y:Int):=by omega
          have T2:(T:Int) ≤ 1000000:=by omega
          have HFP:Hid (∀ v,v = (if 0 < kk then 3 else 1) → fieldP s a = ⟨a,y,v,l ++ List.range' q kk⟩):=by
            show ∀ _,_
            intro v hv
            have hQ:=HD.out.2.2.2.2
            rw [quoP_stop s j hlt (by rw [isB_lt hlt] at hb0; simpa using hb0) (by rw [← hq]; exact hb1)] at hQ
            unfold fieldP
            rw [if_pos HAL.out.2,← hQ]
            simp only [if_true,List.append_nil,← hq,← hkk]
            rw [hv,show q + kk - a = y by omega]
          have HPL:Hid (∀ w' B d m,ORow w' TI 1 B d m (nats l) → m = l.length → m ≤ 1000000 → Calls Tryz.prog 138 #[.slice B m d,.int .i64 (q:Nat),.int .i64 (T:Nat)] w' (PlAns w' B (l ++ List.range' q kk))):=by
            show ∀ _,_
            intro w' B d m h1 h2 h3
            have:=dplaces_any B d m q T l w' h1 h2 (by omega) (by omega) h3
            rwa [show T - q = kk by omega] at this
          have HTT:Hid (T = q + kk):=hT
          have f0:wr.cell? ⟨F,0,none⟩ = some (.int .i64 (0:Nat)):=HD.out.1.fb.cell 0
          have f1:wr.cell? ⟨F,1,none⟩ = some (.int .i64 (0:Nat)):=HD.out.1.fb.cell 1
          have f2:wr.cell? ⟨F,2,none⟩ = some (.int .i64 (0:Nat)):=HD.out.1.fb.cell 2
          have f3:wr.cell? ⟨F,3,none⟩ = some (.slice B m d):=HD.out.1.fb.cell 3
          have z0:=HD.out.1.fb.frozen 0
          have z1:=HD.out.1.fb.frozen 1
          have z2:=HD.out.1.fb.frozen 2
          have z3:=HD.out.1.fb.frozen 3
          have lf:=HD.out.1.fb.lt
          have hne:¬ F = L:=HD.out.1.ne
          have hne2:¬ L = F:=fun e => hne e.symm
          by_cases hk0:0 < kk
          · have c1:(q:Int) < (T:Int):=by omega
            have HV:Hid (3 = if 0 < kk then 3 else 1):=by show _ = _; rw [if_pos hk0]
            have HK:Hid (DF W1 ((wr.setCell ⟨F,2,none⟩ (.int .i64 1)).setCell ⟨F,2,none⟩ (.int .i64 3)) F L 0 0 3 B d m l):=(HD.out.1.kind 1).kind 3
            clear h1 hb0 hb1 hlt hq hkk hT hTl hy haj hk0
            go_wp2_with fail
            refine (HQJ.out _).mono ?_
            rintro e w2 ⟨rfl,rfl⟩
            go_wp2_with fail
            refine HQ1.out.mono ?_
            rintro e w2 ⟨rfl,rfl⟩
            go_wp2_with fail
            refine (HTI.out _).mono ?_
            rintro e w2 ⟨rfl,rfl⟩
            go_wp2_with fail
            obtain ⟨W3,hW3⟩:∃ W3,W3 = (wr.setCell ⟨F,2,none⟩ (.int .i64 1)).setCell ⟨F,2,none⟩ (.int .i64 3):=⟨_,rfl⟩
            rw [← hW3] at HK ⊢
            clear hW3 f0 f1 f2 f3 z0 z1 z2 z3 lf
            refine (HPL.out _ B d m HK.out.own HK.out.ln HM9.out).mono ?_
            rintro e w4 ⟨B4,m4,d4,rfl,hm4,ho4,hf4,hb4⟩
            have hrow:=HK.out.row ho4 hm4 hf4 hb4
            have HL4:Hid (Blk w4 L TDf #[.int .i64 0,.int .i64 0,.int .i64 0,.slice none 0 0]):=HK.out.lb.fr hf4 (fun e => by rw [List.mem_singleton] at e; have:=HK.out.bn L e.symm; have:=HK.out.ll; omega)
            have HR4:=Lib.hid hrow.1
            have g3:w4.cell? ⟨F,3,none⟩ = some (.slice B m d):=hrow.2.cell 3
            have g0:w4.cell? ⟨F,0,none⟩ = some (.int .i64 (0:Nat)):=hrow.2.cell 0
            have g1:w4.cell? ⟨F,1,none⟩ = some (.int .i64 (0:Nat)):=hrow.2.cell 1
            have g2:w4.cell? ⟨F,2,none⟩ = some (.int .i64 3):=hrow.2.cell 2
            have z0:=hrow.2.frozen 0
            have z1:=hrow.2.frozen 1
            have z3:=hrow.2.frozen 3
            have lg:=hrow.2.lt
            have HR5:=Lib.hid (HR4.out.raw a y)
            clear hm4 ho4 hf4 hb4 hrow
            have l0:w4.cell? ⟨L,0,none⟩ = some (.int .i64 0):=HL4.out.cell 0
            have l1:w4.cell? ⟨L,1,none⟩ = some (.int .i64 0):=HL4.out.cell 1
            have l2:w4.cell? ⟨L,2,none⟩ = some (.int .i64 0):=HL4.out.cell 2
            have l3:w4.cell? ⟨L,3,none⟩ = some (.slice none 0 0):=HL4.out.cell 3
            have y0:=HL4.out.frozen 0
            have y1:=HL4.out.frozen 1
            have y2:=HL4.out.frozen 2
            have y3:=HL4.out.frozen 3
            have ll:=HL4.out.lt
            have HEND:Hid (∀ w'',Fr [some L] ((( w4.setCell ⟨F,3,none⟩ (.slice B4 m4 d4)).setCell ⟨F,0,none⟩ (.int .i64 (a:Nat))).setCell ⟨F,1,none⟩ (.int .i64 (y:Nat))) w'' → DFAns w s a (.returned (.agg #[.int .i64 (a:Nat),.int .i64 (y:Nat),.int .i64 3,.slice B4 m4 d4])) w''):=by
              show ∀ _,_
              intro w'' hf
              exact HR5.out.fin H0.out HFL.out.1 HFL.out.2 hf (HFP.out 3 HV.out) rfl
            go_wp2_with fail
            refine bodyPost_ret (v:=.agg #[.int .i64 (a:Nat),.int .i64 (y:Nat),.int .i64 3,.slice B4 m4 d4]) (by simp [results,Tryz.results124,go_sem, *]) rfl ?_
            exact HEND.out _ (((((Fr.refl [some L] _).setB (fun _ => by simp) _ _).setB (fun _ => by simp) _ _).setB (fun _ => by simp) _ _).setB (fun _ => by simp) _ _)
          · have c1:¬ (q:Int) < (T:Int):=by omega
            have HV:Hid (1 = if 0 < kk then 3 else 1):=by show _ = _; rw [if_neg hk0]
            have HK:Hid (DF W1 (wr.setCell ⟨F,2,none⟩ (.int .i64 1)) F L 0 0 1 B d m l):=HD.out.1.kind 1
            clear h1 hb0 hb1 hlt hq hkk hT hTl hy haj hk0
            go_wp2_with fail
            refine (HQJ.out _).mono ?_
            rintro e w2 ⟨rfl,rfl⟩
            go_wp2_with fail
            refine HQ1.out.mono ?_
            rintro e w2 ⟨rfl,rfl⟩
            go_wp2_with fail
            refine (HTI.out _).mono ?_
            rintro e w2 ⟨rfl,rfl⟩
            go_wp2_with fail
            obtain ⟨W3,hW3⟩:∃ W3,W3 = wr.setCell ⟨F,2,none⟩ (.int .i64 1):=⟨_,rfl⟩
            rw [← hW3] at HK ⊢
            clear hW3 f0 f1 f2 f3 z0 z1 z2 z3 lf
            refine (HPL.out _ B d m HK.out.own HK.out.ln HM9.out).mono ?_
            rintro e w4 ⟨B4,m4,d4,rfl,hm4,ho4,hf4,hb4⟩
            have hrow:=HK.out.row ho4 hm4 hf4 hb4
            have HL4:Hid (Blk w4 L TDf #[.int .i64 0,.int .i64 0,.int .i64 0,.slice none 0 0]):=HK.out.lb.fr hf4 (fun e => by rw [List.mem_singleton] at e; have:=HK.out.bn L e.symm; have:=HK.out.ll; omega)
            have HR4:=Lib.hid hrow.1
            have g3:w4.cell? ⟨F,3,none⟩ = some (.slice B m d):=hrow.2.cell 3
            have g0:w4.cell? ⟨F,0,none⟩ = some (.int .i64 (0:Nat)):=hrow.2.cell 0
            have g1:w4.cell? ⟨F,1,none⟩ = some (.int .i64 (0:Nat)):=hrow.2.cell 1
            have g2:w4.cell? ⟨F,2,none⟩ = some (.int .i64 1):=hrow.2.cell 2
            have z0:=hrow.2.frozen 0
            have z1:=hrow.2.frozen 1
            have z3:=hrow.2.frozen 3
            have lg:=hrow.2.lt
            have HR5:=Lib.hid (HR4.out.raw a y)
            clear hm4 ho4 hf4 hb4 hrow
            have l0:w4.cell? ⟨L,0,none⟩ = some (.int .i64 0):=HL4.out.cell 0
            have l1:w4.cell? ⟨L,1,none⟩ = some (.int .i64 0):=HL4.out.cell 1
            have l2:w4.cell? ⟨L,2,none⟩ = some (.int .i64 0):=HL4.out.cell 2
            have l3:w4.cell? ⟨L,3,none⟩ = some (.slice none 0 0):=HL4.out.cell 3
            have y0:=HL4.out.frozen 0
            have y1:=HL4.out.frozen 1
            have y2:=HL4.out.frozen 2
            have y3:=HL4.out.frozen 3
            have ll:=HL4.out.lt
            have HEND:Hid (∀ w'',Fr [some L] ((( w4.setCell ⟨F,3,none⟩ (.slice B4 m4 d4)).setCell ⟨F,0,none⟩ (.int .i64 (a:Nat))).setCell ⟨F,1,none⟩ (.int .i64 (y:Nat))) w'' → DFAns w s a (.returned (.agg #[.int .i64 (a:Nat),.int .i64 (y:Nat),.int .i64 1,.slice B4 m4 d4])) w''):=by
              show ∀ _,_
              intro w'' hf
              exact HR5.out.fin H0.out HFL.out.1 HFL.out.2 hf (HFP.out 1 HV.out) rfl
            go_wp2_with fail
            refine bodyPost_ret (v:=.agg #[.int .i64 (a:Nat),.int .i64 (y:Nat),.int .i64 1,.slice B4 m4 d4]) (by simp [results,Tryz.results124,go_sem, *]) rfl ?_
            exact HEND.out _ (((((Fr.refl [some L] _).setB (fun _ => by simp) _ _).setB (fun _ => by simp) _ _).setB (fun _ => by simp) _ _).setB (fun _ => by simp) _ _)
    · have j1:(s.length:Int) ≤ (j:Int):=by omega
      have hjl:j = s.length:=by have:=HD.out.2.2.1; omega
      obtain ⟨y,hy⟩:∃ y,y = s.length - a:=⟨_,rfl⟩
      have y9:(s.length:Int) - (a:Int) = (y:Int):=by have:=HAL.out.1; omega
      have HFP:Hid (fieldP s a = ⟨a,y,4,l⟩):=by
        have hQ:=HD.out.2.2.2.2
        rw [hjl,List.drop_eq_nil_of_le (Nat.le_refl _)] at hQ
        show _ = _
        unfold fieldP
        rw [if_pos HAL.out.2,← hQ,hy]
        simp [quoP]
      have f0:wr.cell? ⟨F,0,none⟩ = some (.int .i64 (0:Nat)):=HD.out.1.fb.cell 0
      have f1:wr.cell? ⟨F,1,none⟩ = some (.int .i64 (0:Nat)):=HD.out.1.fb.cell 1
      have f2:wr.cell? ⟨F,2,none⟩ = some (.int .i64 (0:Nat)):=HD.out.1.fb.cell 2
      have f3:wr.cell? ⟨F,3,none⟩ = some (.slice B m d):=HD.out.1.fb.cell 3
      have z0:=HD.out.1.fb.frozen 0
      have z1:=HD.out.1.fb.frozen 1
      have z2:=HD.out.1.fb.frozen 2
      have z3:=HD.out.1.fb.frozen 3
      have lf:=HD.out.1.fb.lt
      have l0:wr.cell? ⟨L,0,none⟩ = some (.int .i64 0):=HD.out.1.lb.cell 0
      have l1:wr.cell? ⟨L,1,none⟩ = some (.int .i64 0):=HD.out.1.lb.cell 1
      have l2:wr.cell? ⟨L,2,none⟩ = some (.int .i64 0):=HD.out.1.lb.cell 2
      have l3:wr.cell? ⟨L,3,none⟩ = some (.slice none 0 0):=HD.out.1.lb.cell 3
      have y0:=HD.out.1.lb.frozen 0
      have y1:=HD.out.1.lb.frozen 1
      have y2:=HD.out.1.lb.frozen 2
      have y3:=HD.out.1.lb.frozen 3
      have ll:=HD.out.1.lb.lt
      have HK:Hid (DF W1 (((wr.setCell ⟨F,2,none⟩ (.int .i64 4)).setCell ⟨F,0,none⟩ (.int .i64 (a:Nat))).setCell ⟨F,1,none⟩ (.int .i64 (y:Nat))) F L a y 4 B d m l):=(HD.out.1.kind 4).raw a y
      have HEND:Hid (∀ w'',Fr [some L] (((wr.setCell ⟨F,2,none⟩ (.int .i64 4)).setCell ⟨F,0,none⟩ (.int .i64 (a:Nat))).setCell ⟨F,1,none⟩ (.int .i64 (y:Nat))) w'' → DFAns w s a (.returned (.agg #[.int .i64 (a:Nat),.int .i64 (y:Nat),.int .i64 4,.slice B m d])) w''):=by
        show ∀ _,_
        intro w'' hf
        exact HK.out.fin H0.out HFL.out.1 HFL.out.2 hf HFP.out rfl
      have hne:¬ F = L:=HD.out.1.ne
      have hne2:¬ L = F:=fun e => hne e.symm
      clear hjl hy
      go_wp2_with fail
      refine bodyPost_ret (v:=.agg #[.int .i64 (a:Nat),.int .i64 (y:Nat),.int .i64 4,.slice B m d]) (by simp [results,Tryz.results124,go_sem, *]) rfl ?_
      exact HEND.out _ (((((Fr.refl [some L] _).setB (fun _ => by simp) _ _).setB (fun _ => by simp) _ _).setB (fun _ => by simp) _ _).setB (fun _ => by simp) _ _)
end Go.Proofs.YteohomdiklkbfaaGreat
namespace Go.Proofs.YteohomdiklkbfaaGreat
open Go.RowKit Go.Proofs.Dm

theorem dfield_any (s:List UInt8) (a:Nat) (w:World) (ha:a ≤ s.length) (hn:s.length ≤ 1000000) :
    Calls Tryz.prog 124 #[.string ⟨s.toArray⟩,.int .i64 (a:Nat)] w (DFAns w s a):=by
  cases h:isB s a 34 with
  | true => exact dfield_quoted s a w ha hn h
  | false => exact dfield_bare s a w ha hn h
abbrev TDr:TypeId:=166
structure DV where
  f:FieldP
  B:Option Addr
  m:Nat
  d:Nat
def DV.cells (x:DV):List Value:=[.int .i64 (x.f.a:Nat),.int .i64 (x.f.n:Nat),.int .i64 (x.f.kind:Nat),.slice x.B x.m x.d]
def dvc (xs:List DV):List Value:=xs.flatMap DV.cells
theorem dvc_app (a b:List DV):dvc (a ++ b) = dvc a ++ dvc b:=by simp [dvc]
def DV.ok (x:DV) (w:World):Prop:=Sl w x.B (nats x.f.places) ∧ x.m = x.f.places.length
theorem infoDf:(Tryz.prog.info? TDf).map (fun i => (i.zero,i.size,i.bytes)) = some (some (Value.agg #[.int .i64 0,.int .i64 0,.int .i64 0,.slice none 0 0]),4,48):=by kernel_rfl
def DRAns (w:World) (s:List UInt8) (a:Nat) (e:Ending) (w':World):Prop :=
  ∃ (B:Option Addr) (m d:Nat) (xs:List DV),e = .returned (.tuple #[.agg #[.slice B m d,.int .i64 ((lineP s a).1.e:Nat)],.int .i64 ((lineP s a).2:Nat)]) ∧ m = xs.length ∧ xs.map DV.f = (lineP s a).1.fields ∧ (∀ E,Old E w → Kp E w' (fun w => Sl w B (dvc xs) ∧ ∀ x ∈ xs,x.ok w)) ∧ Fr [] w w'
structure DS (W1 w:World) (R L:Nat) (s:List UInt8) (a0 a k:Nat) (B:Option Addr) (d m:Nat) (xs:List DV):Prop where
  rb:Blk w R TDr #[.slice B m d,.int .i64 0]
  lb:Blk w L TDr #[.slice none 0 0,.int .i64 0]
  own:ORow w TDf 4 B d m (dvc xs)
  ln:m = xs.length
  ok:∀ x ∈ xs,ORow w TI 1 x.B x.d x.m (nats x.f.places) ∧ x.m = x.f.places.length
  fr:Fr [some R] W1 w
  rl:R < W1.heap.size
  ll:L < W1.heap.size
  ne:R ≠ L
  bn:∀ j,bk B = some j → W1.heap.size ≤ j
  xn:∀ x ∈ xs,∀ j,bk x.B = some j → W1.heap.size ≤ j
  fs:xs.map DV.f ++ fieldsP s k a = fieldsP s (s.length + 1 - a0) a0
  fe:fendP s k a = fendP s (s.length + 1 - a0) a0
  al:a ≤ s.length
  fk:s.length + 1 ≤ a + k
  xl:xs.length ≤ a
theorem newS {W1:World} {R:Nat} {A:Option Addr} (hR:R < W1.heap.size) (h:∀ j,bk A = some j → W1.heap.size ≤ j):bk A = none ∨ bk A ∉ [some R]:=by
  cases hb:bk A with
  | none => exact .inl rfl
  | some j => exact .inr fun e => by rw [List.mem_singleton] at e; injection e with e; have:=h j hb; omega
section
variable {W1 w w':World} {R L a0 a k d m:Nat} {B:Option Addr} {xs:List DV} {s:List UInt8}
theorem DS.fr0 (h:DS W1 w R L s a0 a k B d m xs) (hf:Fr [] w w'):DS W1 w' R L s a0 a k B d m xs :=
  ⟨h.rb.fr hf (by simp),h.lb.fr hf (by simp),ORow.fr h.own hf (.inr List.not_mem_nil),h.ln,fun x hx => ⟨ORow.fr (h.ok x hx).1 hf (.inr List.not_mem_nil),(h.ok x hx).2⟩,h.fr.trans hf.of_nil,h.rl,h.ll,h.ne,h.bn,h.xn,h.fs,h.fe,h.al,h.fk,h.xl⟩
theorem DS.put {w5:World} {B2 FB:Option Addr} {d2 fm fd:Nat} (h:DS W1 w R L s a0 a (k + 1) B d m xs) (ho:ORow w TI 1 FB fd fm (nats (fieldP s a).places)) (hm:fm = (fieldP s a).places.length) (hfn:∀ j,bk FB = some j → W1.heap.size ≤ j)
    (hr:ORow w5 TDf 4 B2 d2 (m + 1) (dvc xs ++ DV.cells ⟨fieldP s a,FB,fm,fd⟩)) (hg:Fr [bk B] w w5) (hb:bk B2 = bk B ∨ bk B2 = some w.heap.size) :
    Blk w5 R TDr #[.slice B m d,.int .i64 0] ∧
    Blk (w5.setCell ⟨R,0,none⟩ (.slice B2 (m + 1) d2)) R TDr #[.slice B2 (m + 1) d2,.int .i64 0] ∧ Blk (w5.setCell ⟨R,0,none⟩ (.slice B2 (m + 1) d2)) L TDr #[.slice none 0 0,.int .i64 0] ∧
    ORow (w5.setCell ⟨R,0,none⟩ (.slice B2 (m + 1) d2)) TDf 4 B2 d2 (m + 1) (dvc (xs ++ [⟨fieldP s a,FB,fm,fd⟩])) ∧ (∀ x ∈ xs ++ [(⟨fieldP s a,FB,fm,fd⟩:DV)],ORow (w5.setCell ⟨R,0,none⟩ (.slice B2 (m + 1) d2)) TI 1 x.B x.d x.m (nats x.f.places) ∧ x.m = x.f.places.length) ∧
    Fr [some R] W1 (w5.setCell ⟨R,0,none⟩ (.slice B2 (m + 1) d2)) ∧ (∀ j,bk B2 = some j → W1.heap.size ≤ j) ∧ (∀ x ∈ xs ++ [(⟨fieldP s a,FB,fm,fd⟩:DV)],∀ j,bk x.B = some j → W1.heap.size ≤ j):=by
  have hs:=h.fr.size
  have hn:∀ b,b < W1.heap.size → some b ∉ [bk B]:=fun b hb e => by
    rw [List.mem_singleton] at e
    have:=h.bn b e.symm
    omega
  have rb5:=h.rb.fr hg (hn R h.rl)
  have lb5:=h.lb.fr hg (hn L h.ll)
  have hset:Fr [some R] w5 (w5.setCell ⟨R,0,none⟩ (.slice B2 (m + 1) d2)):=(Fr.refl _ w5).setB (by simp) 0 _
  have hB2:∀ j,bk B2 = some j → W1.heap.size ≤ j:=fun j hj => by
    rcases hb with e | e
    · exact h.bn j (e ▸ hj)
    · rw [e] at hj; injection hj with hj; omega
  have hone:∀ {A:Option Addr} {c n:Nat} {cs:List Value},ORow w TI 1 A c n cs → (∀ j,bk A = some j → W1.heap.size ≤ j) → ORow (w5.setCell ⟨R,0,none⟩ (.slice B2 (m + 1) d2)) TI 1 A c n cs:=fun {A c n cs} hA hn => by
    refine ORow.fr (ORow.fr hA hg ?_) hset (newS h.rl hn)
    rcases ORow.ne hA h.own (by decide) with e | e
    · exact .inl e
    · exact .inr (by rw [List.mem_singleton]; exact e)
  have hxn:∀ x ∈ xs ++ [(⟨fieldP s a,FB,fm,fd⟩:DV)],∀ j,bk x.B = some j → W1.heap.size ≤ j:=fun x hx => by
    rcases List.mem_append.1 hx with hx | hx
    · exact h.xn x hx
    · rw [List.mem_singleton] at hx; subst hx; exact hfn
  refine ⟨rb5,rb5.set_ 0 _,lb5.fr hset (fun e => by rw [List.mem_singleton] at e; injection e with e; exact h.ne e.symm),?_,fun x hx => ?_,?_,hB2,hxn⟩
  · rw [dvc_app]
    refine ORow.fr ?_ hset (newS h.rl hB2)
    simpa [dvc] using hr
  · rcases List.mem_append.1 hx with hx' | hx'
    · exact ⟨hone (h.ok x hx').1 (h.xn x hx'),(h.ok x hx').2⟩
    · rw [List.mem_singleton] at hx'
      subst hx'
      exact ⟨hone ho hfn,hm⟩
  · refine (h.fr.seq hg fun z hz => ?_).trans hset
    rw [List.mem_singleton] at hz
    subst hz
    cases hB:bk B with
    | none => exact .inr (.inl rfl)
    | some j => exact .inr (.inr ⟨j,h.bn j hB,rfl⟩)
end
structure DP (W1 w:World) (R L:Nat) (s:List UInt8) (a0 t k:Nat) (B:Option Addr) (d m:Nat) (xs:List DV):Prop where
  rb:Blk w R TDr #[.slice B m d,.int .i64 0]
  lb:Blk w L TDr #[.slice none 0 0,.int .i64 0]
  own:ORow w TDf 4 B d m (dvc xs)
  ln:m = xs.length
  ok:∀ x ∈ xs,ORow w TI 1 x.B x.d x.m (nats x.f.places) ∧ x.m = x.f.places.length
  fr:Fr [some R] W1 w
  rl:R < W1.heap.size
  ll:L < W1.heap.size
  ne:R ≠ L
  bn:∀ j,bk B = some j → W1.heap.size ≤ j
  xn:∀ x ∈ xs,∀ j,bk x.B = some j → W1.heap.size ≤ j
  fs:xs.map DV.f ++ restF s k t = fieldsP s (s.length + 1 - a0) a0
  fe:restE s k t = fendP s (s.length + 1 - a0) a0
  tl:t ≤ s.length
  fk:s.length ≤ t + k
  xl:xs.length ≤ t + 1
section
variable {W1 w w':World} {R L a0 a k d m t:Nat} {B:Option Addr} {xs:List DV} {s:List UInt8}
theorem DS.field {w5:World} {B2 FB:Option Addr} {d2 fm fd:Nat} (h:DS W1 w R L s a0 a (k + 1) B d m xs) (ht:t = a + (fieldP s a).n) (ho:ORow w TI 1 FB fd fm (nats (fieldP s a).places)) (hm:fm = (fieldP s a).places.length) (hfn:∀ j,bk FB = some j → W1.heap.size ≤ j)
    (hr:ORow w5 TDf 4 B2 d2 (m + 1) (dvc xs ++ DV.cells ⟨fieldP s a,FB,fm,fd⟩)) (hg:Fr [bk B] w w5) (hb:bk B2 = bk B ∨ bk B2 = some w.heap.size) :
    DP W1 (w5.setCell ⟨R,0,none⟩ (.slice B2 (m + 1) d2)) R L s a0 t k B2 d2 (m + 1) (xs ++ [⟨fieldP s a,FB,fm,fd⟩]) ∧ Blk w5 R TDr #[.slice B m d,.int .i64 0]:=by
  obtain ⟨p0,p1,p2,p3,p4,p5,p6,p7⟩:=h.put ho hm hfn hr hg hb
  obtain ⟨r1,r2⟩:=rest_start s k a
  have hbd:=fieldP_bd s a h.al
  have hxl:=h.xl
  have hfk:=h.fk
  refine ⟨⟨p1,p2,p3,by rw [List.length_append,h.ln]; rfl,p4,p5,h.rl,h.ll,h.ne,p6,p7,?_,?_,by omega,by omega,by rw [List.length_append,List.length_singleton]; omega⟩,p0⟩
  · rw [← h.fs,r1,ht]
    simp
  · rw [← h.fe,r2,ht]
theorem DP.next (h:DP W1 w R L s a0 t k B d m xs) (hc:s[t]? = some 44):DS W1 w R L s a0 (t + 1) k B d m xs:=by
  have htl:t < s.length:=by
    rcases Nat.lt_or_ge t s.length with h | h
    · exact h
    · rw [List.getElem?_eq_none h] at hc; cases hc
  have hfk:=h.fk
  have hxl:=h.xl
  have hfs:=h.fs
  have hfe:=h.fe
  unfold restF at hfs
  unfold restE at hfe
  rw [if_pos hc] at hfs hfe
  exact ⟨h.rb,h.lb,h.own,h.ln,h.ok,h.fr,h.rl,h.ll,h.ne,h.bn,h.xn,hfs,hfe,htl,by omega,hxl⟩
theorem DP.fr0 (h:DP W1 w R L s a0 t k B d m xs) (hf:Fr [] w w'):DP W1 w' R L s a0 t k B d m xs :=
  ⟨h.rb.fr hf (by simp),h.lb.fr hf (by simp),ORow.fr h.own hf (.inr List.not_mem_nil),h.ln,fun x hx => ⟨ORow.fr (h.ok x hx).1 hf (.inr List.not_mem_nil),(h.ok x hx).2⟩,h.fr.trans hf.of_nil,h.rl,h.ll,h.ne,h.bn,h.xn,h.fs,h.fe,h.tl,h.fk,h.xl⟩
theorem DP.fin {w0:World} {e nx:Nat} (h:DP W1 w R L s a0 t k B d m xs) (hc:s[t]? ≠ some 44) (h0:Fr [] w0 W1) (hR:w0.heap.size ≤ R) (hL:w0.heap.size ≤ L) (hw:Fr [some R,some L] w w') (he:endP s t = (e,nx)) :
    DRAns w0 s a0 (.returned (.tuple #[.agg #[.slice B m d,.int .i64 (e:Nat)],.int .i64 ((t + nx:Nat):Int)])) w':=by
  obtain ⟨q1,q2⟩:=rest_stop s k t hc
  have hfs:=h.fs
  have hfe:=h.fe
  rw [q1,List.append_nil] at hfs
  rw [q2] at hfe
  have e1:(lineP s a0).1.e = e:=by
    show (endP s (fendP s (s.length + 1 - a0) a0)).1 = _
    rw [← hfe,he]
  have e2:(lineP s a0).2 = t + nx:=by
    show fendP s (s.length + 1 - a0) a0 + (endP s (fendP s (s.length + 1 - a0) a0)).2 = _
    rw [← hfe,he]
  have hs:=h0.size
  have hrl:=h.rl
  have hll:=h.ll
  have hnn:∀ {A:Option Addr},(∀ j,bk A = some j → W1.heap.size ≤ j) → bk A = none ∨ bk A ∉ [some R,some L]:=fun {A} hA => by
    cases hb:bk A with
    | none => exact .inl rfl
    | some j =>
      refine .inr fun e => ?_
      have:=hA j hb
      rcases List.mem_cons.1 e with e | e
      · injection e with e; omega
      · rw [List.mem_singleton] at e; injection e with e; omega
  refine ⟨B,m,d,xs,by rw [e1,e2],h.ln,hfs,fun E hE w'' hf => ⟨?_,fun x hx => ⟨?_,(h.ok x hx).2⟩⟩,(h0.seq h.fr fun z hz => ?_).seq hw fun z hz => ?_⟩
  · refine Sl.fr (ORow.sl (ORow.fr h.own hw (hnn h.bn))) hf ?_
    exact hE.newA fun j hj => by have:=h.bn j hj; omega
  · refine Sl.fr (ORow.sl (ORow.fr (h.ok x hx).1 hw (hnn (h.xn x hx)))) hf ?_
    exact hE.newA fun j hj => by have:=h.xn x hx j hj; omega
  · rw [List.mem_singleton] at hz; exact .inr (.inr ⟨R,hR,hz⟩)
  · rcases List.mem_cons.1 hz with rfl | hz
    · exact .inr (.inr ⟨R,hR,rfl⟩)
    · rw [List.mem_singleton] at hz; exact .inr (.inr ⟨L,hL,hz⟩)
theorem DS.start {w:World} {s:List UInt8} {a:Nat} (ha:a ≤ s.length):DS ((w.alloc (.cells #[.slice none 0 0,.int .i64 0] TDr)).alloc (.cells #[.slice none 0 0,.int .i64 0] TDr)) ((w.alloc (.cells #[.slice none 0 0,.int .i64 0] TDr)).alloc (.cells #[.slice none 0 0,.int .i64 0] TDr)) (w.heap.size + 1) w.heap.size s a a (s.length + 1 - a) none 0 0 []:=by
  have b1:=Blk.new (w.alloc (.cells #[.slice none 0 0,.int .i64 0] TDr)) TDr #[.slice none 0 0,.int .i64 0]
  rw [show (w.alloc (.cells #[.slice none 0 0,.int .i64 0] TDr)).heap.size = w.heap.size + 1 by simp] at b1
  exact ⟨b1,(Blk.new w TDr _).alloc _,ORow.nil_ _ _ _,rfl,fun x hx => by simp at hx,Fr.refl _ _,by simp,by simp; omega,by omega,fun j hj => (by cases hj),fun x hx => by simp at hx,rfl,rfl,ha,by omega,Nat.zero_le _⟩
end
end Go.Proofs.YteohomdiklkbfaaGreat
namespace Go.Proofs.YteohomdiklkbfaaGreat
open Go.RowKit Go.Proofs.Dm

theorem byte_at {s:List UInt8} {t:Nat} {c:UInt8} (h:s[t]? = some c):∃ hi:t < (⟨s.toArray⟩:ByteArray).size,((((⟨s.toArray⟩:ByteArray)[t]'hi).toNat:Nat):Int) = ((c.toNat:Nat):Int):=by
  have hl:t < s.length:=by
    rcases Nat.lt_or_ge t s.length with h' | h'
    · exact h'
    · rw [List.getElem?_eq_none h'] at h; cases h
  refine ⟨by simpa [ByteArray.size] using hl,?_⟩
  rw [List.getElem?_eq_getElem hl] at h
  injection h with h
  show ((s[t].toNat:Nat):Int) = _
  rw [h]
theorem sl_df (w:World) (o:Obj) (us:Array Value):Sl ((w.alloc o).alloc (.cells us TDf)) (some ⟨w.heap.size + 1,0,none⟩) us.toList:=by
  have:=blk_sl (cs:=us.toList) (Blk.new (w.alloc o) TDf us) us.toList.length
  rw [List.take_length] at this
  simpa using this
set_option maxRecDepth 100000 in
set_option maxHeartbeats 3200000 in
theorem done_one (s:List UInt8) (a:Nat) (w:World) (ha:a < s.length) (hn:s.length ≤ 1000000) :
    Calls Tryz.prog 106 #[.string ⟨s.toArray⟩,.int .i64 (a:Nat)] w (DRAns w s a):=by
  have HN:=Lib.hid hn
  have HST:=Lib.hid (DS.start (w:=w) (Nat.le_of_lt ha))
  have H0:Hid (Fr [] w ((w.alloc (.cells #[.slice none 0 0,.int .i64 0] TDr)).alloc (.cells #[.slice none 0 0,.int .i64 0] TDr))):=((Fr.refl [] w).alloc _).alloc _
  have a1:¬ (a:Int) < 0:=by omega
  have a2:¬ (s.length:Int) ≤ (a:Int):=by omega
  have a3:(a:Int) ≤ 1000000:=by omega
  have n3:(s.length:Int) ≤ 1000000:=by omega
  clear ha hn
  go_enter Tryz.func106,Tryz.ntmps106
  go_wp2_with fail
  obtain ⟨W1,hW1⟩:∃ W1,W1 = (w.alloc (.cells #[.slice none 0 0,.int .i64 0] TDr)).alloc (.cells #[.slice none 0 0,.int .i64 0] TDr):=⟨_,rfl⟩
  rw [← hW1] at HST H0 ⊢
  obtain ⟨R,hR⟩:∃ R,R = w.heap.size + 1:=⟨_,rfl⟩
  obtain ⟨L,hL⟩:∃ L,L = w.heap.size:=⟨_,rfl⟩
  rw [← hR] at HST ⊢
  rw [← hL] at HST ⊢
  have HRL:Hid (w.heap.size ≤ R ∧ w.heap.size ≤ L):=⟨by omega,by omega⟩
  clear hW1 hR hL
  go_loopg [1] (s.length + 1 - a) (fun k av wr => ∃ (k' j m d:Nat) (B:Option Addr) (xs:List DV),k' = k ∧ av = .int .i64 j ∧ Hid (DS W1 wr R L s a j k' B d m xs))
  case atStart => exact ⟨_,a,0,0,none,[],rfl,rfl,HST.out⟩
  case round =>
    clear HST
    obtain ⟨k',j,m,d,B,xs,hkk',rfl,HD⟩:=hrel
    have hjl:=HD.out.al
    have hjk:=HD.out.fk
    obtain ⟨k2,hk2⟩:∃ k2,k' = k2 + 1:=⟨k' - 1,by omega⟩
    subst hk2
    have HM9:Hid (m ≤ 1000000):=by show _ ≤ _; have:=HD.out.xl; have:=HD.out.ln; have:=HN.out; omega
    have hfd:=dfield_any s j wr hjl HN.out
    have HFD:=Lib.hid hfd
    have hbd:=fieldP_bd s j hjl
    obtain ⟨nn,hnn⟩:∃ nn,nn = (fieldP s j).n:=⟨_,rfl⟩
    obtain ⟨kd,hkd⟩:∃ kd,kd = (fieldP s j).kind:=⟨_,rfl⟩
    obtain ⟨t,ht⟩:∃ t,t = j + nn:=⟨_,rfl⟩
    have t1:(j:Int) + (nn:Int) = (t:Int):=by omega
    have t2:(t:Int) ≤ 1000000:=by have:=HN.out; omega
    have HT:Hid (t = j + (fieldP s j).n ∧ nn = (fieldP s j).n ∧ kd = (fieldP s j).kind):=⟨by omega,hnn,hkd⟩
    clear hfd hbd hjl hjk ht
    go_wp2_with fail
    refine HFD.out.mono ?_
    rintro e w2 ⟨FB,fm,fd,rfl,hfm,hfo,hff,hfn⟩
    rw [← hnn,← hkd]
    have HD2:=Lib.hid (HD.out.fr0 hff)
    have HFO:Hid (ORow w2 TI 1 FB fd fm (nats (fieldP s j).places) ∧ fm = (fieldP s j).places.length ∧ ∀ j,bk FB = some j → W1.heap.size ≤ j):=⟨hfo,hfm,fun k hk => by have:=hfn k hk; have:=HD.out.fr.size; omega⟩
    obtain ⟨q,hq⟩:∃ q,q = t + 1:=⟨_,rfl⟩
    obtain ⟨r,hr⟩:∃ r,r = t + 2:=⟨_,rfl⟩
    have q1:(t:Int) + 1 = (q:Int):=by omega
    have q2:(q:Int) ≤ 1000001:=by omega
    have r1':(t:Int) + 2 = (r:Int):=by omega
    have r2:(r:Int) ≤ 1000002:=by omega
    have hend:=fieldP_end s j HD.out.al
    rw [← HT.out.1] at hend
    rcases Nat.lt_or_ge t s.length with htl | htl
    · have hmk:s[t]? = some 44 ∨ s[t]? = some 13 ∨ s[t]? = some 10:=by
        rcases hend with h | ⟨c,h,hm⟩
        · omega
        · simp only [isMark,Bool.or_eq_true,beq_iff_eq] at hm
          rcases hm with (rfl | rfl) | rfl
          · exact .inl h
          · exact .inr (.inl h)
          · exact .inr (.inr h)
      have tl1:(t:Int) < (s.length:Int):=by omega
      clear hend htl
      rcases hmk with hc | hc | hc
      · obtain ⟨hi,hx⟩:=byte_at hc
        have hx1:((((⟨s.toArray⟩:ByteArray)[t]'hi).toNat:Nat):Int) = 44:=hx
        have HC:=Lib.hid hc
        have HQ9:=Lib.hid hq
        clear hx hc hr r1' r2 hq
        have r0:(w2.alloc (.cells #[.int .i64 (j:Nat),.int .i64 (nn:Nat),.int .i64 (kd:Nat),.slice FB fm fd] TDf)).cell? ⟨R,0,none⟩ = some (.slice B m d):=(HD2.out.rb.alloc _).cell 0
        have r1:=World.block_lt_of_cell? _ _ r0
        clear hfm hfo hff hfn hnn hkd HFD
        go_wp2_with (at_builtin; go_must (
          refine wpList_app _ rfl _ _ 164 TDf rfl (Value.agg #[.int .i64 0,.int .i64 0,.int .i64 0,.slice none 0 0]) 4 48 Tryz.underlying164 infoDf rfl (by decide) B d m (dvc xs) rfl (ORow.fr HD2.out.own (((Fr.refl [] w2).alloc _).alloc _) (.inr List.not_mem_nil)) _ 1 1 [.int .i64 (j:Nat),.int .i64 (nn:Nat),.int .i64 (kd:Nat),.slice FB fm fd] rfl rfl (sl_df w2 _ _) (by simp [Value.oneCell']) (by have:=HM9.out; simp only [maxLen]; omega) (by have:=HM9.out; omega) ?_
          intro B2 d2 w5 hr2 hg2 hb2
          have hx:=(HD2.out.fr0 (((Fr.refl [] w2).alloc (.cells #[.int .i64 (j:Nat),.int .i64 (nn:Nat),.int .i64 (kd:Nat),.slice FB fm fd] TDf)).alloc (.cells #[.int .i64 (j:Nat),.int .i64 (nn:Nat),.int .i64 (kd:Nat),.slice FB fm fd] TDf))).field (t:=t) HT.out.1 (ORow.fr HFO.out.1 (((Fr.refl [] w2).alloc _).alloc _) (.inr List.not_mem_nil)) HFO.out.2.1 HFO.out.2.2 (by rw [HT.out.2.1,HT.out.2.2] at hr2; simpa [DV.cells,fieldP_a] using hr2) hg2 hb2
          have HX:=Lib.hid hx.1
          have g0:w5.cell? ⟨R,0,none⟩ = some (.slice B m d):=hx.2.cell 0
          have z0:=hx.2.frozen 0
          have lg:=hx.2.lt
          have HBX:Hid (Blk w5 w2.heap.size TDf #[.int .i64 (j:Nat),.int .i64 (nn:Nat),.int .i64 (kd:Nat),.slice FB fm fd]):=((Blk.new w2 TDf _).alloc _).fr hg2 (fun e => by
            rw [List.mem_singleton] at e
            have:=ORow.lt HD2.out.own e.symm
            omega)
          have b0:w5.cell? ⟨w2.heap.size,0,none⟩ = some (.int .i64 (j:Nat)):=HBX.out.cell 0
          have b1:w5.cell? ⟨w2.heap.size,1,none⟩ = some (.int .i64 (nn:Nat)):=HBX.out.cell 1
          have hrb:¬ R = w2.heap.size:=by have:=HD2.out.rb.lt; omega
          have hrb2:¬ w2.heap.size = R:=fun e => hrb e.symm
          have lb5:=((HD2.out.lb.alloc (.cells #[.int .i64 (j:Nat),.int .i64 (nn:Nat),.int .i64 (kd:Nat),.slice FB fm fd] TDf)).alloc (.cells #[.int .i64 (j:Nat),.int .i64 (nn:Nat),.int .i64 (kd:Nat),.slice FB fm fd] TDf)).fr hg2 (fun e => by rw [List.mem_singleton] at e; have:=HD2.out.bn L e.symm; have:=HD2.out.ll; omega)
          have l0:w5.cell? ⟨L,0,none⟩ = some (.slice none 0 0):=lb5.cell 0
          have l1:w5.cell? ⟨L,1,none⟩ = some (.int .i64 0):=lb5.cell 1
          have y0:=lb5.frozen 0
          have y1:=lb5.frozen 1
          have ll:=lb5.lt
          have g1:w5.cell? ⟨R,1,none⟩ = some (.int .i64 0):=hx.2.cell 1
          have z1:=hx.2.frozen 1
          have hne:¬ R = L:=HD2.out.ne
          have hne2:¬ L = R:=fun e => hne e.symm
          have HEND:Hid (∀ e nx w',s[t]? ≠ some 44 → endP s t = (e,nx) → Fr [some R,some L] (w5.setCell ⟨R,0,none⟩ (.slice B2 (m + 1) d2)) w' → DRAns w s a (.returned (.tuple #[.agg #[.slice B2 (m + 1) d2,.int .i64 (e:Nat)],.int .i64 ((t + nx:Nat):Int)])) w'):=by
            show ∀ _,_
            intro e nx w' hc he hw
            exact HX.out.fin hc H0.out HRL.out.1 HRL.out.2 hw he
          clear hr2 hg2 hb2 hx lb5))
        go_roundg k2
        case rel => exact ⟨k2,q,m + 1,d2,B2,_,rfl,by go_num,by rw [HQ9.out]; exact HX.out.next HC.out⟩
        case measure => omega
      · obtain ⟨hi,hx⟩:=byte_at hc
        have hx1:((((⟨s.toArray⟩:ByteArray)[t]'hi).toNat:Nat):Int) = 13:=hx
        rcases Nat.decEq 0 (if s[t + 1]? = some 10 then 1 else 0) with hd | hd
        · have hd':s[t + 1]? = some 10:=by
            rcases Classical.em (s[t + 1]? = some 10) with h | h
            · exact h
            · rw [if_neg h] at hd; exact absurd rfl hd
          have HC:Hid (s[t]? ≠ some 44 ∧ endP s t = (2,2) ∧ t + 2 = r):=⟨by rw [hc]; decide,by unfold endP; rw [hc,if_neg (by decide),if_pos rfl,if_pos hd'],hr.symm⟩
          rw [← hq] at hd'
          obtain ⟨hi',hx'⟩:=byte_at hd'
          have hx2:((((⟨s.toArray⟩:ByteArray)[q]'hi').toNat:Nat):Int) = 10:=hx'
          have ql1:(q:Int) < (s.length:Int):=by
            rcases Nat.lt_or_ge q s.length with h | h
            · omega
            · rw [List.getElem?_eq_none h] at hd'; cases hd'
          clear hx hx' hc hd hd' hr hq
          have r0:(w2.alloc (.cells #[.int .i64 (j:Nat),.int .i64 (nn:Nat),.int .i64 (kd:Nat),.slice FB fm fd] TDf)).cell? ⟨R,0,none⟩ = some (.slice B m d):=(HD2.out.rb.alloc _).cell 0
          have r1:=World.block_lt_of_cell? _ _ r0
          clear hfm hfo hff hfn hnn hkd HFD
          go_wp2_with (at_builtin; go_must (
            refine wpList_app _ rfl _ _ 164 TDf rfl (Value.agg #[.int .i64 0,.int .i64 0,.int .i64 0,.slice none 0 0]) 4 48 Tryz.underlying164 infoDf rfl (by decide) B d m (dvc xs) rfl (ORow.fr HD2.out.own (((Fr.refl [] w2).alloc _).alloc _) (.inr List.not_mem_nil)) _ 1 1 [.int .i64 (j:Nat),.int .i64 (nn:Nat),.int .i64 (kd:Nat),.slice FB fm fd] rfl rfl (sl_df w2 _ _) (by simp [Value.oneCell']) (by have:=HM9.out; simp only [maxLen]; omega) (by have:=HM9.out; omega) ?_
            intro B2 d2 w5 hr2 hg2 hb2
            have hx:=(HD2.out.fr0 (((Fr.refl [] w2).alloc (.cells #[.int .i64 (j:Nat),.int .i64 (nn:Nat),.int .i64 (kd:Nat),.slice FB fm fd] TDf)).alloc (.cells #[.int .i64 (j:Nat),.int .i64 (nn:Nat),.int .i64 (kd:Nat),.slice FB fm fd] TDf))).field (t:=t) HT.out.1 (ORow.fr HFO.out.1 (((Fr.refl [] w2).alloc _).alloc _) (.inr List.not_mem_nil)) HFO.out.2.1 HFO.out.2.2 (by rw [HT.out.2.1,HT.out.2.2] at hr2; simpa [DV.cells,fieldP_a] using hr2) hg2 hb2
            have HX:=Lib.hid hx.1
            have g0:w5.cell? ⟨R,0,none⟩ = some (.slice B m d):=hx.2.cell 0
            have z0:=hx.2.frozen 0
            have lg:=hx.2.lt
            have HBX:Hid (Blk w5 w2.heap.size TDf #[.int .i64 (j:Nat),.int .i64 (nn:Nat),.int .i64 (kd:Nat),.slice FB fm fd]):=((Blk.new w2 TDf _).alloc _).fr hg2 (fun e => by
              rw [List.mem_singleton] at e
              have:=ORow.lt HD2.out.own e.symm
              omega)
            have b0:w5.cell? ⟨w2.heap.size,0,none⟩ = some (.int .i64 (j:Nat)):=HBX.out.cell 0
            have b1:w5.cell? ⟨w2.heap.size,1,none⟩ = some (.int .i64 (nn:Nat)):=HBX.out.cell 1
            have hrb:¬ R = w2.heap.size:=by have:=HD2.out.rb.lt; omega
            have hrb2:¬ w2.heap.size = R:=fun e => hrb e.symm
            have lb5:=((HD2.out.lb.alloc (.cells #[.int .i64 (j:Nat),.int .i64 (nn:Nat),.int .i64 (kd:Nat),.slice FB fm fd] TDf)).alloc (.cells #[.int .i64 (j:Nat),.int .i64 (nn:Nat),.int .i64 (kd:Nat),.slice FB fm fd] TDf)).fr hg2 (fun e => by rw [List.mem_singleton] at e; have:=HD2.out.bn L e.symm; have:=HD2.out.ll; omega)
            have l0:w5.cell? ⟨L,0,none⟩ = some (.slice none 0 0):=lb5.cell 0
            have l1:w5.cell? ⟨L,1,none⟩ = some (.int .i64 0):=lb5.cell 1
            have y0:=lb5.frozen 0
            have y1:=lb5.frozen 1
            have ll:=lb5.lt
            have g1:w5.cell? ⟨R,1,none⟩ = some (.int .i64 0):=hx.2.cell 1
            have z1:=hx.2.frozen 1
            have hne:¬ R = L:=HD2.out.ne
            have hne2:¬ L = R:=fun e => hne e.symm
            have HEND:Hid (∀ e nx w',s[t]? ≠ some 44 → endP s t = (e,nx) → Fr [some R,some L] (w5.setCell ⟨R,0,none⟩ (.slice B2 (m + 1) d2)) w' → DRAns w s a (.returned (.tuple #[.agg #[.slice B2 (m + 1) d2,.int .i64 (e:Nat)],.int .i64 ((t + nx:Nat):Int)])) w'):=by
              show ∀ _,_
              intro e nx w' hc he hw
              exact HX.out.fin hc H0.out HRL.out.1 HRL.out.2 hw he
            clear hr2 hg2 hb2 hx lb5))
          refine bodyPost_ret (v:=.tuple #[.agg #[.slice B2 (m + 1) d2,.int .i64 2],.int .i64 (r:Nat)]) (by simp [results,Tryz.results106,go_sem, *]) rfl ?_
          have e9:=HC.out.2.2
          subst e9
          exact HEND.out 2 2 _ HC.out.1 HC.out.2.1 ((((Fr.refl [some R,some L] _).setB (fun _ => by simp) _ _).setB (fun _ => by simp) _ _).setB (fun _ => by simp) _ _)
        · have hd':s[t + 1]? ≠ some 10:=fun h => by rw [if_pos h] at hd; cases hd
          have HC:Hid (s[t]? ≠ some 44 ∧ endP s t = (3,1) ∧ t + 1 = q):=⟨by rw [hc]; decide,by unfold endP; rw [hc,if_neg (by decide),if_pos rfl,if_neg hd'],hq.symm⟩
          rcases Nat.lt_or_ge q s.length with h | h
          · have ql1:(q:Int) < (s.length:Int):=by omega
            have hi':q < (⟨s.toArray⟩:ByteArray).size:=by simpa [ByteArray.size] using h
            have hx2:¬ ((((⟨s.toArray⟩:ByteArray)[q]'hi').toNat:Nat):Int) = 10:=by
              intro e
              apply hd'
              rw [← hq,List.getElem?_eq_getElem h]
              congr 1
              have e2:((s[q].toNat:Nat):Int) = (((10:UInt8).toNat:Nat):Int):=e
              exact UInt8.toNat_inj.1 (by omega)
            clear hx hc hd hd' hr hq h
            have r0:(w2.alloc (.cells #[.int .i64 (j:Nat),.int .i64 (nn:Nat),.int .i64 (kd:Nat),.slice FB fm fd] TDf)).cell? ⟨R,0,none⟩ = some (.slice B m d):=(HD2.out.rb.alloc _).cell 0
            have r1:=World.block_lt_of_cell? _ _ r0
            clear hfm hfo hff hfn hnn hkd HFD
            go_wp2_with (at_builtin; go_must (
              refine wpList_app _ rfl _ _ 164 TDf rfl (Value.agg #[.int .i64 0,.int .i64 0,.int .i64 0,.slice none 0 0]) 4 48 Tryz.underlying164 infoDf rfl (by decide) B d m (dvc xs) rfl (ORow.fr HD2.out.own (((Fr.refl [] w2).alloc _).alloc _) (.inr List.not_mem_nil)) _ 1 1 [.int .i64 (j:Nat),.int .i64 (nn:Nat),.int .i64 (kd:Nat),.slice FB fm fd] rfl rfl (sl_df w2 _ _) (by simp [Value.oneCell']) (by have:=HM9.out; simp only [maxLen]; omega) (by have:=HM9.out; omega) ?_
              intro B2 d2 w5 hr2 hg2 hb2
              have hx:=(HD2.out.fr0 (((Fr.refl [] w2).alloc (.cells #[.int .i64 (j:Nat),.int .i64 (nn:Nat),.int .i64 (kd:Nat),.slice FB fm fd] TDf)).alloc (.cells #[.int .i64 (j:Nat),.int .i64 (nn:Nat),.int .i64 (kd:Nat),.slice FB fm fd] TDf))).field (t:=t) HT.out.1 (ORow.fr HFO.out.1 (((Fr.refl [] w2).alloc _).alloc _) (.inr List.not_mem_nil)) HFO.out.2.1 HFO.out.2.2 (by rw [HT.out.2.1,HT.out.2.2] at hr2; simpa [DV.cells,fieldP_a] using hr2) hg2 hb2
              have HX:=Lib.hid hx.1
              have g0:w5.cell? ⟨R,0,none⟩ = some (.slice B m d):=hx.2.cell 0
              have z0:=hx.2.frozen 0
              have lg:=hx.2.lt
              have HBX:Hid (Blk w5 w2.heap.size TDf #[.int .i64 (j:Nat),.int .i64 (nn:Nat),.int .i64 (kd:Nat),.slice FB fm fd]):=((Blk.new w2 TDf _).alloc _).fr hg2 (fun e => by
                rw [List.mem_singleton] at e
                have:=ORow.lt HD2.out.own e.symm
                omega)
              have b0:w5.cell? ⟨w2.heap.size,0,none⟩ = some (.int .i64 (j:Nat)):=HBX.out.cell 0
              have b1:w5.cell? ⟨w2.heap.size,1,none⟩ = some (.int .i64 (nn:Nat)):=HBX.out.cell 1
              have hrb:¬ R = w2.heap.size:=by have:=HD2.out.rb.lt; omega
              have hrb2:¬ w2.heap.size = R:=fun e => hrb e.symm
              have lb5:=((HD2.out.lb.alloc (.cells #[.int .i64 (j:Nat),.int .i64 (nn:Nat),.int .i64 (kd:Nat),.slice FB fm fd] TDf)).alloc (.cells #[.int .i64 (j:Nat),.int .i64 (nn:Nat),.int .i64 (kd:Nat),.slice FB fm fd] TDf)).fr hg2 (fun e => by rw [List.mem_singleton] at e; have:=HD2.out.bn L e.symm; have:=HD2.out.ll; omega)
              have l0:w5.cell? ⟨L,0,none⟩ = some (.slice none 0 0):=lb5.cell 0
              have l1:w5.cell? ⟨L,1,none⟩ = some (.int .i64 0):=lb5.cell 1
              have y0:=lb5.frozen 0
              have y1:=lb5.frozen 1
              have ll:=lb5.lt
              have g1:w5.cell? ⟨R,1,none⟩ = some (.int .i64 0):=hx.2.cell 1
              have z1:=hx.2.frozen 1
              have hne:¬ R = L:=HD2.out.ne
              have hne2:¬ L = R:=fun e => hne e.symm
              have HEND:Hid (∀ e nx w',s[t]? ≠ some 44 → endP s t = (e,nx) → Fr [some R,some L] (w5.setCell ⟨R,0,none⟩ (.slice B2 (m + 1) d2)) w' → DRAns w s a (.returned (.tuple #[.agg #[.slice B2 (m + 1) d2,.int .i64 (e:Nat)],.int .i64 ((t + nx:Nat):Int)])) w'):=by
                show ∀ _,_
                intro e nx w' hc he hw
                exact HX.out.fin hc H0.out HRL.out.1 HRL.out.2 hw he
              clear hr2 hg2 hb2 hx lb5))
            refine bodyPost_ret (v:=.tuple #[.agg #[.slice B2 (m + 1) d2,.int .i64 3],.int .i64 (q:Nat)]) (by simp [results,Tryz.results106,go_sem, *]) rfl ?_
            have e9:=HC.out.2.2
            subst e9
            exact HEND.out 3 1 _ HC.out.1 HC.out.2.1 ((((Fr.refl [some R,some L] _).setB (fun _ => by simp) _ _).setB (fun _ => by simp) _ _).setB (fun _ => by simp) _ _)
          · have ql1:¬ (q:Int) < (s.length:Int):=by omega
            clear hx hc hd hd' hr hq h
            have r0:(w2.alloc (.cells #[.int .i64 (j:Nat),.int .i64 (nn:Nat),.int .i64 (kd:Nat),.slice FB fm fd] TDf)).cell? ⟨R,0,none⟩ = some (.slice B m d):=(HD2.out.rb.alloc _).cell 0
            have r1:=World.block_lt_of_cell? _ _ r0
            clear hfm hfo hff hfn hnn hkd HFD
            go_wp2_with (at_builtin; go_must (
              refine wpList_app _ rfl _ _ 164 TDf rfl (Value.agg #[.int .i64 0,.int .i64 0,.int .i64 0,.slice none 0 0]) 4 48 Tryz.underlying164 infoDf rfl (by decide) B d m (dvc xs) rfl (ORow.fr HD2.out.own (((Fr.refl [] w2).alloc _).alloc _) (.inr List.not_mem_nil)) _ 1 1 [.int .i64 (j:Nat),.int .i64 (nn:Nat),.int .i64 (kd:Nat),.slice FB fm fd] rfl rfl (sl_df w2 _ _) (by simp [Value.oneCell']) (by have:=HM9.out; simp only [maxLen]; omega) (by have:=HM9.out; omega) ?_
              intro B2 d2 w5 hr2 hg2 hb2
              have hx:=(HD2.out.fr0 (((Fr.refl [] w2).alloc (.cells #[.int .i64 (j:Nat),.int .i64 (nn:Nat),.int .i64 (kd:Nat),.slice FB fm fd] TDf)).alloc (.cells #[.int .i64 (j:Nat),.int .i64 (nn:Nat),.int .i64 (kd:Nat),.slice FB fm fd] TDf))).field (t:=t) HT.out.1 (ORow.fr HFO.out.1 (((Fr.refl [] w2).alloc _).alloc _) (.inr List.not_mem_nil)) HFO.out.2.1 HFO.out.2.2 (by rw [HT.out.2.1,HT.out.2.2] at hr2; simpa [DV.cells,fieldP_a] using hr2) hg2 hb2
              have HX:=Lib.hid hx.1
              have g0:w5.cell? ⟨R,0,none⟩ = some (.slice B m d):=hx.2.cell 0
              have z0:=hx.2.frozen 0
              have lg:=hx.2.lt
              have HBX:Hid (Blk w5 w2.heap.size TDf #[.int .i64 (j:Nat),.int .i64 (nn:Nat),.int .i64 (kd:Nat),.slice FB fm fd]):=((Blk.new w2 TDf _).alloc _).fr hg2 (fun e => by
                rw [List.mem_singleton] at e
                have:=ORow.lt HD2.out.own e.symm
                omega)
              have b0:w5.cell? ⟨w2.heap.size,0,none⟩ = some (.int .i64 (j:Nat)):=HBX.out.cell 0
              have b1:w5.cell? ⟨w2.heap.size,1,none⟩ = some (.int .i64 (nn:Nat)):=HBX.out.cell 1
              have hrb:¬ R = w2.heap.size:=by have:=HD2.out.rb.lt; omega
              have hrb2:¬ w2.heap.size = R:=fun e => hrb e.symm
              have lb5:=((HD2.out.lb.alloc (.cells #[.int .i64 (j:Nat),.int .i64 (nn:Nat),.int .i64 (kd:Nat),.slice FB fm fd] TDf)).alloc (.cells #[.int .i64 (j:Nat),.int .i64 (nn:Nat),.int .i64 (kd:Nat),.slice FB fm fd] TDf)).fr hg2 (fun e => by rw [List.mem_singleton] at e; have:=HD2.out.bn L e.symm; have:=HD2.out.ll; omega)
              have l0:w5.cell? ⟨L,0,none⟩ = some (.slice none 0 0):=lb5.cell 0
              have l1:w5.cell? ⟨L,1,none⟩ = some (.int .i64 0):=lb5.cell 1
              have y0:=lb5.frozen 0
              have y1:=lb5.frozen 1
              have ll:=lb5.lt
              have g1:w5.cell? ⟨R,1,none⟩ = some (.int .i64 0):=hx.2.cell 1
              have z1:=hx.2.frozen 1
              have hne:¬ R = L:=HD2.out.ne
              have hne2:¬ L = R:=fun e => hne e.symm
              have HEND:Hid (∀ e nx w',s[t]? ≠ some 44 → endP s t = (e,nx) → Fr [some R,some L] (w5.setCell ⟨R,0,none⟩ (.slice B2 (m + 1) d2)) w' → DRAns w s a (.returned (.tuple #[.agg #[.slice B2 (m + 1) d2,.int .i64 (e:Nat)],.int .i64 ((t + nx:Nat):Int)])) w'):=by
                show ∀ _,_
                intro e nx w' hc he hw
                exact HX.out.fin hc H0.out HRL.out.1 HRL.out.2 hw he
              clear hr2 hg2 hb2 hx lb5))
            refine bodyPost_ret (v:=.tuple #[.agg #[.slice B2 (m + 1) d2,.int .i64 3],.int .i64 (q:Nat)]) (by simp [results,Tryz.results106,go_sem, *]) rfl ?_
            have e9:=HC.out.2.2
            subst e9
            exact HEND.out 3 1 _ HC.out.1 HC.out.2.1 ((((Fr.refl [some R,some L] _).setB (fun _ => by simp) _ _).setB (fun _ => by simp) _ _).setB (fun _ => by simp) _ _)
      · obtain ⟨hi,hx⟩:=byte_at hc
        have hx1:((((⟨s.toArray⟩:ByteArray)[t]'hi).toNat:Nat):Int) = 10:=hx
        have HC:Hid (s[t]? ≠ some 44 ∧ endP s t = (1,1) ∧ t + 1 = q):=⟨by rw [hc]; decide,by unfold endP; rw [hc,if_pos rfl],hq.symm⟩
        clear hx hc hr hq
        have r0:(w2.alloc (.cells #[.int .i64 (j:Nat),.int .i64 (nn:Nat),.int .i64 (kd:Nat),.slice FB fm fd] TDf)).cell? ⟨R,0,none⟩ = some (.slice B m d):=(HD2.out.rb.alloc _).cell 0
        have r1:=World.block_lt_of_cell? _ _ r0
        clear hfm hfo hff hfn hnn hkd HFD
        go_wp2_with (at_builtin; go_must (
          refine wpList_app _ rfl _ _ 164 TDf rfl (Value.agg #[.int .i64 0,.int .i64 0,.int .i64 0,.slice none 0 0]) 4 48 Tryz.underlying164 infoDf rfl (by decide) B d m (dvc xs) rfl (ORow.fr HD2.out.own (((Fr.refl [] w2).alloc _).alloc _) (.inr List.not_mem_nil)) _ 1 1 [.int .i64 (j:Nat),.int .i64 (nn:Nat),.int .i64 (kd:Nat),.slice FB fm fd] rfl rfl (sl_df w2 _ _) (by simp [Value.oneCell']) (by have:=HM9.out; simp only [maxLen]; omega) (by have:=HM9.out; omega) ?_
          intro B2 d2 w5 hr2 hg2 hb2
          have hx:=(HD2.out.fr0 (((Fr.refl [] w2).alloc (.cells #[.int .i64 (j:Nat),.int .i64 (nn:Nat),.int .i64 (kd:Nat),.slice FB fm fd] TDf)).alloc (.cells #[.int .i64 (j:Nat),.int .i64 (nn:Nat),.int .i64 (kd:Nat),.slice FB fm fd] TDf))).field (t:=t) HT.out.1 (ORow.fr HFO.out.1 (((Fr.refl [] w2).alloc _).alloc _) (.inr List.not_mem_nil)) HFO.out.2.1 HFO.out.2.2 (by rw [HT.out.2.1,HT.out.2.2] at hr2; simpa [DV.cells,fieldP_a] using hr2) hg2 hb2
          have HX:=Lib.hid hx.1
          have g0:w5.cell? ⟨R,0,none⟩ = some (.slice B m d):=hx.2.cell 0
          have z0:=hx.2.frozen 0
          have lg:=hx.2.lt
          have HBX:Hid (Blk w5 w2.heap.size TDf #[.int .i64 (j:Nat),.int .i64 (nn:Nat),.int .i64 (kd:Nat),.slice FB fm fd]):=((Blk.new w2 TDf _).alloc _).fr hg2 (fun e => by
            rw [List.mem_singleton] at e
            have:=ORow.lt HD2.out.own e.symm
            omega)
          have b0:w5.cell? ⟨w2.heap.size,0,none⟩ = some (.int .i64 (j:Nat)):=HBX.out.cell 0
          have b1:w5.cell? ⟨w2.heap.size,1,none⟩ = some (.int .i64 (nn:Nat)):=HBX.out.cell 1
          have hrb:¬ R = w2.heap.size:=by have:=HD2.out.rb.lt; omega
          have hrb2:¬ w2.heap.size = R:=fun e => hrb e.symm
          have lb5:=((HD2.out.lb.alloc (.cells #[.int .i64 (j:Nat),.int .i64 (nn:Nat),.int .i64 (kd:Nat),.slice FB fm fd] TDf)).alloc (.cells #[.int .i64 (j:Nat),.int .i64 (nn:Nat),.int .i64 (kd:Nat),.slice FB fm fd] TDf)).fr hg2 (fun e => by rw [List.mem_singleton] at e; have:=HD2.out.bn L e.symm; have:=HD2.out.ll; omega)
          have l0:w5.cell? ⟨L,0,none⟩ = some (.slice none 0 0):=lb5.cell 0
          have l1:w5.cell? ⟨L,1,none⟩ = some (.int .i64 0):=lb5.cell 1
          have y0:=lb5.frozen 0
          have y1:=lb5.frozen 1
          have ll:=lb5.lt
          have g1:w5.cell? ⟨R,1,none⟩ = some (.int .i64 0):=hx.2.cell 1
          have z1:=hx.2.frozen 1
          have hne:¬ R = L:=HD2.out.ne
          have hne2:¬ L = R:=fun e => hne e.symm
          have HEND:Hid (∀ e nx w',s[t]? ≠ some 44 → endP s t = (e,nx) → Fr [some R,some L] (w5.setCell ⟨R,0,none⟩ (.slice B2 (m + 1) d2)) w' → DRAns w s a (.returned (.tuple #[.agg #[.slice B2 (m + 1) d2,.int .i64 (e:Nat)],.int .i64 ((t + nx:Nat):Int)])) w'):=by
            show ∀ _,_
            intro e nx w' hc he hw
            exact HX.out.fin hc H0.out HRL.out.1 HRL.out.2 hw he
          clear hr2 hg2 hb2 hx lb5))
        refine bodyPost_ret (v:=.tuple #[.agg #[.slice B2 (m + 1) d2,.int .i64 1],.int .i64 (q:Nat)]) (by simp [results,Tryz.results106,go_sem, *]) rfl ?_
        have e9:=HC.out.2.2
        subst e9
        exact HEND.out 1 1 _ HC.out.1 HC.out.2.1 ((((Fr.refl [some R,some L] _).setB (fun _ => by simp) _ _).setB (fun _ => by simp) _ _).setB (fun _ => by simp) _ _)
    · have tl1:¬ (t:Int) < (s.length:Int):=by omega
      have tl2:(s.length:Int) ≤ (t:Int):=by omega
      have tl3:¬ (q:Int) < (s.length:Int):=by omega
      have HC:Hid (s[t]? ≠ some 44 ∧ endP s t = (0,0) ∧ t + 0 = t):=⟨by rw [List.getElem?_eq_none htl]; simp,by unfold endP; rw [List.getElem?_eq_none htl]; simp,rfl⟩
      clear hend htl hr hq
      have r0:(w2.alloc (.cells #[.int .i64 (j:Nat),.int .i64 (nn:Nat),.int .i64 (kd:Nat),.slice FB fm fd] TDf)).cell? ⟨R,0,none⟩ = some (.slice B m d):=(HD2.out.rb.alloc _).cell 0
      have r1:=World.block_lt_of_cell? _ _ r0
      clear hfm hfo hff hfn hnn hkd HFD
      go_wp2_with (at_builtin; go_must (
        refine wpList_app _ rfl _ _ 164 TDf rfl (Value.agg #[.int .i64 0,.int .i64 0,.int .i64 0,.slice none 0 0]) 4 48 Tryz.underlying164 infoDf rfl (by decide) B d m (dvc xs) rfl (ORow.fr HD2.out.own (((Fr.refl [] w2).alloc _).alloc _) (.inr List.not_mem_nil)) _ 1 1 [.int .i64 (j:Nat),.int .i64 (nn:Nat),.int .i64 (kd:Nat),.slice FB fm fd] rfl rfl (sl_df w2 _ _) (by simp [Value.oneCell']) (by have:=HM9.out; simp only [maxLen]; omega) (by have:=HM9.out; omega) ?_
        intro B2 d2 w5 hr2 hg2 hb2
        have hx:=(HD2.out.fr0 (((Fr.refl [] w2).alloc (.cells #[.int .i64 (j:Nat),.int .i64 (nn:Nat),.int .i64 (kd:Nat),.slice FB fm fd] TDf)).alloc (.cells #[.int .i64 (j:Nat),.int .i64 (nn:Nat),.int .i64 (kd:Nat),.slice FB fm fd] TDf))).field (t:=t) HT.out.1 (ORow.fr HFO.out.1 (((Fr.refl [] w2).alloc _).alloc _) (.inr List.not_mem_nil)) HFO.out.2.1 HFO.out.2.2 (by rw [HT.out.2.1,HT.out.2.2] at hr2; simpa [DV.cells,fieldP_a] using hr2) hg2 hb2
        have HX:=Lib.hid hx.1
        have g0:w5.cell? ⟨R,0,none⟩ = some (.slice B m d):=hx.2.cell 0
        have z0:=hx.2.frozen 0
        have lg:=hx.2.lt
        have HBX:Hid (Blk w5 w2.heap.size TDf #[.int .i64 (j:Nat),.int .i64 (nn:Nat),.int .i64 (kd:Nat),.slice FB fm fd]):=((Blk.new w2 TDf _).alloc _).fr hg2 (fun e => by
          rw [List.mem_singleton] at e
          have:=ORow.lt HD2.out.own e.symm
          omega)
        have b0:w5.cell? ⟨w2.heap.size,0,none⟩ = some (.int .i64 (j:Nat)):=HBX.out.cell 0
        have b1:w5.cell? ⟨w2.heap.size,1,none⟩ = some (.int .i64 (nn:Nat)):=HBX.out.cell 1
        have hrb:¬ R = w2.heap.size:=by have:=HD2.out.rb.lt; omega
        have hrb2:¬ w2.heap.size = R:=fun e => hrb e.symm
        have lb5:=((HD2.out.lb.alloc (.cells #[.int .i64 (j:Nat),.int .i64 (nn:Nat),.int .i64 (kd:Nat),.slice FB fm fd] TDf)).alloc (.cells #[.int .i64 (j:Nat),.int .i64 (nn:Nat),.int .i64 (kd:Nat),.slice FB fm fd] TDf)).fr hg2 (fun e => by rw [List.mem_singleton] at e; have:=HD2.out.bn L e.symm; have:=HD2.out.ll; omega)
        have l0:w5.cell? ⟨L,0,none⟩ = some (.slice none 0 0):=lb5.cell 0
        have l1:w5.cell? ⟨L,1,none⟩ = some (.int .i64 0):=lb5.cell 1
        have y0:=lb5.frozen 0
        have y1:=lb5.frozen 1
        have ll:=lb5.lt
        have g1:w5.cell? ⟨R,1,none⟩ = some (.int .i64 0):=hx.2.cell 1
        have z1:=hx.2.frozen 1
        have hne:¬ R = L:=HD2.out.ne
        have hne2:¬ L = R:=fun e => hne e.symm
        have HEND:Hid (∀ e nx w',s[t]? ≠ some 44 → endP s t = (e,nx) → Fr [some R,some L] (w5.setCell ⟨R,0,none⟩ (.slice B2 (m + 1) d2)) w' → DRAns w s a (.returned (.tuple #[.agg #[.slice B2 (m + 1) d2,.int .i64 (e:Nat)],.int .i64 ((t + nx:Nat):Int)])) w'):=by
          show ∀ _,_
          intro e nx w' hc he hw
          exact HX.out.fin hc H0.out HRL.out.1 HRL.out.2 hw he
        clear hr2 hg2 hb2 hx lb5))
      refine bodyPost_ret (v:=.tuple #[.agg #[.slice B2 (m + 1) d2,.int .i64 0],.int .i64 (t:Nat)]) (by simp [results,Tryz.results106,go_sem, *]) rfl ?_
      exact HEND.out 0 0 _ HC.out.1 HC.out.2.1 (((Fr.refl [some R,some L] _).setB (fun _ => by simp) _ _).setB (fun _ => by simp) _ _)
end Go.Proofs.YteohomdiklkbfaaGreat
