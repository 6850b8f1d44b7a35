import Derived.Test.YteohomdiklkbfaaGreatA24
import Derived.Test.YteohomdiklkbfaaGreatA11
namespace Go.Proofs.YteohomdiklkbfaaGreat
open Go.RowKit Go.Proofs.Dm

structure DL where
  B:Option Addr
  m:Nat
  d:Nat
  xs:List DV
  e:Nat
def DL.cells (x:DL):List Value:=[.slice x.B x.m x.d,.int .i64 (x.e:Nat)]
def DL.line (x:DL):LineP:=⟨x.xs.map DV.f,x.e⟩
def dlc (ls:List DL):List Value:=ls.flatMap DL.cells
theorem dlc_app (a b:List DL):dlc (a ++ b) = dlc a ++ dlc b:=by simp [dlc]
def DLAt (x:DL) (w:World):Prop:=Sl w x.B (dvc x.xs) ∧ x.m = x.xs.length ∧ ∀ y ∈ x.xs,y.ok w
def DAAns (E:List (Option Nat)) (w:World) (s:List UInt8) (e:Ending) (w':World):Prop :=
  ∃ (B:Option Addr) (m d:Nat) (ls:List DL),e = .returned (.slice B m d) ∧ m = ls.length ∧ ls.map DL.line = linesP s (s.length + 1) 0 ∧ Kp E w' (fun w => Sl w B (dlc ls) ∧ ∀ x ∈ ls,DLAt x w) ∧ Fr [] w w'
theorem infoDr:(Tryz.prog.info? TDr).map (fun i => (i.zero,i.size,i.bytes)) = some (some (Value.agg #[.slice none 0 0,.int .i64 0]),2,32):=by kernel_rfl
structure DA (E:List (Option Nat)) (w0 w:World) (s:List UInt8) (a k:Nat) (B:Option Addr) (d m:Nat) (ls:List DL):Prop where
  own:ORow w TDr 2 B d m (dlc ls)
  ln:m = ls.length
  ok:∀ x ∈ ls,Kp (bk B :: E) w (DLAt x)
  old:Old E w0
  fr:Fr [] w0 w
  bn:∀ j,bk B = some j → w0.heap.size ≤ j
  lq:ls.map DL.line ++ linesP s k a = linesP s (s.length + 1) 0
  fk:s.length ≤ a + k
  al:a ≤ s.length
  ll:ls.length ≤ a
section
variable {E:List (Option Nat)} {w0 w w':World} {a k d m:Nat} {B:Option Addr} {s:List UInt8} {ls:List DL}
theorem DA.step {w1 wa w5:World} {B1 B2:Option Addr} {m1 d1 d2:Nat} {xs:List DV} (h:DA E w0 w s a (k + 1) B d m ls) (ha:a < s.length)
    (hm:m1 = xs.length) (hx:xs.map DV.f = (lineP s a).1.fields) (hk:∀ E,Old E w → Kp E w1 (fun w => Sl w B1 (dvc xs) ∧ ∀ x ∈ xs,x.ok w)) (h6:Fr [] w w1) (hfa:Fr [] w1 wa)
    (hr5:ORow w5 TDr 2 B2 d2 (m + 1) (dlc ls ++ DL.cells ⟨B1,m1,d1,xs,(lineP s a).1.e⟩)) (hg5:Fr [bk B] wa w5) (hb5:bk B2 = bk B ∨ bk B2 = some wa.heap.size) :
    DA E w0 w5 s (lineP s a).2 k B2 d2 (m + 1) (ls ++ [⟨B1,m1,d1,xs,(lineP s a).1.e⟩]):=by
  have s0:=h.fr.size
  have s1:=h6.size
  have s2:=hfa.size
  have hO:Old (bk B :: E) w:=fun j hj => by
    rcases List.mem_cons.1 hj with hj | hj
    · exact ORow.lt h.own hj.symm
    · have:=h.old j hj; omega
  have f15:Fr (bk B :: E) w1 w5:=hfa.of_nil.trans (hg5.weaken fun i _ h => by rw [List.mem_singleton] at h; rw [h]; exact List.mem_cons_self ..)
  have f1:Fr (bk B :: E) w w5:=h6.of_nil.trans f15
  have hgE:∀ j,some j ∈ bk B2 :: E → some j ∈ bk B :: E ∨ wa.heap.size ≤ j:=fun j e => by
    rcases List.mem_cons.1 e with e | e
    · rcases hb5 with h5 | h5
      · exact .inl (by rw [e,h5]; exact List.mem_cons_self ..)
      · rw [h5] at e; injection e with e; exact .inr (by omega)
    · exact .inl (List.mem_cons_of_mem _ e)
  obtain ⟨p1,p2⟩:=lineP_gt s a ha
  refine ⟨by rw [dlc_app]; simpa [dlc] using hr5,by rw [List.length_append,h.ln]; rfl,?_,h.old,?_,?_,?_,by have:=h.fk; omega,p2,by have:=h.ll; rw [List.length_append,List.length_singleton]; omega⟩
  · intro x hx'
    rcases List.mem_append.1 hx' with hx' | hx'
    · exact (h.ok x hx').grow f1 fun j hj => (hgE j hj).imp_right fun h => by omega
    · rw [List.mem_singleton] at hx'
      subst hx'
      have hnew:Kp (bk B :: E) w1 (DLAt ⟨B1,m1,d1,xs,(lineP s a).1.e⟩):=fun w'' hf => ⟨((hk _ hO) w'' hf).1,hm,((hk _ hO) w'' hf).2⟩
      exact hnew.grow f15 fun j hj => (hgE j hj).imp_right fun h => by omega
  · exact ((h.fr.trans h6).trans hfa).seq hg5 fun x hx => by
      rw [List.mem_singleton] at hx
      subst hx
      cases hb:bk B with
      | none => exact .inr (.inl rfl)
      | some j => exact .inr (.inr ⟨j,h.bn j hb,rfl⟩)
  · intro j hj
    rcases hb5 with h5 | h5
    · exact h.bn j (h5 ▸ hj)
    · rw [h5] at hj; injection hj with hj; omega
  · have:=h.lq
    rw [show linesP s (k + 1) a = (lineP s a).1 :: linesP s k (lineP s a).2 by show (if a < s.length then _ else _) = _; rw [if_pos ha]] at this
    rw [← this,List.map_append,List.append_assoc]
    congr 1
    show DL.line _ :: _ = _
    congr 1
    show (⟨_,_⟩:LineP) = _
    rw [hx]
theorem DA.fin (h:DA E w0 w s a k B d m ls) (he:s.length ≤ a):DAAns E w0 s (.returned (.slice B m d)) w:=by
  have hl:=h.lq
  have e:linesP s k a = []:=by cases k <;> simp [linesP]; omega
  rw [e,List.append_nil] at hl
  exact ⟨B,m,d,ls,rfl,h.ln,hl,fun w'' hf => ⟨(Kp.sl (ORow.sl h.own) (h.old.newA h.bn)) w'' hf,fun x hx => (h.ok x hx) w'' (hf.weaken fun _ _ h => List.mem_cons_of_mem _ h)⟩,h.fr⟩
end
theorem sl_dr (w:World) (o:Obj) (us:Array Value):Sl ((w.alloc o).alloc (.cells us TDr)) (some ⟨w.heap.size + 1,0,none⟩) us.toList:=by
  have:=blk_sl (cs:=us.toList) (Blk.new (w.alloc o) TDr us) us.toList.length
  rw [List.take_length] at this
  simpa using this
set_option maxRecDepth 100000 in
set_option maxHeartbeats 1600000 in
theorem dall_any (E:List (Option Nat)) (w:World) (s:List UInt8) (hE:Old E w) (hn:s.length ≤ 1000000) :
    Calls Tryz.prog 85 #[.string ⟨s.toArray⟩] w (DAAns E w s):=by
  have HN:=Lib.hid hn
  have n3:(s.length:Int) ≤ 1000000:=by omega
  have HST:Hid (DA E w w s 0 (s.length + 1) none 0 0 []):=⟨ORow.nil_ _ _ _,rfl,fun x hx => by simp at hx,hE,Fr.refl _ _,fun j hj => (by cases hj),rfl,by omega,Nat.zero_le _,Nat.zero_le _⟩
  clear hn hE
  go_enter Tryz.func85,Tryz.ntmps85
  go_wp2_with fail
  go_loopg [4,3] (s.length + 1) (fun k av ov wr => ∃ (k' a m d:Nat) (B:Option Addr) (ls:List DL),k' = k ∧ av = .int .i64 a ∧ ov = .slice B m d ∧ Hid (DA E w wr s a k' B d m ls))
  case atStart => exact ⟨_,0,0,0,none,[],rfl,rfl,rfl,HST.out⟩
  case round =>
    clear HST
    obtain ⟨k',a,m,d,B,ls,hkk',rfl,rfl,HD⟩:=hrel
    rcases Nat.lt_or_ge a s.length with hlt | hge
    · obtain ⟨k2,hk2⟩:∃ k2,k' = k2 + 1:=⟨k' - 1,by have:=HD.out.fk; omega⟩
      subst hk2
      have a1:(a:Int) < (s.length:Int):=by omega
      have HM9:Hid (m ≤ 1000000):=by show _ ≤ _; have:=HD.out.ll; have:=HD.out.ln; have:=HN.out; omega
      have hon:=done_one s a wr hlt HN.out
      have HON:=Lib.hid hon
      have HLT:=Lib.hid hlt
      obtain ⟨le,hle⟩:∃ le,le = (lineP s a).1.e:=⟨_,rfl⟩
      obtain ⟨nx,hnx⟩:∃ nx,nx = (lineP s a).2:=⟨_,rfl⟩
      have HLN:Hid (le = (lineP s a).1.e ∧ nx = (lineP s a).2):=⟨hle,hnx⟩
      clear hon hlt
      go_wp2_with fail
      refine HON.out.mono ?_
      rintro e w1 ⟨B1,m1,d1,xs,rfl,hm1,hx1,hk1,hf1⟩
      rw [← hle,← hnx]
      have HK:Hid (m1 = xs.length ∧ xs.map DV.f = (lineP s a).1.fields ∧ (∀ E,Old E wr → Kp E w1 (fun w => Sl w B1 (dvc xs) ∧ ∀ x ∈ xs,x.ok w)) ∧ Fr [] wr w1):=⟨hm1,hx1,hk1,hf1⟩
      clear hm1 hx1 hk1 hf1 hle hnx HON
      go_wp2_with (at_builtin; go_must (
        refine wpList_app _ rfl _ _ 162 TDr rfl (Value.agg #[.slice none 0 0,.int .i64 0]) 2 32 Tryz.underlying162 infoDr rfl (by decide) B d m (dlc ls) rfl (ORow.fr HD.out.own (((HK.out.2.2.2).alloc _).alloc _) (.inr List.not_mem_nil)) _ 1 1 [.slice B1 m1 d1,.int .i64 (le:Nat)] rfl rfl (sl_dr w1 _ _) (by simp [Value.oneCell']) (by have:=HM9.out; simp only [maxLen]; omega) (by have:=HM9.out; omega) ?_
        intro B2 d2 w5 hr2 hg2 hb2
        have hx:=HD.out.step (d1:=d1) HLT.out HK.out.1 HK.out.2.1 HK.out.2.2.1 HK.out.2.2.2 (((Fr.refl [] w1).alloc _).alloc _) (by rw [← HLN.out.1]; simpa [DL.cells] using hr2) hg2 hb2
        rw [← HLN.out.2,← HLN.out.1] at hx
        have HX:=Lib.hid hx
        clear hr2 hg2 hb2 hx))
      go_roundg k2
      case rel => exact ⟨k2,nx,m + 1,d2,B2,_,rfl,rfl,by simp,HX.out⟩
      case measure => omega
    · have a1:¬ (a:Int) < (s.length:Int):=by omega
      have HE:Hid (DAAns E w s (.returned (.slice B m d)) wr):=HD.out.fin hge
      clear hge
      go_wp2_with fail
      go_ret
      exact HE.out
end Go.Proofs.YteohomdiklkbfaaGreat
namespace Go.Proofs.YteohomdiklkbfaaGreat
open Go.RowKit Go.Proofs.Dm

theorem sl_nats {w:World} {A:Option Addr} {l:List Nat} (h:Sl w A (nats l)) {j:Nat} (hj:j < l.length):∃ ad,A = some ad ∧ w.cell? (ad.add j) = some (.int .i64 (l[j]:Nat)):=by
  rcases h with h | ⟨ad,rfl,hc⟩
  · have:=congrArg List.length h
    simp [nats] at this
    subst this
    simp at hj
  · exact ⟨ad,rfl,hc j _ (by simp [nats,hj])⟩
theorem str_step (o s:List UInt8) (i:Nat) (h:i < s.length):(⟨o.toArray⟩:ByteArray) ++ (⟨s.toArray⟩:ByteArray).extract i (i + 1) = ⟨(o ++ [s[i]]).toArray⟩:=by
  apply ByteArray.ext
  rw [ByteArray.data_append,ByteArray.data_extract]
  apply Array.ext'
  simp
  rw [List.drop_eq_getElem_cons h]
  rfl
theorem str_cut (s:List UInt8) (a b:Nat):(⟨s.toArray⟩:ByteArray).extract a b = ⟨((s.take b).drop a).toArray⟩:=by
  apply ByteArray.ext
  rw [ByteArray.data_extract]
  apply Array.ext'
  simp [List.drop_take]
set_option maxRecDepth 100000 in
set_option maxHeartbeats 800000 in
theorem dtext_any (w:World) (s:List UInt8) (A:Option Addr) (m c:Nat) (l:List Nat) (hA:Sl w A (nats l)) (hm:m = l.length) (hl:∀ i ∈ l,i < s.length) (hn:s.length ≤ 1000000) (hm2:m ≤ 1000000) :
    Calls Tryz.prog 107 #[.string ⟨s.toArray⟩,.slice A m c] w fun e w' => e = .returned (.string ⟨(atP s l).toArray⟩) ∧ w = w':=by
  have HA:=Lib.hid hA
  have HM:=Lib.hid hm
  have HL:=Lib.hid hl
  have HN:=Lib.hid hn
  have m1:(m:Int) ≤ 1000000:=by omega
  clear hA hm hl hn hm2
  go_enter Tryz.func107,Tryz.ntmps107
  go_wp2_with fail
  go_loopw [10,5] (fun iv ov wr => ∃ (j:Nat) (o:List UInt8),iv = .int .i64 j ∧ ov = .string ⟨o.toArray⟩ ∧ w = wr ∧ j ≤ m ∧ Hid (o = atP s (l.take j))) (fun iv _ _ => m - (intOf iv).toNat)
  case atStart => exact ⟨0,[],rfl,rfl,rfl,Nat.zero_le _,rfl⟩
  case round =>
    obtain ⟨j,o,rfl,rfl,rfl,hj,HO⟩:=hrel
    by_cases hlt:j < m
    · have hjl:j < l.length:=by rw [← HM.out]; exact hlt
      obtain ⟨ad,rfl,hc⟩:=sl_nats HA.out hjl
      obtain ⟨i,hi⟩:∃ i,i = l[j]:=⟨_,rfl⟩
      rw [← hi] at hc
      have his:i < s.length:=by rw [hi]; exact HL.out _ (List.getElem_mem hjl)
      obtain ⟨q,hq⟩:∃ q,q = i + 1:=⟨_,rfl⟩
      have q1:(i:Int) + 1 = (q:Int):=by omega
      have q2:(q:Int) ≤ (s.length:Int):=by omega
      have q3:(i:Int) ≤ (q:Int):=by omega
      have q4:(q:Int) ≤ 1000000:=by have:=HN.out; omega
      have HI:Hid (i = l[j] ∧ q = i + 1 ∧ i < s.length):=⟨hi,hq,his⟩
      clear hi hq his
      have hnb:¬ 9223372036854775807 < o.length + (min q s.length - i):=by
        have h1:=congrArg List.length HO.out
        rw [atP_len,List.length_take] at h1
        have:=HI.out
        omega
      go_wp2_with fail
      have HX:Hid ((⟨o.toArray⟩:ByteArray) ++ (⟨s.toArray⟩:ByteArray).extract i q = ⟨(o ++ [s.getD i 0]).toArray⟩ ∧ o ++ [s.getD i 0] = atP s (l.take (j + 1))):=by
        obtain ⟨h1,h2,h3⟩:=HI.out
        have hg:s.getD i 0 = s[i]:=by rw [List.getD_eq_getElem?_getD,List.getElem?_eq_getElem h3]; rfl
        refine ⟨by rw [h2,str_step o s i h3,hg],?_⟩
        rw [List.take_succ_eq_append_getElem hjl,atP_app,HO.out,h1]
        rfl
      go_roundw
      case rel => exact ⟨j + 1,o ++ [s.getD i 0],by go_num,by rw [HX.out.1],trivial,by omega,HX.out.2⟩
      case measure => simp [intOf]; omega
    · obtain rfl:j = m:=by omega
      have HE:Hid (o = atP s l):=by
        have h:=HO.out
        rw [HM.out,List.take_length] at h
        exact h
      go_wp2_with fail
      go_ret
      exact ⟨by rw [HE.out]; rfl,rfl⟩
end Go.Proofs.YteohomdiklkbfaaGreat
