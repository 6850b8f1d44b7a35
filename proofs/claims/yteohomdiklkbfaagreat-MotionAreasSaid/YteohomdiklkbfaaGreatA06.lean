import Derived.Test.YteohomdiklkbfaaGreatA05
import Derived.Deep.RegionLaw
namespace Go.Proofs.YteohomdiklkbfaaGreat
open Go.RowKit Go.Proofs.Dm

abbrev TRw:TypeId:=136
def RowScan (w:World) (g c a:Nat) (A:Option Addr) (s:List UInt8) (e:Ending) (w':World):Prop :=
  ∃ (B:Option Addr) (m d:Nat) (xs:List FV),e = .returned (.agg #[.slice B m d,.int .i64 ((lineP s a).1.e:Nat)]) ∧ m = xs.length ∧ ORow w' TFd 4 B d xs.length (fvc xs) ∧ xs.map FV.f = (lineP s a).1.fields ∧ (∀ x ∈ xs,x.ok s.length w') ∧
    RdAt w' g A c s (lineP s a).2 ∧ Fr [some g] w w' ∧ (∀ j,bk B = some j → w.heap.size ≤ j) ∧ ∀ x ∈ xs,∀ j,bk x.B = some j → w.heap.size ≤ j
theorem infoFd:(Tryz.prog.info? TFd).map (fun i => (i.zero,i.size,i.bytes)) = some (some (Value.agg #[.int .i64 0,.int .i64 0,.int .i64 0,.slice none 0 0]),4,48):=by kernel_rfl
theorem ORow.neB {w:World} {e1 t:TypeId} {z c n R:Nat} {A:Option Addr} {cs:List Value} {us:Array Value} (h:ORow w e1 z A c n cs) (hb:Blk w R t us) (he:e1 ≠ t):bk A = none ∨ bk A ≠ some R:=by
  rcases h.2 with ⟨h,_⟩ | ⟨g1,k1,r1,h,_,hg1,_⟩
  · injection h with h; subst h; exact .inl rfl
  · injection h with h
    subst h
    refine .inr fun e => ?_
    simp only [bk,Option.map_some,Option.some.injEq] at e
    subst e
    unfold Blk at hb
    rw [hg1] at hb
    injection hb with hb
    injection hb with _ hb _
    exact he hb
structure RS (w0 w:World) (g L R c:Nat) (A:Option Addr) (s:List UInt8) (a k t:Nat) (B:Option Addr) (d:Nat) (xs:List FV):Prop where
  rd:RdAt w g A c s t
  row:Blk w R TRw #[.slice B xs.length d,.int .i64 0]
  own:ORow w TFd 4 B d xs.length (fvc xs)
  ok:∀ x ∈ xs,x.ok s.length w
  res:Blk w L TRw #[.slice none 0 0,.int .i64 0]
  fr:Fr [some g] w0 w
  kp:Kp [some g] w0 (fun w => Sl w A (bts s))
  gl:g < w0.heap.size
  ln:w0.heap.size ≤ L
  rn:w0.heap.size ≤ R
  lr:L ≠ R
  bn:∀ j,bk B = some j → w0.heap.size ≤ j
  xn:∀ x ∈ xs,∀ j,bk x.B = some j → w0.heap.size ≤ j
  fs:xs.map FV.f ++ restF s k t = (lineP s a).1.fields
  fe:restE s k t = fendP s (s.length + 1 - a) a
  fk:s.length ≤ t + k
  tl:t ≤ s.length
  xl:xs.length ≤ t + 1
theorem newA_g {w0:World} {g:Nat} {A:Option Addr} (hg:g < w0.heap.size) (h:∀ j,bk A = some j → w0.heap.size ≤ j):bk A = none ∨ bk A ∉ [some g]:=by
  cases hb:bk A with
  | none => exact .inl rfl
  | some j =>
    refine .inr fun e => ?_
    rw [List.mem_singleton] at e
    injection e with e
    have:=h j hb
    omega
section
variable {w0 w w':World} {g L R c a k t d:Nat} {A B:Option Addr} {s:List UInt8} {xs:List FV}
theorem RS.turn (h:RS w0 w g L R c A s a k t B d xs) (hf:Fr [some g] w w') (hr:RdAt w' g A c s t):RS w0 w' g L R c A s a k t B d xs:=by
  have nb:∀ b,w0.heap.size ≤ b → some b ∉ [some g]:=fun b hb e => by
    rw [List.mem_singleton] at e
    injection e with e
    have:=h.gl
    omega
  exact ⟨hr,h.row.fr hf (nb R h.rn),ORow.fr h.own hf (newA_g h.gl h.bn),fun x hx => (h.ok x hx).fr hf (newA_g h.gl (h.xn x hx)),h.res.fr hf (nb L h.ln),h.fr.trans hf,h.kp,h.gl,h.ln,h.rn,h.lr,h.bn,h.xn,h.fs,h.fe,h.fk,h.tl,h.xl⟩
theorem RS.fr0 (h:RS w0 w g L R c A s a k t B d xs) (hf:Fr [] w w'):RS w0 w' g L R c A s a k t B d xs:=h.turn hf.of_nil (h.rd.fr0 hf)
theorem two_ne {L R:Nat} {A:Option Addr} (h1:bk A = none ∨ bk A ≠ some L) (h2:bk A = none ∨ bk A ≠ some R):bk A = none ∨ bk A ∉ [some L,some R]:=by
  rcases h1 with h1 | h1
  · exact .inl h1
  · rcases h2 with h2 | h2
    · exact .inl h2
    · refine .inr fun e => ?_
      rcases List.mem_cons.1 e with e | e
      · exact h1 e
      · exact h2 (List.mem_singleton.1 e)
theorem RS.fin {w3 wf:World} {n:Nat} (h:RS w0 w g L R c A s a k t B d xs) (hno:s[t]? ≠ some 44) (hr3:RdAt w3 g A c s (t + (endP s t).2)) (hf3:Fr [some g] w w3) (hw:Fr [some L,some R] w3 wf) (hn:n = xs.length) :
    RowScan w0 g c a A s (.returned (.agg #[.slice B n d,.int .i64 ((endP s t).1:Nat)])) wf:=by
  obtain ⟨q1,q2⟩:=rest_stop s k t hno
  have hfs:=h.fs
  rw [q1,List.append_nil] at hfs
  have hfe:=h.fe
  rw [q2] at hfe
  have e1:(lineP s a).1.e = (endP s t).1:=by
    show (endP s (fendP s (s.length + 1 - a) a)).1 = _
    rw [← hfe]
  have e2:(lineP s a).2 = t + (endP s t).2:=by
    show fendP s (s.length + 1 - a) a + (endP s (fendP s (s.length + 1 - a) a)).2 = _
    rw [← hfe]
  have hL:=h.ln
  have hR:=h.rn
  have hg:=h.gl
  have nb:∀ b,w0.heap.size ≤ b → some b ∉ [some g]:=fun b hb e => by
    rw [List.mem_singleton] at e
    injection e with e
    omega
  have hgn:some g ∉ [some L,some R]:=fun e => by
    rcases List.mem_cons.1 e with e | e
    · injection e with e; omega
    · rw [List.mem_singleton] at e; injection e with e; omega
  have hall:Fr [some g] w0 wf:=(h.fr.trans hf3).seq hw fun x hx => by
    rcases List.mem_cons.1 hx with rfl | hx
    · exact .inr (.inr ⟨L,hL,rfl⟩)
    · exact .inr (.inr ⟨R,hR,List.mem_singleton.1 hx⟩)
  have own3:=ORow.fr h.own hf3 (newA_g h.gl h.bn)
  have row3:=h.row.fr hf3 (nb R hR)
  have res3:=h.res.fr hf3 (nb L hL)
  refine ⟨B,n,d,xs,by rw [e1],hn,ORow.fr own3 hw (two_ne (ORow.neB own3 res3 (by decide)) (ORow.neB own3 row3 (by decide))),hfs,fun x hx => ?_,?_,hall,h.bn,h.xn⟩
  · have ok3:=(h.ok x hx).fr hf3 (newA_g h.gl (h.xn x hx))
    exact ok3.fr hw (two_ne (ORow.neB ok3.1 res3 (by decide)) (ORow.neB ok3.1 row3 (by decide)))
  · rw [e2]
    exact hr3.frS hw hgn (h.kp.fr hall)
theorem RS.step {w3 w4 wa w5:World} {d1 d2:Nat} {B1 B2:Option Addr} {sp1:List (Nat × Nat)} (h:RS w0 w g L R c A s a (k + 1) t B d xs) (hc:s[t]? = some 44) (h3:Fr [some g] w w3) (hf4:Fr [some g] w3 w4) (hr:ORow w4 TSp 2 B1 d1 sp1.length (spc sp1)) (hp:plc sp1 = (fieldP s (t + 1)).places) (hbd:∀ x ∈ sp1,1 ≤ x.2 ∧ x.1 + x.2 ≤ s.length)
    (hrd:RdAt w4 g A c s (t + 1 + (fieldP s (t + 1)).n)) (hn:∀ j,bk B1 = some j → w3.heap.size ≤ j) (hfa:Fr [] w4 wa) (hr5:ORow w5 TFd 4 B2 d2 (xs.length + 1) (fvc xs ++ FV.cells ⟨fieldP s (t + 1),B1,d1,sp1⟩)) (hg5:Fr [bk B] wa w5) (hb5:bk B2 = bk B ∨ bk B2 = some wa.heap.size) :
    RS w0 (w5.setCell ⟨R,0,none⟩ (.slice B2 (xs.length + 1) d2)) g L R c A s a k (t + 1 + (fieldP s (t + 1)).n) B2 d2 (xs ++ [⟨fieldP s (t + 1),B1,d1,sp1⟩]):=by
  have hL:=h.ln
  have hR:=h.rn
  have hg:=h.gl
  have s0:=h.fr.size
  have s1:=h3.size
  have s2:=hf4.size
  have s3:=hfa.size
  have htl:t < s.length:=by
    rcases Nat.lt_or_ge t s.length with h | h
    · exact h
    · rw [List.getElem?_eq_none h] at hc; cases hc
  have nb:∀ b,w0.heap.size ≤ b → some b ∉ [some g]:=fun b hb e => by
    rw [List.mem_singleton] at e
    injection e with e
    omega
  have hF:=h3.trans hf4
  have ow4:=ORow.fr h.own hF (newA_g h.gl h.bn)
  have row4:=h.row.fr hF (nb R hR)
  have res4:=h.res.fr hF (nb L hL)
  have owa:=ORow.fr ow4 hfa (.inr List.not_mem_nil)
  have rowa:=row4.fr hfa (by simp)
  have resa:=res4.fr hfa (by simp)
  have nB:∀ {b:Nat} {us:Array Value},Blk wa b TRw us → some b ∉ [bk B]:=fun hb e => by
    rw [List.mem_singleton] at e
    rcases ORow.neB owa hb (by decide) with h | h
    · rw [h] at e; cases e
    · exact h e.symm
  have row5:=rowa.fr hg5 (nB rowa)
  have res5:=resa.fr hg5 (nB resa)
  have gB:some g ∉ [bk B]:=fun e => by
    rw [List.mem_singleton] at e
    have:=h.bn g e.symm
    omega
  have hB2:∀ j,bk B2 = some j → w0.heap.size ≤ j:=fun j hj => by
    rcases hb5 with h5 | h5
    · exact h.bn j (h5 ▸ hj)
    · rw [h5] at hj; injection hj with hj; omega
  have f5:Fr [some g] w0 w5:=(((h.fr.trans hF).trans hfa.of_nil)).seq hg5 fun x hx => by
    rw [List.mem_singleton] at hx
    subst hx
    cases hbb:bk B with
    | none => exact .inr (.inl rfl)
    | some j => exact .inr (.inr ⟨j,h.bn j hbb,rfl⟩)
  have hset:Fr [some R] w5 (w5.setCell ⟨R,0,none⟩ (.slice B2 (xs.length + 1) d2)):=(Fr.refl _ w5).setB (by simp) 0 _
  have f6:Fr [some g] w0 (w5.setCell ⟨R,0,none⟩ (.slice B2 (xs.length + 1) d2)):=f5.setB (fun hlt => absurd hlt (by omega)) 0 _
  have ne1:∀ {A1:Option Addr},(bk A1 = none ∨ bk A1 ≠ some R) → bk A1 = none ∨ bk A1 ∉ [some R]:=fun h => by
    rcases h with h | h
    · exact .inl h
    · exact .inr (by rw [List.mem_singleton]; exact h)
  have hx5:∀ x:FV,x.ok s.length w4 → x.ok s.length (w5.setCell ⟨R,0,none⟩ (.slice B2 (xs.length + 1) d2)):=fun x hx => by
    have k5:=(hx.fr hfa (.inr List.not_mem_nil)).grown owa hg5
    exact k5.fr hset (ne1 (ORow.neB k5.1 row5 (by decide)))
  have gR:some g ∉ [some R]:=fun e => by rw [List.mem_singleton] at e; injection e with e; omega
  have LR:some L ∉ [some R]:=fun e => by rw [List.mem_singleton] at e; injection e with e; exact h.lr e
  obtain ⟨q1,q2⟩:=rest_more s k t hc
  have hfs:=h.fs
  have hfe:=h.fe
  have hfk:=h.fk
  rw [q1] at hfs
  rw [q2] at hfe
  have hlen:(xs ++ [(⟨fieldP s (t + 1),B1,d1,sp1⟩:FV)]).length = xs.length + 1:=by simp
  refine ⟨((hrd.fr0 hfa).frS hg5 gB (h.kp.fr f5)).frS hset gR (h.kp.fr f6),?_,?_,?_,res5.fr hset LR,f6,h.kp,h.gl,h.ln,h.rn,h.lr,hB2,?_,?_,hfe,by omega,fieldP_bd s (t + 1) htl,by have:=h.xl; rw [hlen]; omega⟩
  · rw [hlen]
    exact row5.set_ 0 _
  · rw [hlen]
    refine ORow.fr ?_ hset (ne1 (ORow.neB hr5 row5 (by decide)))
    have e:fvc (xs ++ [(⟨fieldP s (t + 1),B1,d1,sp1⟩:FV)]) = fvc xs ++ FV.cells ⟨fieldP s (t + 1),B1,d1,sp1⟩:=by simp [fvc]
    rw [e]
    exact hr5
  · intro x hx
    rcases List.mem_append.1 hx with hx | hx
    · exact hx5 x ((h.ok x hx).fr hF (newA_g h.gl (h.xn x hx)))
    · rw [List.mem_singleton] at hx
      subst hx
      exact hx5 _ ⟨hr,hp,hbd⟩
  · intro x hx j hj
    rcases List.mem_append.1 hx with hx | hx
    · exact h.xn x hx j hj
    · rw [List.mem_singleton] at hx
      subst hx
      have:=hn j hj
      omega
  · rw [← hfs]
    simp
theorem RS.start {w1:World} {m:Nat} {sp:List (Nat × Nat)} (h:RdAt w g A c s a) (ha:a ≤ s.length) (hf1:Fr [some g] (w.alloc (.cells #[.slice none 0 0,.int .i64 0] TRw)) w1) (hm:m = sp.length) (hr:ORow w1 TSp 2 B d sp.length (spc sp)) (hp:plc sp = (fieldP s a).places) (hbd:∀ x ∈ sp,1 ≤ x.2 ∧ x.1 + x.2 ≤ s.length)
    (hrd:RdAt w1 g A c s (a + (fieldP s a).n)) (hn:∀ j,bk B = some j → (w.alloc (.cells #[.slice none 0 0,.int .i64 0] TRw)).heap.size ≤ j) :
    RS w ((w1.alloc (.cells #[.int .i64 (a:Nat),.int .i64 ((fieldP s a).n:Nat),.int .i64 ((fieldP s a).kind:Nat),.slice B m d] TFd)).alloc (.cells #[.slice (some ⟨w1.heap.size,0,none⟩) 1 1,.int .i64 0] TRw)) g w.heap.size (w1.heap.size + 1) c A s a (s.length - a) (a + (fieldP s a).n) (some ⟨w1.heap.size,0,none⟩) 1 [⟨fieldP s a,B,d,sp⟩]:=by
  subst hm
  have hs0:(w.alloc (.cells #[.slice none 0 0,.int .i64 0] TRw)).heap.size = w.heap.size + 1:=by simp
  have hs1:=hf1.size
  rw [hs0] at hs1 hn
  have hg:=h.1.lt
  have hfr:Fr [some g] w w1:=((Fr.refl [] w).alloc _).of_nil.trans hf1
  have b1:=Blk.new w1 TFd #[.int .i64 (a:Nat),.int .i64 ((fieldP s a).n:Nat),.int .i64 ((fieldP s a).kind:Nat),.slice B sp.length d]
  have b2:=Blk.new (w1.alloc (.cells #[.int .i64 (a:Nat),.int .i64 ((fieldP s a).n:Nat),.int .i64 ((fieldP s a).kind:Nat),.slice B sp.length d] TFd)) TRw #[.slice (some ⟨w1.heap.size,0,none⟩) 1 1,.int .i64 0]
  rw [show (w1.alloc (.cells #[.int .i64 (a:Nat),.int .i64 ((fieldP s a).n:Nat),.int .i64 ((fieldP s a).kind:Nat),.slice B sp.length d] TFd)).heap.size = w1.heap.size + 1 by simp] at b2
  have hk:s.length + 1 - a = (s.length - a) + 1:=by omega
  refine ⟨(hrd.fr0 ((Fr.refl [] _).alloc _)).fr0 ((Fr.refl [] _).alloc _),b2,⟨rfl,.inr ⟨_,1,_,rfl,Nat.zero_le _,b1.alloc _,Nat.le_refl _,by decide,rfl,by simp [fvc,FV.cells,fieldP_a]⟩⟩,?_,?_,(hfr.alloc _).alloc _,h.2,hg,Nat.le_refl _,by omega,by omega,?_,?_,?_,?_,?_,fieldP_bd s a ha,Nat.le_add_left 1 _⟩
  · intro x hx
    rw [List.mem_singleton] at hx
    subst hx
    exact ⟨ORow.fr (ORow.fr hr ((Fr.refl [] _).alloc _) (.inr List.not_mem_nil)) ((Fr.refl [] _).alloc _) (.inr List.not_mem_nil),hp,hbd⟩
  · exact (((Blk.new w TRw #[.slice none 0 0,.int .i64 0]).fr hf1 (fun e => by rw [List.mem_singleton] at e; injection e with e; omega)).alloc _).alloc _
  · intro j hj
    injection hj with hj
    show w.heap.size ≤ j
    have:w1.heap.size = j:=hj
    omega
  · intro x hx j hj
    rw [List.mem_singleton] at hx
    subst hx
    have:=hn j hj
    omega
  · show _ = fieldsP s (s.length + 1 - a) a
    rw [hk]
    rfl
  · rw [hk]
    rfl
  · omega
end
end Go.Proofs.YteohomdiklkbfaaGreat
namespace Go.Proofs.YteohomdiklkbfaaGreat
open Go.RowKit Go.Proofs.Dm

theorem step_call {P:Program} (w:World) {ops:Array Oper} {o:Oper} {a:Act} {K:Act → World → Prop} {Q:Exit → Act → World → Prop} {E:Prop} (hgd:o.guard = none) (f:FuncId) (vs:Array Value)
    (hrun:(execOp a.eval o).run P w = .ok (.enter f vs) w) (R:Ending → World → Prop) (hc:Calls P f vs w R) (hv:∀ e w',R e w' → ∃ v,e = .returned v)
    (h:∀ v w',R (.returned v) w' → K (a.put o.dst v) w') :
    if Region.wanted o (yielded ops a.tmps) = true then Oper.wp P o a w K Q else E:=by
  have hw:Region.wanted o (yielded ops a.tmps) = true:=by simp [Region.wanted,hgd]
  rw [if_pos hw]
  unfold Oper.wp
  rw [hrun,Oper.upon_enter]
  refine hc.mono fun e w' hr => ?_
  obtain ⟨v,rfl⟩:=hv e w' hr
  exact h v w' hr
set_option maxRecDepth 100000 in
set_option maxHeartbeats 1600000 in
theorem rowscan_any (w:World) (g c a:Nat) (A:Option Addr) (s:List UInt8) (h:RdAt w g A c s a) (ha:a ≤ s.length) (hn:s.length ≤ 1000000) :
    Calls Tryz.prog 98 #[.pointer (some ⟨g,0,none⟩)] w (RowScan w g c a A s):=by
  have HR:=Lib.hid h
  have gl:=h.1.lt
  have HA:=Lib.hid ha
  have HN:=Lib.hid hn
  clear h ha hn
  have HRA:=Lib.hid (HR.out.fr0 ((Fr.refl [] w).alloc (.cells #[.slice none 0 0,.int .i64 0] TRw)))
  have hfd:=field_any _ g c a A s HRA.out HA.out HN.out
  have HFD:=Lib.hid hfd
  clear hfd
  go_enter Tryz.func98,Tryz.ntmps98
  go_wp2_with fail
  refine HFD.out.mono ?_
  rintro e w1 ⟨B,m,d,sp,rfl,hm,hr,hp,hbd,hrd,hf,hnw⟩
  obtain ⟨kd,hkd⟩:∃ kd,kd = (fieldP s a).kind:=⟨_,rfl⟩
  obtain ⟨nn,hnn⟩:∃ nn,nn = (fieldP s a).n:=⟨_,rfl⟩
  have hst:=RS.start HR.out HA.out hf hm hr hp hbd hrd hnw
  rw [← hkd,← hnn] at hst
  rw [← hkd,← hnn]
  have HST:=Lib.hid hst
  have HR1:Hid (w.heap.size < w1.heap.size + 1):=by show _ < _; have:=HST.out.rn; have:=HST.out.lr; omega
  clear hst hm hr hp hbd hrd hf hnw hkd hnn
  go_wp2_with fail
  obtain ⟨R,hR⟩:∃ R,R = w1.heap.size + 1:=⟨_,rfl⟩
  rw [← hR] at HST ⊢
  clear hR HR1
  go_loopg [] (s.length - a) (fun k wr => ∃ (kk t:Nat) (B:Option Addr) (d:Nat) (xs:List FV),kk = k ∧ Hid (RS w wr g w.heap.size R c A s a kk t B d xs))
  case atStart => exact ⟨_,_,_,_,_,rfl,HST.out⟩
  case round =>
    obtain ⟨kk,t,B,d,xs,HKK,HS⟩:=hrel
    have t1:(t:Int) ≤ 1000000:=by have:=HS.out.tl; have:=HN.out; omega
    have hi:Calls Tryz.prog 119 #[.pointer (some ⟨g,0,none⟩),.int .u8 44] wr (Qt wr (.bool (isB s t 44))):=is_any wr g c t A s 44 HS.out.rd
    cases hb:isB s t 44 with
    | false =>
      rw [hb] at hi
      have HI:=Lib.hid hi
      have HB:=Lib.hid (isB_no.1 hb)
      clear hi hb
      go_wp2_with fail
      refine HI.out.mono ?_
      rintro e w2 hq
      obtain ⟨rfl,hf⟩:=hq.fr
      have HS2:=Lib.hid (HS.out.fr0 hf)
      clear hq hf
      have he:=end_any w2 g c t A s HS2.out.rd HS2.out.tl HN.out
      have HE:=Lib.hid he
      clear he
      go_wp2_with fail
      refine HE.out.mono ?_
      rintro e w3 ⟨rfl,hr3,hf3⟩
      obtain ⟨n,hn⟩:∃ n,n = xs.length:=⟨_,rfl⟩
      obtain ⟨ek,hek⟩:∃ ek,ek = (endP s t).1:=⟨_,rfl⟩
      have HANS:Hid (∀ wf,Fr [some w.heap.size,some R] w3 wf → RowScan w g c a A s (.returned (.agg #[.slice B n d,.int .i64 (ek:Nat)])) wf):=by
        show ∀ _,_
        intro wf hw
        rw [hek]
        exact HS2.out.fin HB.out hr3 hf3 hw hn
      have nb:∀ b,w.heap.size ≤ b → some b ∉ [some g]:=fun b hb e => by
        rw [List.mem_singleton] at e
        injection e with e
        omega
      have row3:=HS2.out.row.fr hf3 (nb R HS2.out.rn)
      have res3:=HS2.out.res.fr hf3 (nb w.heap.size (Nat.le_refl _))
      rw [← hn] at row3
      have n1:=HS2.out.lr
      have n2:=n1.symm
      have d0:w3.cell? ⟨R,0,none⟩ = some (.slice B n d):=row3.cell 0
      have d1:w3.cell? ⟨R,1,none⟩ = some (.int .i64 0):=row3.cell 1
      have e0:w3.cell? ⟨w.heap.size,0,none⟩ = some (.slice none 0 0):=res3.cell 0
      have e1:w3.cell? ⟨w.heap.size,1,none⟩ = some (.int .i64 0):=res3.cell 1
      have z0:=row3.frozen 0
      have z1:=row3.frozen 1
      have y0:=res3.frozen 0
      have y1:=res3.frozen 1
      have l1:=row3.lt
      have l2:=res3.lt
      rw [← hek]
      clear hr3 hf3 hn hek nb row3 res3
      go_wp2_with fail
      refine bodyPost_ret (v:=.agg #[.slice B n d,.int .i64 (ek:Nat)]) (by simp [results,Tryz.results98,go_sem, *]) rfl ?_
      exact HANS.out _ ((((Fr.refl [some w.heap.size,some R] w3).setB (fun _ => by simp) _ _).setB (fun _ => by simp) _ _).setB (fun _ => by simp) _ _)
    | true =>
      rw [hb] at hi
      have HI:=Lib.hid hi
      have HB:=Lib.hid (isB_iff.1 hb)
      have htl:t < s.length:=by
        rcases Nat.lt_or_ge t s.length with h | h
        · exact h
        · have:=HB.out; rw [List.getElem?_eq_none h] at this; cases this
      obtain ⟨q,hq2⟩:∃ q,q = t + 1:=⟨_,rfl⟩
      have hq1:(t:Int) + 1 = (q:Int):=by omega
      have HQ2:Hid (q = t + 1 ∧ q ≤ s.length):=⟨hq2,by omega⟩
      clear hi hb hq2 htl
      go_wp2_with fail
      refine HI.out.mono ?_
      rintro e w2 hq
      obtain ⟨rfl,hf⟩:=hq.fr
      have HS2:=Lib.hid (HS.out.fr0 hf)
      have c1:w2.cell? ⟨g,1,none⟩ = some (.int .i64 (t:Nat)):=HS2.out.rd.1.cell 1
      have f1:=HS2.out.rd.1.frozen 1
      have l1:=HS2.out.rd.1.lt
      clear hq hf
      go_wp2_with fail
      have HR3:=Lib.hid (HS2.out.rd.set q)
      obtain ⟨w3,hw3⟩:∃ w3,w3 = w2.setCell ⟨g,1,none⟩ (.int .i64 (q:Nat)):=⟨_,rfl⟩
      rw [← hw3] at HR3 ⊢
      clear hw3 c1 f1 l1
      obtain ⟨n,hn⟩:∃ n,n = xs.length:=⟨_,rfl⟩
      have HNX:=Lib.hid hn
      have hfd:=field_any w3.drew g c q A s (HR3.out.1.fr0 ((Fr.refl [] w3).drew)) HQ2.out.2 HN.out
      have HFD2:=Lib.hid hfd
      have r0:w3.cell? ⟨R,0,none⟩ = some (.slice B n d):=by
        rw [hn]
        refine (HS2.out.row.fr HR3.out.2 ?_).cell 0
        intro e
        rw [List.mem_singleton] at e
        injection e with e
        have:=HS2.out.rn
        omega
      clear hn hfd
      have HOW:Hid (ORow w3.drew TFd 4 B d n (fvc xs)):=by
        show ORow _ _ _ _ _ _ _
        rw [HNX.out]
        exact ORow.fr (ORow.fr HS2.out.own HR3.out.2 (newA_g HS2.out.gl HS2.out.bn)) ((Fr.refl [] w3).drew) (.inr List.not_mem_nil)
      obtain ⟨k',rfl⟩:∃ k',kk = k' + 1:=⟨kk - 1,by have:=HS2.out.fk; have:=HQ2.out; omega⟩
      have hnb:some R ∉ [some g]:=fun e => by
        rw [List.mem_singleton] at e
        injection e with e
        have:=HS2.out.rn
        omega
      have HNB:=Lib.hid hnb
      have HROW:Hid (Blk w3.drew R TRw #[.slice B n d,.int .i64 0]):=by
        show Blk _ _ _ _
        rw [HNX.out]
        exact (HS2.out.row.fr HR3.out.2 hnb).drew
      have HN3:Hid (n ≤ 1000001):=by
        show _ ≤ _
        have:=HS2.out.xl
        have:=HNX.out
        have:=HS2.out.tl
        have:=HN.out
        omega
      clear hnb
      go_region_law (first
        | (refine step_call _ (by rfl) 118 #[.pointer (some ⟨g,0,none⟩)] (by go_simp) _ HFD2.out (by rintro e w4 ⟨B1,m1,d1,sp1,he,_⟩; exact ⟨_,he⟩) ?_
           intro v4 w4 hans
           obtain ⟨B1,m1,d1,sp1,hv4,hm1,hr1,hp1,hbd1,hrd1,hf1,hn1⟩:=hans
           injection hv4 with hv4
           subst hv4
           obtain ⟨kd,hkd⟩:∃ kd,kd = (fieldP s q).kind:=⟨_,rfl⟩
           obtain ⟨nn,hnn⟩:∃ nn,nn = (fieldP s q).n:=⟨_,rfl⟩
           rw [← hkd,← hnn]
           have r4:w4.cell? ⟨R,0,none⟩ = some (.slice B n d):=(hf1.cell (p:=⟨R,0,none⟩) (World.block_lt_of_cell? w3 _ r0) HNB.out).trans r0
           have r4a:(w4.alloc (.cells #[.int .i64 (q:Nat),.int .i64 (nn:Nat),.int .i64 (kd:Nat),.slice B1 m1 d1] TFd)).cell? ⟨R,0,none⟩ = some (.slice B n d):=((HROW.out.fr hf1 HNB.out).alloc _).cell 0
           have HF1:=Lib.hid hf1
           have HRD:=Lib.hid hrd1
           have HM1:Hid (m1 = sp1.length ∧ kd = (fieldP s q).kind ∧ nn = (fieldP s q).n):=⟨hm1,hkd,hnn⟩
           have HRR:=Lib.hid hr1
           have HPP:=Lib.hid hp1
           have HBD:=Lib.hid hbd1
           have HNN:=Lib.hid hn1
           clear hm1 hr1 hp1 hbd1 hrd1 hf1 hn1 hkd hnn)
        | (refine step_app _ (by rfl) _ _ 134 TFd (by rfl) (Value.agg #[.int .i64 0,.int .i64 0,.int .i64 0,.slice none 0 0]) 4 48 Tryz.underlying134 infoFd rfl (by decide) B d n (fvc xs) (by rfl) (ORow.fr (ORow.fr HOW.out HF1.out (newA_g HS2.out.gl HS2.out.bn)) ((Fr.refl [] w4).alloc _) (.inr List.not_mem_nil)) _ 1 1 [.int .i64 (q:Nat),.int .i64 (nn:Nat),.int .i64 (kd:Nat),.slice B1 m1 d1] (by rfl) rfl (blk_sl (Blk.new w4 TFd _) 4) (by simp [Value.oneCell']) (by have:=HN3.out; simp only [maxLen]; omega) (by have:=HN3.out; omega) ?_
           intro A2 c2 w5 hr2 hg2 hb2
           have rowa:=(HROW.out.fr HF1.out HNB.out).alloc (.cells #[.int .i64 (q:Nat),.int .i64 (nn:Nat),.int .i64 (kd:Nat),.slice B1 m1 d1] TFd)
           have row5:=rowa.fr hg2 (fun e => by
             rw [List.mem_singleton] at e
             rcases ORow.neB (ORow.fr (ORow.fr HOW.out HF1.out (newA_g HS2.out.gl HS2.out.bn)) ((Fr.refl [] w4).alloc _) (.inr List.not_mem_nil)) rowa (by decide) with h | h
             · rw [h] at e; cases e
             · exact h e.symm)
           have r5:w5.cell? ⟨R,0,none⟩ = some (.slice B n d):=row5.cell 0
           have z5:=row5.frozen 0
           have l5:=row5.lt
           have HFIN:Hid (∃ t B d xs,RS w (w5.setCell ⟨R,0,none⟩ (.slice A2 (n + 1) c2)) g w.heap.size R c A s a k' t B d xs):=by
             show ∃ t B d xs,RS _ _ _ _ _ _ _ _ _ _ _ _ _ _
             have hx:=HNX.out
             have hq:=HQ2.out.1
             have h1:=HRR.out
             obtain ⟨hm,hk,hnn⟩:=HM1.out
             have h2:=HPP.out
             have h3:=HRD.out
             subst hm hk hnn hq hx
             exact ⟨_,_,_,_,HS2.out.step HB.out HR3.out.2.drew HF1.out h1 h2 HBD.out h3 HNN.out ((Fr.refl [] w4).alloc _) (by simpa [FV.cells,fieldP_a] using hr2) hg2 hb2⟩
           clear hr2 hg2 hb2 rowa row5))
      all_goals (
        go_wp2_with fail
        go_roundg k'
        case rel => obtain ⟨t,B,d,xs,h⟩:=HFIN.out; exact ⟨_,t,B,d,xs,rfl,h⟩
        case measure => omega)
end Go.Proofs.YteohomdiklkbfaaGreat
namespace Go.Proofs.Dm
theorem fieldP_end (s:List UInt8) (a:Nat) (h:a ≤ s.length):a + (fieldP s a).n = s.length ∨ ∃ c,s[a + (fieldP s a).n]? = some c ∧ isMark c = true:=by
  have key:∀ b,b ≤ s.length → b + tillP (s.drop b) = s.length ∨ ∃ c,s[b + tillP (s.drop b)]? = some c ∧ isMark c = true:=fun b hb => by
    rcases Nat.lt_or_ge (tillP (s.drop b)) (s.drop b).length with hl | hl
    · have:=tillP_at _ hl
      rw [List.length_drop] at hl
      refine .inr ⟨(s.drop b)[tillP (s.drop b)],?_,this⟩
      rw [List.getElem_drop,List.getElem?_eq_getElem]
    · rw [List.length_drop] at hl
      have:=tillP_bd s b hb
      omega
  unfold fieldP
  split
  · rename_i hq
    have hlt:a < s.length:=by
      rcases Nat.lt_or_ge a s.length with h | h
      · exact h
      · rw [List.getElem?_eq_none h] at hq; cases hq
    have hb:=quoP_bd (s.drop (a + 1)) (a + 1)
    rw [List.length_drop] at hb
    dsimp only
    split
    · rename_i hc
      have h3:=hb.2.2.1 hc
      have:=key ((quoP (s.drop (a + 1)) (a + 1)).2.1 + 1) (by omega)
      have e:a + ((quoP (s.drop (a + 1)) (a + 1)).2.1 + 1 + tillP (s.drop ((quoP (s.drop (a + 1)) (a + 1)).2.1 + 1)) - a) = (quoP (s.drop (a + 1)) (a + 1)).2.1 + 1 + tillP (s.drop ((quoP (s.drop (a + 1)) (a + 1)).2.1 + 1)):=by omega
      dsimp only
      rw [e]
      exact this
    · dsimp only; omega
  · exact key a h
theorem fendP_end (s:List UInt8):∀ (k a:Nat),a ≤ s.length → s.length + 1 - a ≤ k → fendP s k a = s.length ∨ ∃ c,s[fendP s k a]? = some c ∧ (c = 13 ∨ c = 10)
  | 0,a,h,hk => by omega
  | k + 1,a,h,hk => by
    have hb:=fieldP_bd s a h
    unfold fendP
    split
    · rename_i hq
      have hlt:a + (fieldP s a).n < s.length:=by
        rcases Nat.lt_or_ge (a + (fieldP s a).n) s.length with h | h
        · exact h
        · rw [List.getElem?_eq_none h] at hq; cases hq
      exact fendP_end s k _ hlt (by omega)
    · rename_i hq
      rcases fieldP_end s a h with h1 | ⟨c,h1,h2⟩
      · exact .inl h1
      · refine .inr ⟨c,h1,?_⟩
        have:c ≠ 44:=fun e => hq (e ▸ h1)
        simp [isMark,this] at h2
        exact h2
theorem lineP_gt (s:List UInt8) (a:Nat) (h:a < s.length):a < (lineP s a).2 ∧ (lineP s a).2 ≤ s.length:=by
  have h1:=fendP_bd s (s.length + 1 - a) a (Nat.le_of_lt h)
  have h2:=fendP_end s (s.length + 1 - a) a (Nat.le_of_lt h) (Nat.le_refl _)
  have h3:=endP_bd s (fendP s (s.length + 1 - a) a) h1.2
  refine ⟨?_,h3⟩
  show a < fendP s (s.length + 1 - a) a + (endP s (fendP s (s.length + 1 - a) a)).2
  rcases h2 with h2 | ⟨c,hc,h2⟩
  · omega
  · have:1 ≤ (endP s (fendP s (s.length + 1 - a) a)).2:=by
      unfold endP
      rcases h2 with h2 | h2
      · subst h2
        rw [hc,if_neg (by decide),if_pos rfl]
        split <;> simp
      · subst h2
        rw [hc,if_pos rfl]; simp
    omega
end Go.Proofs.Dm
namespace Go.Proofs.YteohomdiklkbfaaGreat
open Go.RowKit Go.Proofs.Dm

structure LV where
  B:Option Addr
  d:Nat
  xs:List FV
  e:Nat
def LV.cells (x:LV):List Value:=[.slice x.B x.xs.length x.d,.int .i64 (x.e:Nat)]
def LV.line (x:LV):LineP:=⟨x.xs.map FV.f,x.e⟩
def lvc (ls:List LV):List Value:=ls.flatMap LV.cells
theorem lvc_app (a b:List LV):lvc (a ++ b) = lvc a ++ lvc b:=by simp [lvc]
def FieldAt (N:Nat) (x:FV) (w:World):Prop:=Sl w x.B (spc x.sp) ∧ x.sp.length ≤ x.d ∧ plc x.sp = x.f.places ∧ ∀ y ∈ x.sp,1 ≤ y.2 ∧ y.1 + y.2 ≤ N
def LineAt (N:Nat) (x:LV) (w:World):Prop:=Sl w x.B (fvc x.xs) ∧ x.xs.length ≤ x.d ∧ ∀ y ∈ x.xs,FieldAt N y w
theorem FV.ok.at_ {N:Nat} {w:World} {x:FV} {E:List (Option Nat)} (h:x.ok N w) (hn:bk x.B = none ∨ bk x.B ∉ E):Kp E w (FieldAt N x):=fun _ hf => ⟨(Kp.sl (ORow.sl h.1) hn) _ hf,ORow.cap h.1,h.2.1,h.2.2⟩
def LinesAns (w:World) (s:List UInt8) (en:Ending) (w':World):Prop :=
  ∃ (B:Option Addr) (d:Nat) (ls:List LV),en = .returned (.slice B ls.length d) ∧ ls.length ≤ d ∧ ls.map LV.line = linesP s (s.length + 1) 0 ∧ Kp [] w' (fun w => Sl w B (lvc ls) ∧ ∀ x ∈ ls,LineAt s.length x w) ∧ Fr [] w w'
theorem infoRw:(Tryz.prog.info? TRw).map (fun i => (i.zero,i.size,i.bytes)) = some (some (Value.agg #[.slice none 0 0,.int .i64 0]),2,32):=by kernel_rfl
structure AS (w0 w:World) (g c:Nat) (A:Option Addr) (s:List UInt8) (a k:Nat) (B:Option Addr) (d:Nat) (ls:List LV):Prop where
  rd:RdAt w g A c s a
  own:ORow w TRw 2 B d ls.length (lvc ls)
  ok:∀ x ∈ ls,Kp [some g,bk B] w (LineAt s.length x)
  fr:Fr [] w0 w
  kp:Kp [some g] w0 (fun w => Sl w A (bts s))
  gn:w0.heap.size ≤ g
  bn:∀ j,bk B = some j → w0.heap.size ≤ j
  lq:ls.map LV.line ++ linesP s k a = linesP s (s.length + 1) 0
  fk:s.length ≤ a + k
  al:a ≤ s.length
  ll:ls.length ≤ a
section
variable {w0 w w':World} {g c a k d:Nat} {A B:Option Addr} {s:List UInt8} {ls:List LV}
theorem AS.fr0 (h:AS w0 w g c A s a k B d ls) (hf:Fr [] w w'):AS w0 w' g c A s a k B d ls :=
  ⟨h.rd.fr0 hf,ORow.fr h.own hf (.inr List.not_mem_nil),fun x hx => (h.ok x hx).fr0 hf,h.fr.trans hf,h.kp,h.gn,h.bn,h.lq,h.fk,h.al,h.ll⟩
theorem AS.start {w0:World} (h:Sl w0 A (bts s)):AS w0 (w0.alloc (.cells #[.slice A s.length c,.int .i64 0] TRd)) w0.heap.size c A s 0 (s.length + 1) none 0 []:=by
  have hk:Kp [some w0.heap.size] w0 (fun w => Sl w A (bts s)):=sl_kp h fun k hk => by rw [List.mem_singleton] at hk; injection hk with hk; omega
  exact ⟨⟨Blk.new w0 TRd _,hk.fr ((Fr.refl _ w0).alloc _)⟩,ORow.nil_ _ _ _,fun x hx => (by simp at hx),(Fr.refl [] w0).alloc _,hk,Nat.le_refl _,fun j hj => (by cases hj),rfl,by omega,Nat.zero_le _,Nat.zero_le _⟩
theorem AS.step {w1 wa w5:World} {d1 d2 n:Nat} {B1 B2:Option Addr} {xs:List FV} (h:AS w0 w g c A s a (k + 1) B d ls) (ha:a < s.length)
    (h2:ORow w1 TFd 4 B1 d1 xs.length (fvc xs)) (h3:xs.map FV.f = (lineP s a).1.fields) (h4:∀ x ∈ xs,x.ok s.length w1) (h5:RdAt w1 g A c s (lineP s a).2) (h6:Fr [some g] w w1) (h7:∀ j,bk B1 = some j → w.heap.size ≤ j) (h8:∀ x ∈ xs,∀ j,bk x.B = some j → w.heap.size ≤ j)
    (hfa:Fr [] w1 wa) (hn:n = ls.length) (hr5:ORow w5 TRw 2 B2 d2 (n + 1) (lvc ls ++ LV.cells ⟨B1,d1,xs,(lineP s a).1.e⟩)) (hg5:Fr [bk B] wa w5) (hb5:bk B2 = bk B ∨ bk B2 = some wa.heap.size) :
    AS w0 w5 g c A s (lineP s a).2 k B2 d2 (ls ++ [⟨B1,d1,xs,(lineP s a).1.e⟩]):=by
  subst hn
  have hg:=h.gn
  have s0:=h.fr.size
  have s1:=h6.size
  have s2:=hfa.size
  have glt:=h.rd.1.lt
  have gB:some g ∉ [bk B]:=fun e => by
    rw [List.mem_singleton] at e
    rcases ORow.neB h.own h.rd.1 (by decide) with h | h
    · rw [h] at e; cases e
    · exact h e.symm
  have f1:Fr [some g,bk B] w w5:=((h6.weaken fun i _ e => by rw [List.mem_singleton] at e; rw [e]; exact List.mem_cons_self ..).trans hfa.of_nil).seq hg5 fun x hx => .inl (by rw [List.mem_singleton] at hx; subst hx; exact List.mem_cons_of_mem _ (List.mem_singleton.2 rfl))
  have f0:Fr [] w0 w5:=h.fr.seq f1 fun x hx => by
    rcases List.mem_cons.1 hx with rfl | hx
    · exact .inr (.inr ⟨g,hg,rfl⟩)
    · rw [List.mem_singleton] at hx
      subst hx
      cases hb:bk B with
      | none => exact .inr (.inl rfl)
      | some j => exact .inr (.inr ⟨j,h.bn j hb,rfl⟩)
  have oldE:∀ j,w.heap.size ≤ j → some j ∉ [some g,bk B]:=fun j hj e => by
    rcases List.mem_cons.1 e with e | e
    · injection e with e; omega
    · rw [List.mem_singleton] at e
      have:=ORow.lt h.own e.symm; omega
  have newE:∀ {X:Option Addr},(∀ j,bk X = some j → w.heap.size ≤ j) → bk X = none ∨ bk X ∉ [some g,bk B]:=fun {X} hX => by
    cases hb:bk X with
    | none => exact .inl rfl
    | some j => exact .inr (oldE j (hX j hb))
  have f15:Fr [some g,bk B] w1 w5:=hfa.of_nil.seq hg5 fun x hx => .inl (by rw [List.mem_singleton] at hx; subst hx; exact List.mem_cons_of_mem _ (List.mem_singleton.2 rfl))
  have hgE:∀ k,some k ∈ [some g,bk B2] → some k ∈ [some g,bk B] ∨ wa.heap.size ≤ k:=fun j hj => by
    rcases List.mem_cons.1 hj with e | e
    · exact .inl (e ▸ List.mem_cons_self ..)
    · rw [List.mem_singleton] at e
      rcases hb5 with h5 | h5
      · exact .inl (by rw [e,h5]; exact List.mem_cons_of_mem _ (List.mem_singleton.2 rfl))
      · rw [h5] at e; injection e with e; exact .inr (by omega)
  obtain ⟨p1,p2⟩:=lineP_gt s a ha
  refine ⟨(h5.fr0 hfa).frS hg5 gB ?_,?_,?_,f0,h.kp,h.gn,?_,?_,?_,p2,?_⟩
  · exact fun w'' hf => h.kp w'' (f0.of_nil.trans hf)
  · have e:(ls ++ [(⟨B1,d1,xs,(lineP s a).1.e⟩:LV)]).length = ls.length + 1:=by simp
    rw [e,lvc_app]
    simpa [lvc] using hr5
  · intro x hx
    rcases List.mem_append.1 hx with hx | hx
    · exact (h.ok x hx).grow f1 fun j hj => (hgE j hj).imp_right fun h => by omega
    · rw [List.mem_singleton] at hx
      subst hx
      have hnew:Kp [some g,bk B] w1 (LineAt s.length ⟨B1,d1,xs,(lineP s a).1.e⟩):=fun w'' hf =>
        ⟨(Kp.sl (ORow.sl h2) (newE h7)) w'' hf,ORow.cap h2,fun y hy => ((h4 y hy).at_ (newE (h8 y hy))) w'' hf⟩
      exact hnew.grow f15 fun j hj => (hgE j hj).imp_right fun h => by omega
  · intro j hj
    rcases hb5 with h5 | h5
    · exact h.bn j (h5 ▸ hj)
    · rw [h5] at hj; injection hj with hj; omega
  · have:=h.lq
    rw [show linesP s (k + 1) a = (lineP s a).1 :: linesP s k (lineP s a).2 by show (if a < s.length then _ else _) = _; rw [if_pos ha]] at this
    rw [← this,List.map_append,List.append_assoc]
    congr 1
    show LV.line _ :: _ = _
    congr 1
    show (⟨_,_⟩:LineP) = _
    rw [h3]
  · have:=h.fk; omega
  · have:=h.ll
    simp; omega
theorem AS.fin {n:Nat} (h:AS w0 w g c A s a k B d ls) (he:s.length ≤ a) (hn:n = ls.length):LinesAns w0 s (.returned (.slice B n d)) w:=by
  subst hn
  have hl:=h.lq
  have e:linesP s k a = []:=by cases k <;> simp [linesP]; omega
  rw [e,List.append_nil] at hl
  refine ⟨B,d,ls,rfl,ORow.cap h.own,hl,fun w'' hf => ⟨(Kp.sl (E:=[]) (ORow.sl h.own) (.inr List.not_mem_nil)) w'' hf,fun x hx => (h.ok x hx) w'' hf.of_nil⟩,h.fr⟩
end
set_option maxRecDepth 100000 in
set_option maxHeartbeats 1600000 in
theorem lines_any (w:World) (c:Nat) (A:Option Addr) (s:List UInt8) (h:Sl w A (bts s)) (hn:s.length ≤ 1000000) :
    Calls Tryz.prog 56 #[.slice A s.length c] w (LinesAns w s):=by
  have HS:=Lib.hid (AS.start (c:=c) h)
  have HN:=Lib.hid hn
  clear h hn
  go_enter Tryz.func56,Tryz.ntmps56
  go_wp2_with fail
  go_loopg [3] (s.length + 1) (fun k ov wr => ∃ (kk a n:Nat) (B:Option Addr) (d:Nat) (ls:List LV),kk = k ∧ ov = .slice B n d ∧ Hid (n = ls.length) ∧ Hid (AS w wr w.heap.size c A s a kk B d ls))
  case atStart => exact ⟨_,0,0,none,0,[],rfl,rfl,rfl,HS.out⟩
  case round =>
    clear HS
    obtain ⟨kk,a,n,B,d,ls,HKK,rfl,HNL,HS⟩:=hrel
    have hd:=done_any wr w.heap.size c a A s HS.out.rd
    rcases Nat.lt_or_ge a s.length with hlt | hge
    · rw [decide_eq_false (by omega)] at hd
      have HD:=Lib.hid hd
      obtain ⟨k',rfl⟩:∃ k',kk = k' + 1:=⟨kk - 1,by have:=HS.out.fk; omega⟩
      clear hd
      go_wp2_with fail
      refine HD.out.mono ?_
      rintro e w1 hq
      obtain ⟨rfl,hf⟩:=hq.fr
      have HS1:=Lib.hid (HS.out.fr0 hf)
      have hr:=rowscan_any w1 w.heap.size c a A s HS1.out.rd (Nat.le_of_lt hlt) HN.out
      have HR:=Lib.hid hr
      have HLT:=Lib.hid hlt
      have HN3:Hid (n ≤ 1000000):=by
        show _ ≤ _
        have:=HS.out.ll
        have:=HNL.out
        have:=HN.out
        omega
      clear hr hlt hq hf HS HN HD
      go_wp2_with fail
      refine HR.out.mono ?_
      rintro e w2 ⟨B1,m,d1,xs,rfl,hm,h2,h3,h4,h5,h6,h7,h8⟩
      obtain ⟨ek,hek⟩:∃ ek,ek = (lineP s a).1.e:=⟨_,rfl⟩
      have HH:Hid (∀ (A2:Option Addr) (c2:Nat) (wa w5:World),Fr [] w2 wa → ORow w5 TRw 2 A2 c2 (n + 1) (lvc ls ++ [.slice B1 m d1,.int .i64 (ek:Nat)]) → Fr [bk B] wa w5 → (bk A2 = bk B ∨ bk A2 = some wa.heap.size) → ∃ (a n2:Nat) (ls:List LV),n2 = n + 1 ∧ n2 = ls.length ∧ AS w w5 w.heap.size c A s a k' A2 c2 ls):=by
        show ∀ _,_
        intro A2 c2 wa w5 e1 e2 e3 e4
        subst hm hek
        refine ⟨(lineP s a).2,n + 1,ls ++ [⟨B1,d1,xs,(lineP s a).1.e⟩],rfl,by have:=HNL.out; simp; omega,HS1.out.step HLT.out h2 h3 h4 h5 h6 h7 h8 e1 HNL.out (by simpa [LV.cells] using e2) e3 e4⟩
      have HOW:Hid (ORow w2 TRw 2 B d n (lvc ls)):=by
        have hl:=HNL.out
        show ORow _ _ _ _ _ _ _
        subst hl
        refine ORow.fr HS1.out.own h6 ?_
        rcases ORow.neB HS1.out.own HS1.out.rd.1 (by decide) with h | h
        · exact .inl h
        · exact .inr (by rw [List.mem_singleton]; exact h)
      rw [← hek]
      clear hm h2 h3 h4 h5 h6 h7 h8 hek HR HS1 HLT
      go_wp2_with (at_builtin; go_must (
        refine wpList_app _ rfl _ _ 131 TRw rfl (Value.agg #[.slice none 0 0,.int .i64 0]) 2 32 Tryz.underlying131 infoRw rfl (by decide) B d n (lvc ls) rfl (ORow.fr HOW.out ((Fr.refl [] w2).alloc _) (.inr List.not_mem_nil)) _ 1 1 [.slice B1 m d1,.int .i64 (ek:Nat)] rfl rfl (blk_sl (Blk.new w2 TRw _) 2) (by simp [Value.oneCell']) (by have:=HN3.out; simp only [maxLen]; omega) (by have:=HN3.out; omega) ?_
        intro A2 c2 w5 hr2 hg2 hb2
        have HF:=Lib.hid (HH.out A2 c2 _ w5 ((Fr.refl [] w2).alloc _) hr2 hg2 hb2)
        clear hr2 hg2 hb2))
      go_roundg k'
      case rel => obtain ⟨a,n2,ls,rfl,h1,h2⟩:=HF.out; exact ⟨_,a,n + 1,A2,c2,ls,rfl,by simp,h1,h2⟩
      case measure => omega
    · rw [decide_eq_true hge] at hd
      have HD:=Lib.hid hd
      have HG:=Lib.hid hge
      clear hd hge
      go_wp2_with fail
      refine HD.out.mono ?_
      rintro e w1 hq
      obtain ⟨rfl,hf⟩:=hq.fr
      have HF:=Lib.hid ((HS.out.fr0 hf).fin HG.out HNL.out)
      clear hq hf
      go_wp2_with fail
      go_ret
      exact HF.out
end Go.Proofs.YteohomdiklkbfaaGreat
