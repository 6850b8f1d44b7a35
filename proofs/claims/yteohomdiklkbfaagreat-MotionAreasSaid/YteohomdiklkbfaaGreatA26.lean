import Derived.Test.YteohomdiklkbfaaGreatA25
import Derived.Deep.RegionHeld3
namespace Go.Proofs.YteohomdiklkbfaaGreat
open Go.RowKit Go.Proofs.Dm

abbrev TDc:TypeId:=77
abbrev TD8:TypeId:=88
structure DC where
  S:List UInt8
  R:List UInt8
  k:Bool
def DC.cells (x:DC):List Value:=[.string ⟨x.S.toArray⟩,.string ⟨x.R.toArray⟩,.bool x.k]
def dcc (xs:List DC):List Value:=xs.flatMap DC.cells
theorem dcc_app (a b:List DC):dcc (a ++ b) = dcc a ++ dcc b:=by simp [dcc]
def fcell (s:List UInt8) (f:FieldP):DC:=⟨atP s f.places,cutP s f.a f.n,true⟩
def D8Ans (w:World) (s:List UInt8) (fs:List FieldP) (e:Nat) (en:Ending) (w':World):Prop :=
  (rowErrP fs ≠ 0 ∧ en = .returned (.tuple #[.agg #[.slice none 0 0,.int .i64 0,.bool false],.int .i64 (rowErrP fs:Nat)]) ∧ Fr [] w w') ∨
  (rowErrP fs = 0 ∧ ∃ (B:Option Addr) (m d:Nat),en = .returned (.tuple #[.agg #[.slice B m d,.int .i64 (e:Nat),.bool false],.int .i64 0]) ∧ m = fs.length ∧ (∀ E,Old E w → Kp E w' (fun w => Sl w B (dcc (fs.map (fcell s))))) ∧ Fr [] w w')
theorem infoDc:(Tryz.prog.info? TDc).map (fun i => (i.zero,i.size,i.bytes)) = some (some (Value.agg #[.string ⟨#[]⟩,.string ⟨#[]⟩,.bool false]),3,40):=by kernel_rfl
structure LS (W1 w:World) (T L:Nat) (s:List UInt8) (fs:List FieldP) (e j:Nat) (B:Option Addr) (d m:Nat):Prop where
  tb:Blk w T TD8 #[.slice B m d,.int .i64 (e:Nat),.bool false]
  lb:Blk w L TD8 #[.slice none 0 0,.int .i64 0,.bool false]
  own:ORow w TDc 3 B d m (dcc ((fs.take j).map (fcell s)))
  ln:m = j
  fr:Fr [some T] W1 w
  tl:T < W1.heap.size
  ll:L < W1.heap.size
  ne:T ≠ L
  bn:∀ k,bk B = some k → W1.heap.size ≤ k
  jn:j ≤ fs.length
  lo:∀ f ∈ fs.take j,f.places.length ≤ 400
section
variable {W1 w w':World} {T L e j d m:Nat} {B:Option Addr} {s:List UInt8} {fs:List FieldP}
theorem LS.fr0 (h:LS W1 w T L s fs e j B d m) (hf:Fr [] w w'):LS W1 w' T L s fs e j B d m :=
  ⟨h.tb.fr hf (by simp),h.lb.fr hf (by simp),ORow.fr h.own hf (.inr List.not_mem_nil),h.ln,h.fr.trans hf.of_nil,h.tl,h.ll,h.ne,h.bn,h.jn,h.lo⟩
theorem LS.step {wa w5:World} {B2:Option Addr} {d2:Nat} {f:FieldP} (h:LS W1 w T L s fs e j B d m) (hx:fs[j]? = some f) (hlo:f.places.length ≤ 400) (hfa:Fr [] w wa)
    (hr:ORow w5 TDc 3 B2 d2 (m + 1) (dcc ((fs.take j).map (fcell s)) ++ DC.cells (fcell s f))) (hg:Fr [bk B] wa w5) (hb:bk B2 = bk B ∨ bk B2 = some wa.heap.size) :
    LS W1 (w5.setCell ⟨T,0,none⟩ (.slice B2 (m + 1) d2)) T L s fs e (j + 1) B2 d2 (m + 1) ∧ Blk w5 T TD8 #[.slice B m d,.int .i64 (e:Nat),.bool false]:=by
  have hjl:j < fs.length:=by
    rcases Nat.lt_or_ge j fs.length with h | h
    · exact h
    · rw [List.getElem?_eq_none h] at hx; cases hx
  have ht:fs.take (j + 1) = fs.take j ++ [f]:=by
    rw [List.take_succ_eq_append_getElem hjl]
    rw [List.getElem?_eq_getElem hjl] at hx
    injection hx with hx
    rw [hx]
  have hs:=h.fr.size
  have hsa:=hfa.size
  have hn:∀ b,b < W1.heap.size → some b ∉ [bk B]:=fun b hb e => by
    rw [List.mem_singleton] at e
    have:=h.bn b e.symm
    omega
  have t5:=(h.tb.fr hfa (by simp)).fr hg (hn T h.tl)
  have l5:=(h.lb.fr hfa (by simp)).fr hg (hn L h.ll)
  have hset:Fr [some T] w5 (w5.setCell ⟨T,0,none⟩ (.slice B2 (m + 1) d2)):=(Fr.refl _ w5).setB (by simp) 0 _
  have hB2:∀ k,bk B2 = some k → W1.heap.size ≤ k:=fun k hk => by
    rcases hb with e | e
    · exact h.bn k (e ▸ hk)
    · rw [e] at hk; injection hk with hk; omega
  refine ⟨⟨t5.set_ 0 _,l5.fr hset (fun e => by rw [List.mem_singleton] at e; injection e with e; exact h.ne e.symm),?_,by rw [h.ln],?_,h.tl,h.ll,h.ne,hB2,hjl,?_⟩,t5⟩
  · rw [ht,List.map_append,dcc_app]
    refine ORow.fr ?_ hset (newS h.tl hB2)
    simpa [dcc] using hr
  · refine ((h.fr.trans hfa.of_nil).seq hg fun z hz => ?_).trans hset
    rw [List.mem_singleton] at hz
    subst hz
    cases hB:bk B with
    | none => exact .inr (.inl rfl)
    | some k => exact .inr (.inr ⟨k,h.bn k hB,rfl⟩)
  · intro g hg
    rw [ht] at hg
    rcases List.mem_append.1 hg with hg | hg
    · exact h.lo g hg
    · rw [List.mem_singleton] at hg; rw [hg]; exact hlo
theorem LS.fin {w0:World} {n:Nat} (h:LS W1 w T L s fs e n B d m) (hn:n = fs.length) (h40:n ≤ 40) (h0:Fr [] w0 W1) (hT:w0.heap.size ≤ T) (hL:w0.heap.size ≤ L) (hw:Fr [some L] w w'):D8Ans w0 s fs e (.returned (.tuple #[.agg #[.slice B m d,.int .i64 (e:Nat),.bool false],.int .i64 0])) w':=by
  have htk:fs.take n = fs:=List.take_of_length_le (by omega)
  have hlo:=h.lo
  have hown:=h.own
  rw [htk] at hlo hown
  have hs:=h0.size
  refine .inr ⟨?_,B,m,d,rfl,by rw [h.ln,hn],fun E hE w'' hf => ?_,(h0.seq h.fr fun z hz => ?_).seq hw fun z hz => ?_⟩
  · unfold rowErrP
    rw [if_neg (by omega),if_neg]
    intro hc
    obtain ⟨f,hf,hd⟩:=List.any_eq_true.1 hc
    have:=hlo f hf
    simp at hd
    omega
  · refine Sl.fr (ORow.sl (ORow.fr hown hw (newS h.ll h.bn))) hf ?_
    exact hE.newA fun j hj => by have:=h.bn j hj; omega
  · rw [List.mem_singleton] at hz; exact .inr (.inr ⟨T,hT,hz⟩)
  · rw [List.mem_singleton] at hz; exact .inr (.inr ⟨L,hL,hz⟩)
theorem LS.bad {w0:World} {f:FieldP} (hx:fs[j]? = some f) (h40:fs.length ≤ 40) (hlo:400 < f.places.length) (hf:Fr [] w0 w'):D8Ans w0 s fs e (.returned (.tuple #[.agg #[.slice none 0 0,.int .i64 0,.bool false],.int .i64 7])) w':=by
  have he:rowErrP fs = 7:=by
    unfold rowErrP
    rw [if_neg (by omega),if_pos]
    rw [List.any_eq_true]
    exact ⟨f,List.mem_of_getElem? hx,by simpa using hlo⟩
  exact .inl ⟨by rw [he]; omega,by rw [he]; rfl,hf⟩
end
set_option maxRecDepth 100000 in
set_option maxHeartbeats 1600000 in
theorem d8load_any (w:World) (s:List UInt8) (m d e:Nat) (B:Option Addr) (xs:List DV) (hm:m = xs.length) (hB:Sl w B (dvc xs)) (hx:∀ x ∈ xs,x.ok w) (hb:∀ x ∈ xs,x.f.a + x.f.n ≤ s.length ∧ x.f.places.length ≤ s.length ∧ ∀ i ∈ x.f.places,i < s.length) (hN:s.length ≤ 1000000) (hm6:m ≤ 1000000) :
    Calls Tryz.prog 86 #[.string ⟨s.toArray⟩,.agg #[.slice B m d,.int .i64 (e:Nat)]] w (D8Ans w s (xs.map DV.f) e):=by
  have HB:=Lib.hid hB
  have HX:=Lib.hid hx
  have HBD:=Lib.hid hb
  have HN:=Lib.hid hN
  have HM:=Lib.hid hm
  by_cases h40:40 < m
  · have HE:Hid (rowErrP (xs.map DV.f) = 6):=by
      show _ = _
      unfold rowErrP
      rw [if_pos (by rw [List.length_map]; omega)]
    have h1:(40:Int) < (m:Int):=by omega
    have h2:(m:Int) ≤ 1000000:=by omega
    clear hm hB hx hb hN hm6 h40
    go_enter Tryz.func86,Tryz.ntmps86
    go_wp2_with fail
    refine bodyPost_ret (v:=.tuple #[.agg #[.slice none 0 0,.int .i64 0,.bool false],.int .i64 6]) (by simp [results,Tryz.results86,go_sem, *]) rfl ?_
    exact .inl ⟨by rw [HE.out]; omega,by rw [HE.out]; rfl,(((Fr.refl [] w).alloc _).alloc _).alloc _⟩
  · have h1:¬ (40:Int) < (m:Int):=by omega
    have h2:(m:Int) ≤ 40:=by omega
    have H40:Hid (m ≤ 40):=by show _ ≤ _; omega
    clear hm hB hx hb hN hm6 h40
    go_enter Tryz.func86,Tryz.ntmps86
    have HW:Hid (∀ W1,W1 = ((w.alloc (.cells #[.slice B m d,.int .i64 (e:Nat)] TDr)).alloc (.cells #[.slice none 0 0,.int .i64 0,.bool false] TD8)).alloc (.cells #[.slice none 0 0,.int .i64 (e:Nat),.bool false] TD8) → Fr [] w W1 ∧ LS W1 W1 (w.heap.size + 1 + 1) (w.heap.size + 1) s (xs.map DV.f) e 0 none 0 0):=by
      show ∀ _,_
      rintro W1 rfl
      have b1:=Blk.new (w.alloc (.cells #[.slice B m d,.int .i64 (e:Nat)] TDr)) TD8 #[.slice none 0 0,.int .i64 0,.bool false]
      have b2:=Blk.new ((w.alloc (.cells #[.slice B m d,.int .i64 (e:Nat)] TDr)).alloc (.cells #[.slice none 0 0,.int .i64 0,.bool false] TD8)) TD8 #[.slice none 0 0,.int .i64 (e:Nat),.bool false]
      have b3:=b1.alloc (.cells #[.slice none 0 0,.int .i64 (e:Nat),.bool false] TD8)
      simp only [World.size_alloc] at b2 b3
      exact ⟨(((Fr.refl [] w).alloc _).alloc _).alloc _,b2,b3,ORow.nil_ _ _ _,rfl,Fr.refl _ _,by simp,by simp,by omega,fun k hk => (by cases hk),Nat.zero_le _,fun f hf => (by simp at hf)⟩
    go_wp2_with fail
    obtain ⟨W1,hW1⟩:∃ W1,W1 = ((w.alloc (.cells #[.slice B m d,.int .i64 (e:Nat)] TDr)).alloc (.cells #[.slice none 0 0,.int .i64 0,.bool false] TD8)).alloc (.cells #[.slice none 0 0,.int .i64 (e:Nat),.bool false] TD8):=⟨_,rfl⟩
    obtain ⟨k1,k2⟩:=HW.out W1 hW1
    rw [← hW1]
    obtain ⟨T,hT⟩:∃ T,T = w.heap.size + 1 + 1:=⟨_,rfl⟩
    obtain ⟨L,hL⟩:∃ L,L = w.heap.size + 1:=⟨_,rfl⟩
    rw [← hT] at k2 ⊢
    rw [← hL] at k2 ⊢
    have H0:=Lib.hid k1
    have HL0:=Lib.hid k2
    have HTL:Hid (w.heap.size ≤ T ∧ w.heap.size ≤ L):=⟨by omega,by omega⟩
    clear hW1 hT hL k1 k2 HW
    go_loopw [20] (fun iv wr => ∃ (j n c:Nat) (A:Option Addr),iv = .int .i64 j ∧ j ≤ m ∧ Hid (LS W1 wr T L s (xs.map DV.f) e j A c n)) (fun iv _ => m - (intOf iv).toNat)
    case atStart => exact ⟨0,0,0,none,rfl,Nat.zero_le _,HL0.out⟩
    case round =>
      clear HL0
      obtain ⟨j,n,c,A,rfl,hj,HD⟩:=hrel
      by_cases hlt:j < m
      · have hjl:j < xs.length:=by rw [← HM.out]; exact hlt
        have HFW:Hid (Fr [] w wr):=H0.out.seq HD.out.fr fun z hz => by rw [List.mem_singleton] at hz; exact .inr (.inr ⟨T,HTL.out.1,hz⟩)
        obtain ⟨bd,rfl,e0,e1⟩:=sl_elem (f:=DV.cells) (sz:=4) (fun _ => rfl) (HB.out.fr HFW.out (.inr List.not_mem_nil)) hjl (by omega)
        obtain ⟨x,hx⟩:∃ x,x = xs[j]:=⟨_,rfl⟩
        rw [← hx] at e0 e1
        have hxm:x ∈ xs:=by rw [hx]; exact List.getElem_mem hjl
        obtain ⟨y1,y2⟩:=HX.out x hxm
        obtain ⟨y3,y4,y5⟩:=HBD.out x hxm
        have HXF:Hid ((xs.map DV.f)[j]? = some x.f):=by show _ = _; rw [List.getElem?_map,List.getElem?_eq_getElem hjl,← hx]; rfl
        obtain ⟨xf,FB,fm,fd⟩:=x
        simp only at y1 y2 y3 y4 y5
        obtain ⟨fa,hfa⟩:∃ fa,fa = xf.a:=⟨_,rfl⟩
        obtain ⟨fn,hfn⟩:∃ fn,fn = xf.n:=⟨_,rfl⟩
        obtain ⟨fk,hfk⟩:∃ fk,fk = xf.kind:=⟨_,rfl⟩
        have c0:wr.cell? (bd.add (j * 4)) = some (.int .i64 (fa:Nat)):=by rw [hfa]; exact e0 _ rfl
        have c1:wr.cell? ⟨(bd.add (j * 4)).block,(bd.add (j * 4)).off + 1,none⟩ = some (.int .i64 (fn:Nat)):=by rw [hfn]; exact e1 0 _ rfl
        have c2:wr.cell? ⟨(bd.add (j * 4)).block,(bd.add (j * 4)).off + 2,none⟩ = some (.int .i64 (fk:Nat)):=by rw [hfk]; exact e1 1 _ rfl
        have c3:wr.cell? ⟨(bd.add (j * 4)).block,(bd.add (j * 4)).off + 3,none⟩ = some (.slice FB fm fd):=e1 2 _ rfl
        obtain ⟨q,hq⟩:∃ q,q = fa + fn:=⟨_,rfl⟩
        have q1:(fa:Int) + (fn:Int) = (q:Int):=by omega
        have q2:(q:Int) ≤ (s.length:Int):=by omega
        have q3:(fa:Int) ≤ (q:Int):=by omega
        have q4:(q:Int) ≤ 1000000:=by have:=HN.out; omega
        have HQ:Hid (q = fa + fn ∧ fa = xf.a ∧ fn = xf.n ∧ fm = xf.places.length ∧ fa + fn ≤ s.length ∧ fm ≤ s.length):=⟨hq,hfa,hfn,y2,by omega,by omega⟩
        have HTX:Hid (∀ w',Fr [] w w' → Calls Tryz.prog 107 #[.string ⟨s.toArray⟩,.slice FB fm fd] w' fun e w'' => e = .returned (.string ⟨(atP s xf.places).toArray⟩) ∧ w' = w''):=by
          show ∀ _,_
          intro w' hf
          exact dtext_any w' s FB fm fd xf.places (y1.fr hf (.inr List.not_mem_nil)) y2 y5 HN.out (by have:=HN.out; omega)
        have HW2:Hid (∀ wa,wa = wr.alloc (.cells #[.int .i64 (fa:Nat),.int .i64 (fn:Nat),.int .i64 (fk:Nat),.slice FB fm fd] TDf) → Fr [] wr wa ∧ Blk wa wr.heap.size TDf #[.int .i64 (fa:Nat),.int .i64 (fn:Nat),.int .i64 (fk:Nat),.slice FB fm fd]):=by
          show ∀ _,_
          rintro wa rfl
          exact ⟨(Fr.refl [] wr).alloc _,Blk.new wr TDf _⟩
        clear e0 e1 hx hxm y1 y2 y3 y4 y5 hfa hfn hfk hq
        by_cases hlo:400 < fm
        · have l1:(400:Int) < (fm:Int):=by omega
          have HBAD:Hid (∀ w',Fr [] w w' → D8Ans w s (xs.map DV.f) e (.returned (.tuple #[.agg #[.slice none 0 0,.int .i64 0,.bool false],.int .i64 7])) w'):=by
            show ∀ _,_
            intro w' hf
            exact LS.bad HXF.out (by rw [List.length_map]; have:=H40.out; have:=HM.out; omega) (by have:=HQ.out.2.2.2.1; show 400 < xf.places.length; omega) hf
          have l0:wr.cell? ⟨L,0,none⟩ = some (.slice none 0 0):=HD.out.lb.cell 0
          have l2:wr.cell? ⟨L,1,none⟩ = some (.int .i64 0):=HD.out.lb.cell 1
          have l3:wr.cell? ⟨L,2,none⟩ = some (.bool false):=HD.out.lb.cell 2
          have z0:=HD.out.lb.frozen 0
          have z1:=HD.out.lb.frozen 1
          have z2:=HD.out.lb.frozen 2
          have ll:=HD.out.lb.lt
          clear hlo
          go_wp2_with fail
          refine bodyPost_ret (v:=.tuple #[.agg #[.slice none 0 0,.int .i64 0,.bool false],.int .i64 7]) (by simp [results,Tryz.results86,go_sem, *]) rfl ?_
          exact HBAD.out _ ((((HFW.out.setB (fun h => absurd h (by have:=HTL.out.2; omega)) _ _).setB (fun h => absurd h (by have:=HTL.out.2; omega)) _ _).setB (fun h => absurd h (by have:=HTL.out.2; omega)) _ _).alloc _)
        · have l1:¬ (400:Int) < (fm:Int):=by omega
          have l4:(fm:Int) ≤ 400:=by omega
          have HLO:Hid (fm ≤ 400):=by show _ ≤ _; omega
          clear hlo
          go_wp2_with fail
          obtain ⟨wa,hwa⟩:∃ wa,wa = wr.alloc (.cells #[.int .i64 (fa:Nat),.int .i64 (fn:Nat),.int .i64 (fk:Nat),.slice FB fm fd] TDf):=⟨_,rfl⟩
          obtain ⟨k1,k2⟩:=HW2.out wa hwa
          rw [← hwa]
          obtain ⟨X,hX⟩:∃ X,X = wr.heap.size:=⟨_,rfl⟩
          rw [← hX] at k2 ⊢
          have HA:=Lib.hid (HD.out.fr0 k1)
          have HFA:=Lib.hid (HFW.out.trans k1)
          have HXB:Hid (∀ w',Fr [] wa w' → w'.cell? ⟨X,0,none⟩ = some (.int .i64 (fa:Nat)) ∧ w'.cell? ⟨X,1,none⟩ = some (.int .i64 (fn:Nat)) ∧ w'.cell? ⟨X,3,none⟩ = some (.slice FB fm fd)):=by
            show ∀ _,_
            intro w' hf
            have:=k2.fr hf (by simp)
            exact ⟨this.cell 0,this.cell 1,this.cell 3⟩
          obtain ⟨b0,b1,b3⟩:=HXB.out wa (Fr.refl _ _)
          have HXK0:=Lib.hid k2
          have HXL:Hid (wr.heap.size ≤ X):=by show _ ≤ _; omega
          have t0:wa.cell? ⟨T,0,none⟩ = some (.slice A n c):=HA.out.tb.cell 0
          have n1:=World.new_ne wa _ b0
          have n2:=World.new_ne wa _ t0
          clear hwa hX k1 k2 HW2 c0 c1 c2 c3
          have HXK:Hid (Blk wa X TDf #[.int .i64 (fa:Nat),.int .i64 (fn:Nat),.int .i64 (fk:Nat),.slice FB fm fd]):=HXK0.out
          have HNE:Hid (T ≠ X):=by show _ ≠ _; have:=HD.out.tb.lt; have:=HXL.out; omega
          have hne:¬ T = X:=HNE.out
          have HN9:Hid (n ≤ 100):=by show _ ≤ _; have:=HD.out.ln; have:=H40.out; omega
          have HFC:Hid (#[.string ⟨(atP s xf.places).toArray⟩,.string ((⟨s.toArray⟩:ByteArray).extract fa q),.bool true] = (DC.cells (fcell s xf)).toArray):=by
            show _ = _
            rw [str_cut,HQ.out.1]
            have e:(s.take (fa + fn)).drop fa = cutP s xf.a xf.n:=by
              rw [List.drop_take,Nat.add_sub_cancel_left,HQ.out.2.1,HQ.out.2.2.1]
              rfl
            rw [e]
            rfl
          have t0a:(wa.alloc (.cells #[.string ⟨(atP s xf.places).toArray⟩,.string ((⟨s.toArray⟩:ByteArray).extract fa q),.bool true] TDc)).cell? ⟨T,0,none⟩ = some (.slice A n c):=(HA.out.tb.alloc _).cell 0
          have t0b:((wa.alloc (.cells #[.string ⟨(atP s xf.places).toArray⟩,.string ((⟨s.toArray⟩:ByteArray).extract fa q),.bool true] TDc)).drew).cell? ⟨T,0,none⟩ = some (.slice A n c):=((HA.out.tb.alloc _).drew).cell 0
          have i1:(0:Int) ≤ (fa:Int):=by omega
          have q9:IntKind.i64.wrap (q:Int) = (q:Int):=by rw [IntKind.wrap_i64]; omega
          refine wp_region_noPanic ?_
          refine wp_region_held_drew (S:=(fun w' => w'.cell? ⟨X,0,none⟩ = some (.int .i64 (fa:Nat)) ∧ w'.cell? ⟨X,1,none⟩ = some (.int .i64 (fn:Nat)) ∧ w'.cell? ⟨X,3,none⟩ = some (.slice FB fm fd))) (by kernel_rfl) ⟨b0,b1,b3⟩ (fun hHeld => ?_)
          refine wpAnyH_take (i:=0) (oi:=_) (v:=?_) rfl (by kernel_rfl) (by kernel_rfl) (by kernel_rfl) (fun _ _ _ h => h) (Or.inl ⟨by rfl,?_⟩) (by assumption) ?_
          rotate_left
          · intro w hSw
            (try dsimp only at hSw)
            go_simp
            try with_reducible rfl
          try simp only [Act.put,List.setIfInBounds_toArray,List.set_cons_zero,List.set_cons_succ]
          refine wpAnyH_take (i:=2) (oi:=_) (v:=?_) rfl (by kernel_rfl) (by kernel_rfl) (by kernel_rfl) (fun _ _ _ h => h) (Or.inl ⟨by rfl,?_⟩) (by assumption) ?_
          rotate_left
          · intro w hSw
            (try dsimp only at hSw)
            go_simp
            try with_reducible rfl
          try simp only [Act.put,List.setIfInBounds_toArray,List.set_cons_zero,List.set_cons_succ]
          refine wpAnyH_take (i:=3) (oi:=_) (v:=?_) rfl (by kernel_rfl) (by kernel_rfl) (by kernel_rfl) (fun _ _ _ h => h) (Or.inl ⟨by rfl,?_⟩) (by assumption) ?_
          rotate_left
          · intro w hSw
            (try dsimp only at hSw)
            go_simp
            try with_reducible rfl
          try simp only [Act.put,List.setIfInBounds_toArray,List.set_cons_zero,List.set_cons_succ]
          refine wpAnyH_take (i:=4) (oi:=_) (v:=?_) rfl (by kernel_rfl) (by kernel_rfl) (by kernel_rfl) (fun _ _ _ h => h) (Or.inl ⟨by rfl,?_⟩) (by assumption) ?_
          rotate_left
          · intro w hSw
            (try dsimp only at hSw)
            go_simp
            try with_reducible rfl
          try simp only [Act.put,List.setIfInBounds_toArray,List.set_cons_zero,List.set_cons_succ]
          refine wpAnyH_take (i:=6) (oi:=_) (v:=?_) rfl (by kernel_rfl) (by kernel_rfl) (by kernel_rfl) (fun _ _ _ h => h) (Or.inl ⟨by rfl,?_⟩) (by assumption) ?_
          rotate_left
          · intro w hSw
            (try dsimp only at hSw)
            go_simp
            try with_reducible rfl
          try simp only [Act.put,List.setIfInBounds_toArray,List.set_cons_zero,List.set_cons_succ]
          refine wpAnyH_take (i:=7) (oi:=_) (v:=?_) rfl (by kernel_rfl) (by kernel_rfl) (by kernel_rfl) (fun _ _ _ h => h) (Or.inl ⟨by rfl,?_⟩) (by assumption) ?_
          rotate_left
          · intro w hSw
            (try dsimp only at hSw)
            go_simp
            try with_reducible rfl
          try simp only [Act.put,List.setIfInBounds_toArray,List.set_cons_zero,List.set_cons_succ]
          refine wpAnyH_take (i:=8) (oi:=_) (v:=?_) rfl (by kernel_rfl) (by kernel_rfl) (by kernel_rfl) (fun _ _ _ h => h) (Or.inl ⟨by rfl,?_⟩) (by assumption) ?_
          rotate_left
          · intro w hSw
            (try dsimp only at hSw)
            go_simp
            try with_reducible rfl
          try simp only [Act.put,List.setIfInBounds_toArray,List.set_cons_zero,List.set_cons_succ]
          refine wpAnyH_take (i:=9) (oi:=_) (v:=?_) rfl (by kernel_rfl) (by kernel_rfl) (by kernel_rfl) (fun _ _ _ h => h) (Or.inl ⟨by rfl,?_⟩) (by assumption) ?_
          rotate_left
          · intro w hSw
            (try dsimp only at hSw)
            go_simp
            try with_reducible rfl
          try simp only [Act.put,List.setIfInBounds_toArray,List.set_cons_zero,List.set_cons_succ]
          refine wpAnyH_take (i:=10) (oi:=_) (v:=?_) rfl (by kernel_rfl) (by kernel_rfl) (by kernel_rfl) (fun _ _ _ h => h) (Or.inl ⟨by rfl,?_⟩) (by assumption) ?_
          rotate_left
          · intro w hSw
            (try dsimp only at hSw)
            go_simp
            try with_reducible rfl
          try simp only [Act.put,List.setIfInBounds_toArray,List.set_cons_zero,List.set_cons_succ]
          refine wpAnyH_take (i:=11) (oi:=_) (v:=?_) rfl (by kernel_rfl) (by kernel_rfl) (by kernel_rfl) (fun _ _ _ h => h) (Or.inl ⟨by rfl,?_⟩) (by assumption) ?_
          rotate_left
          · intro w hSw
            (try dsimp only at hSw)
            go_simp
            try with_reducible rfl
          try simp only [Act.put,List.setIfInBounds_toArray,List.set_cons_zero,List.set_cons_succ]
          refine wpAnyH_take (i:=12) (oi:=_) (v:=?_) rfl (by kernel_rfl) (by kernel_rfl) (by kernel_rfl) (fun _ _ _ h => h) (Or.inl ⟨by rfl,?_⟩) (by assumption) ?_
          rotate_left
          · intro w hSw
            (try dsimp only at hSw)
            go_simp
            try with_reducible rfl
          try simp only [Act.put,List.setIfInBounds_toArray,List.set_cons_zero,List.set_cons_succ]
          refine wpAnyH_take (i:=13) (oi:=_) (v:=?_) rfl (by kernel_rfl) (by kernel_rfl) (by kernel_rfl) (fun _ _ _ h => h) (Or.inl ⟨by rfl,?_⟩) (by assumption) ?_
          rotate_left
          · intro w hSw
            (try dsimp only at hSw)
            go_simp
            try with_reducible rfl
          try simp only [Act.put,List.setIfInBounds_toArray,List.set_cons_zero,List.set_cons_succ]
          refine wpAnyH_take (i:=14) (oi:=_) (v:=?_) rfl (by kernel_rfl) (by kernel_rfl) (by kernel_rfl) (fun _ _ _ h => h) (Or.inl ⟨by rfl,?_⟩) (by assumption) ?_
          rotate_left
          · intro w hSw
            (try dsimp only at hSw)
            go_simp
            try with_reducible rfl
          try simp only [Act.put,List.setIfInBounds_toArray,List.set_cons_zero,List.set_cons_succ]
          refine wpAnyH_take (i:=15) (oi:=_) (v:=?_) rfl (by kernel_rfl) (by kernel_rfl) (by kernel_rfl) (fun _ _ _ h => h) (Or.inl ⟨by rfl,?_⟩) (by assumption) ?_
          rotate_left
          · intro w hSw
            (try dsimp only at hSw)
            go_simp
            try with_reducible rfl
          try simp only [Act.put,List.setIfInBounds_toArray,List.set_cons_zero,List.set_cons_succ]
          refine wpAnyH_take (i:=16) (oi:=_) (v:=?_) rfl (by kernel_rfl) (by kernel_rfl) (by kernel_rfl) (fun _ _ _ h => h) (Or.inl ⟨by rfl,?_⟩) (by assumption) ?_
          rotate_left
          · intro w hSw
            (try dsimp only at hSw)
            go_simp
            try with_reducible rfl
          try simp only [Act.put,List.setIfInBounds_toArray,List.set_cons_zero,List.set_cons_succ]
          refine wpAnyH_take (i:=17) (oi:=_) (v:=?_) rfl (by kernel_rfl) (by kernel_rfl) (by kernel_rfl) (fun _ _ _ h => h) (Or.inl ⟨by rfl,?_⟩) (by assumption) ?_
          rotate_left
          · intro w hSw
            (try dsimp only at hSw)
            go_simp
            try with_reducible rfl
          try simp only [Act.put,List.setIfInBounds_toArray,List.set_cons_zero,List.set_cons_succ]
          refine wpAnyH_ready (rs:=[1,5]) (by kernel_rfl) (by simp) ?_
          refine AllReadyH.cons rfl (fun K hK => ?_) (AllReadyH.cons rfl (fun K hK => ?_) AllReadyH.nil)
          · go_simp
            refine hK.out _ _ (by assumption) (fun hHeld => ?_)
            clear hK K
            try simp only [Act.put,List.setIfInBounds_toArray,List.set_cons_zero,List.set_cons_succ]
            refine wpAnyH_ready (rs:=[5]) (by kernel_rfl) (by simp) ?_
            refine AllReadyH.cons rfl (fun K hK => ?_) AllReadyH.nil
            refine step_call _ (by rfl) 107 #[.string ⟨s.toArray⟩,.slice FB fm fd] (by go_simp) _ (HTX.out _ (HFA.out.trans (Fr.refl [] wa).drew)) (by rintro e w' ⟨he,_⟩; exact ⟨_,he⟩) ?_
            intro v4 w4 hans
            obtain ⟨hv4,hw4⟩:=hans
            injection hv4 with hv4
            subst hv4 hw4
            try go_simp
            refine hK.out _ _ (by assumption) (fun hHeld => ?_)
            clear hK K
            try simp only [Act.put,List.setIfInBounds_toArray,List.set_cons_zero,List.set_cons_succ]
            refine wpAnyH_take (i:=18) (oi:=_) (v:=?_) rfl (by kernel_rfl) (by kernel_rfl) (by kernel_rfl) (fun _ _ _ h => h) (Or.inl ⟨by rfl,?_⟩) (by assumption) ?_
            rotate_left
            · intro w hSw
              (try dsimp only at hSw)
              go_simp
              try with_reducible rfl
            try simp only [Act.put,List.setIfInBounds_toArray,List.set_cons_zero,List.set_cons_succ]
            refine wpAnyH_ready (rs:=[19]) (by kernel_rfl) (by simp) ?_
            refine AllReadyH.cons rfl (fun K hK => ?_) AllReadyH.nil
            go_simp
            refine hK.out _ _ (HXB.out _ ((Fr.refl [] wa).drew.alloc _)) (fun hHeld => ?_)
            clear hK K
            try simp only [Act.put,List.setIfInBounds_toArray,List.set_cons_zero,List.set_cons_succ]
            refine wpAnyH_ready (rs:=[20]) (by kernel_rfl) (by simp) ?_
            refine AllReadyH.cons rfl (fun K hK => ?_) AllReadyH.nil
            refine step_app _ (by rfl) _ _ 86 TDc (by rfl) (Value.agg #[.string ⟨#[]⟩,.string ⟨#[]⟩,.bool false]) 3 40 Tryz.underlying86 infoDc rfl (by decide) A c n (dcc (((xs.map DV.f).take j).map (fcell s))) (by rfl) (ORow.fr HA.out.own ((Fr.refl [] wa).drew.alloc _) (.inr List.not_mem_nil)) _ 1 1 (DC.cells (fcell s xf)) (by rfl) rfl (by rw [HFC.out]; exact blk_sl (Blk.new wa TDc _).drew 3) (by simp [Value.oneCell',DC.cells]) (by have:=HN9.out; simp only [maxLen]; omega) (by have:=HN9.out; omega) ?_
            intro A2 c2 w5 hr2 hg2 hb2
            have hx:=HA.out.step HXF.out (by show xf.places.length ≤ 400; have:=HLO.out; have:=HQ.out; omega) ((Fr.refl [] wa).drew.alloc _) hr2 hg2 hb2
            have HX5:=Lib.hid hx.1
            have g0:w5.cell? ⟨T,0,none⟩ = some (.slice A n c):=hx.2.cell 0
            have z0:=hx.2.frozen 0
            have lg:=hx.2.lt
            have HS5:Hid (∀ W,W = w5 ∨ W = w5.setCell ⟨T,0,none⟩ (.slice A2 (n + 1) c2) → W.cell? ⟨X,0,none⟩ = some (.int .i64 (fa:Nat)) ∧ W.cell? ⟨X,1,none⟩ = some (.int .i64 (fn:Nat)) ∧ W.cell? ⟨X,3,none⟩ = some (.slice FB fm fd)):=by
              have hxA:some X ∉ [bk A]:=fun e => by
                rw [List.mem_singleton] at e
                rcases ORow.neB HA.out.own HXK.out (by decide) with h | h
                · rw [h] at e; cases e
                · exact h e.symm
              have q5:=(HXK.out.fr ((Fr.refl [] wa).drew.alloc _) (by simp)).fr hg2 hxA
              have q6:=q5.far (p:=⟨T,0,none⟩) (fun e => HNE.out e.symm) (.slice A2 (n + 1) c2)
              show ∀ _,_
              rintro W (rfl | rfl)
              · exact ⟨q5.cell 0,q5.cell 1,q5.cell 3⟩
              · exact ⟨q6.cell 0,q6.cell 1,q6.cell 3⟩
            clear hr2 hg2 hb2 hx
            try go_simp
            refine hK.out _ _ (HS5.out _ (.inl rfl)) (fun hHeld => ?_)
            clear hK K
            try simp only [Act.put,List.setIfInBounds_toArray,List.set_cons_zero,List.set_cons_succ]
            refine wpAnyH_take (i:=21) (oi:=_) (v:=?_) rfl (by kernel_rfl) (by kernel_rfl) (by kernel_rfl) (fun _ _ _ h => h) (Or.inl ⟨by rfl,?_⟩) (by assumption) ?_
            rotate_left
            · intro w hSw
              (try dsimp only at hSw)
              go_simp
              try with_reducible rfl
            try simp only [Act.put,List.setIfInBounds_toArray,List.set_cons_zero,List.set_cons_succ]
            refine wpAnyH_ready (rs:=[22]) (by kernel_rfl) (by simp) ?_
            refine AllReadyH.cons rfl (fun K hK => ?_) AllReadyH.nil
            go_simp
            refine hK.out _ _ (HS5.out _ (.inr rfl)) (fun hHeld => ?_)
            clear hK K
            try simp only [Act.put,List.setIfInBounds_toArray,List.set_cons_zero,List.set_cons_succ]
            refine wpAnyH_done (by kernel_rfl) ?_ _
            refine NoPanic.normal ?_
            go_wp2_with fail
            go_roundw
            case rel => exact ⟨j + 1,n + 1,c2,A2,by go_num,by omega,HX5.out⟩
            case measure => simp [intOf]; omega
          · refine step_call _ (by rfl) 107 #[.string ⟨s.toArray⟩,.slice FB fm fd] (by go_simp) _ (HTX.out _ (HFA.out.trans (Fr.refl [] wa).drew)) (by rintro e w' ⟨he,_⟩; exact ⟨_,he⟩) ?_
            intro v4 w4 hans
            obtain ⟨hv4,hw4⟩:=hans
            injection hv4 with hv4
            subst hv4 hw4
            try go_simp
            refine hK.out _ _ (by assumption) (fun hHeld => ?_)
            clear hK K
            try simp only [Act.put,List.setIfInBounds_toArray,List.set_cons_zero,List.set_cons_succ]
            refine wpAnyH_take (i:=18) (oi:=_) (v:=?_) rfl (by kernel_rfl) (by kernel_rfl) (by kernel_rfl) (fun _ _ _ h => h) (Or.inl ⟨by rfl,?_⟩) (by assumption) ?_
            rotate_left
            · intro w hSw
              (try dsimp only at hSw)
              go_simp
              try with_reducible rfl
            try simp only [Act.put,List.setIfInBounds_toArray,List.set_cons_zero,List.set_cons_succ]
            refine wpAnyH_ready (rs:=[1,19]) (by kernel_rfl) (by simp) ?_
            refine AllReadyH.cons rfl (fun K hK => ?_) (AllReadyH.cons rfl (fun K hK => ?_) AllReadyH.nil)
            · go_simp
              refine hK.out _ _ (by assumption) (fun hHeld => ?_)
              clear hK K
              try simp only [Act.put,List.setIfInBounds_toArray,List.set_cons_zero,List.set_cons_succ]
              refine wpAnyH_ready (rs:=[19]) (by kernel_rfl) (by simp) ?_
              refine AllReadyH.cons rfl (fun K hK => ?_) AllReadyH.nil
              go_simp
              refine hK.out _ _ (HXB.out _ ((Fr.refl [] wa).drew.alloc _)) (fun hHeld => ?_)
              clear hK K
              try simp only [Act.put,List.setIfInBounds_toArray,List.set_cons_zero,List.set_cons_succ]
              refine wpAnyH_ready (rs:=[20]) (by kernel_rfl) (by simp) ?_
              refine AllReadyH.cons rfl (fun K hK => ?_) AllReadyH.nil
              refine step_app _ (by rfl) _ _ 86 TDc (by rfl) (Value.agg #[.string ⟨#[]⟩,.string ⟨#[]⟩,.bool false]) 3 40 Tryz.underlying86 infoDc rfl (by decide) A c n (dcc (((xs.map DV.f).take j).map (fcell s))) (by rfl) (ORow.fr HA.out.own ((Fr.refl [] wa).drew.alloc _) (.inr List.not_mem_nil)) _ 1 1 (DC.cells (fcell s xf)) (by rfl) rfl (by rw [HFC.out]; exact blk_sl (Blk.new wa TDc _).drew 3) (by simp [Value.oneCell',DC.cells]) (by have:=HN9.out; simp only [maxLen]; omega) (by have:=HN9.out; omega) ?_
              intro A2 c2 w5 hr2 hg2 hb2
              have hx:=HA.out.step HXF.out (by show xf.places.length ≤ 400; have:=HLO.out; have:=HQ.out; omega) ((Fr.refl [] wa).drew.alloc _) hr2 hg2 hb2
              have HX5:=Lib.hid hx.1
              have g0:w5.cell? ⟨T,0,none⟩ = some (.slice A n c):=hx.2.cell 0
              have z0:=hx.2.frozen 0
              have lg:=hx.2.lt
              have HS5:Hid (∀ W,W = w5 ∨ W = w5.setCell ⟨T,0,none⟩ (.slice A2 (n + 1) c2) → W.cell? ⟨X,0,none⟩ = some (.int .i64 (fa:Nat)) ∧ W.cell? ⟨X,1,none⟩ = some (.int .i64 (fn:Nat)) ∧ W.cell? ⟨X,3,none⟩ = some (.slice FB fm fd)):=by
                have hxA:some X ∉ [bk A]:=fun e => by
                  rw [List.mem_singleton] at e
                  rcases ORow.neB HA.out.own HXK.out (by decide) with h | h
                  · rw [h] at e; cases e
                  · exact h e.symm
                have q5:=(HXK.out.fr ((Fr.refl [] wa).drew.alloc _) (by simp)).fr hg2 hxA
                have q6:=q5.far (p:=⟨T,0,none⟩) (fun e => HNE.out e.symm) (.slice A2 (n + 1) c2)
                show ∀ _,_
                rintro W (rfl | rfl)
                · exact ⟨q5.cell 0,q5.cell 1,q5.cell 3⟩
                · exact ⟨q6.cell 0,q6.cell 1,q6.cell 3⟩
              clear hr2 hg2 hb2 hx
              try go_simp
              refine hK.out _ _ (HS5.out _ (.inl rfl)) (fun hHeld => ?_)
              clear hK K
              try simp only [Act.put,List.setIfInBounds_toArray,List.set_cons_zero,List.set_cons_succ]
              refine wpAnyH_take (i:=21) (oi:=_) (v:=?_) rfl (by kernel_rfl) (by kernel_rfl) (by kernel_rfl) (fun _ _ _ h => h) (Or.inl ⟨by rfl,?_⟩) (by assumption) ?_
              rotate_left
              · intro w hSw
                (try dsimp only at hSw)
                go_simp
                try with_reducible rfl
              try simp only [Act.put,List.setIfInBounds_toArray,List.set_cons_zero,List.set_cons_succ]
              refine wpAnyH_ready (rs:=[22]) (by kernel_rfl) (by simp) ?_
              refine AllReadyH.cons rfl (fun K hK => ?_) AllReadyH.nil
              go_simp
              refine hK.out _ _ (HS5.out _ (.inr rfl)) (fun hHeld => ?_)
              clear hK K
              try simp only [Act.put,List.setIfInBounds_toArray,List.set_cons_zero,List.set_cons_succ]
              refine wpAnyH_done (by kernel_rfl) ?_ _
              refine NoPanic.normal ?_
              go_wp2_with fail
              go_roundw
              case rel => exact ⟨j + 1,n + 1,c2,A2,by go_num,by omega,HX5.out⟩
              case measure => simp [intOf]; omega
            · go_simp
              refine hK.out _ _ (HXB.out _ ((Fr.refl [] wa).drew.alloc _)) (fun hHeld => ?_)
              clear hK K
              try simp only [Act.put,List.setIfInBounds_toArray,List.set_cons_zero,List.set_cons_succ]
              refine wpAnyH_ready (rs:=[1]) (by kernel_rfl) (by simp) ?_
              refine AllReadyH.cons rfl (fun K hK => ?_) AllReadyH.nil
              go_simp
              refine hK.out _ _ (by assumption) (fun hHeld => ?_)
              clear hK K
              try simp only [Act.put,List.setIfInBounds_toArray,List.set_cons_zero,List.set_cons_succ]
              refine wpAnyH_ready (rs:=[20]) (by kernel_rfl) (by simp) ?_
              refine AllReadyH.cons rfl (fun K hK => ?_) AllReadyH.nil
              refine step_app _ (by rfl) _ _ 86 TDc (by rfl) (Value.agg #[.string ⟨#[]⟩,.string ⟨#[]⟩,.bool false]) 3 40 Tryz.underlying86 infoDc rfl (by decide) A c n (dcc (((xs.map DV.f).take j).map (fcell s))) (by rfl) (ORow.fr HA.out.own ((Fr.refl [] wa).drew.alloc _) (.inr List.not_mem_nil)) _ 1 1 (DC.cells (fcell s xf)) (by rfl) rfl (by rw [HFC.out]; exact blk_sl (Blk.new wa TDc _).drew 3) (by simp [Value.oneCell',DC.cells]) (by have:=HN9.out; simp only [maxLen]; omega) (by have:=HN9.out; omega) ?_
              intro A2 c2 w5 hr2 hg2 hb2
              have hx:=HA.out.step HXF.out (by show xf.places.length ≤ 400; have:=HLO.out; have:=HQ.out; omega) ((Fr.refl [] wa).drew.alloc _) hr2 hg2 hb2
              have HX5:=Lib.hid hx.1
              have g0:w5.cell? ⟨T,0,none⟩ = some (.slice A n c):=hx.2.cell 0
              have z0:=hx.2.frozen 0
              have lg:=hx.2.lt
              have HS5:Hid (∀ W,W = w5 ∨ W = w5.setCell ⟨T,0,none⟩ (.slice A2 (n + 1) c2) → W.cell? ⟨X,0,none⟩ = some (.int .i64 (fa:Nat)) ∧ W.cell? ⟨X,1,none⟩ = some (.int .i64 (fn:Nat)) ∧ W.cell? ⟨X,3,none⟩ = some (.slice FB fm fd)):=by
                have hxA:some X ∉ [bk A]:=fun e => by
                  rw [List.mem_singleton] at e
                  rcases ORow.neB HA.out.own HXK.out (by decide) with h | h
                  · rw [h] at e; cases e
                  · exact h e.symm
                have q5:=(HXK.out.fr ((Fr.refl [] wa).drew.alloc _) (by simp)).fr hg2 hxA
                have q6:=q5.far (p:=⟨T,0,none⟩) (fun e => HNE.out e.symm) (.slice A2 (n + 1) c2)
                show ∀ _,_
                rintro W (rfl | rfl)
                · exact ⟨q5.cell 0,q5.cell 1,q5.cell 3⟩
                · exact ⟨q6.cell 0,q6.cell 1,q6.cell 3⟩
              clear hr2 hg2 hb2 hx
              try go_simp
              refine hK.out _ _ (HS5.out _ (.inl rfl)) (fun hHeld => ?_)
              clear hK K
              try simp only [Act.put,List.setIfInBounds_toArray,List.set_cons_zero,List.set_cons_succ]
              refine wpAnyH_take (i:=21) (oi:=_) (v:=?_) rfl (by kernel_rfl) (by kernel_rfl) (by kernel_rfl) (fun _ _ _ h => h) (Or.inl ⟨by rfl,?_⟩) (by assumption) ?_
              rotate_left
              · intro w hSw
                (try dsimp only at hSw)
                go_simp
                try with_reducible rfl
              try simp only [Act.put,List.setIfInBounds_toArray,List.set_cons_zero,List.set_cons_succ]
              refine wpAnyH_ready (rs:=[22]) (by kernel_rfl) (by simp) ?_
              refine AllReadyH.cons rfl (fun K hK => ?_) AllReadyH.nil
              go_simp
              refine hK.out _ _ (HS5.out _ (.inr rfl)) (fun hHeld => ?_)
              clear hK K
              try simp only [Act.put,List.setIfInBounds_toArray,List.set_cons_zero,List.set_cons_succ]
              refine wpAnyH_done (by kernel_rfl) ?_ _
              refine NoPanic.normal ?_
              go_wp2_with fail
              go_roundw
              case rel => exact ⟨j + 1,n + 1,c2,A2,by go_num,by omega,HX5.out⟩
              case measure => simp [intOf]; omega
      · obtain rfl:j = m:=by omega
        have HEND:Hid (∀ w',Fr [some L] wr w' → D8Ans w s (xs.map DV.f) e (.returned (.tuple #[.agg #[.slice A n c,.int .i64 (e:Nat),.bool false],.int .i64 0])) w'):=by
          show ∀ _,_
          intro w' hf
          exact HD.out.fin (by rw [List.length_map]; exact HM.out) H40.out H0.out HTL.out.1 HTL.out.2 hf
        have t0:wr.cell? ⟨T,0,none⟩ = some (.slice A n c):=HD.out.tb.cell 0
        have t1:wr.cell? ⟨T,1,none⟩ = some (.int .i64 (e:Nat)):=HD.out.tb.cell 1
        have t2:wr.cell? ⟨T,2,none⟩ = some (.bool false):=HD.out.tb.cell 2
        have l0:wr.cell? ⟨L,0,none⟩ = some (.slice none 0 0):=HD.out.lb.cell 0
        have l1:wr.cell? ⟨L,1,none⟩ = some (.int .i64 0):=HD.out.lb.cell 1
        have l2:wr.cell? ⟨L,2,none⟩ = some (.bool false):=HD.out.lb.cell 2
        have z0:=HD.out.lb.frozen 0
        have z1:=HD.out.lb.frozen 1
        have z2:=HD.out.lb.frozen 2
        have ll:=HD.out.lb.lt
        go_wp2_with fail
        refine bodyPost_ret (v:=.tuple #[.agg #[.slice A n c,.int .i64 (e:Nat),.bool false],.int .i64 0]) (by simp [results,Tryz.results86,go_sem, *]) rfl ?_
        exact HEND.out _ ((((Fr.refl [some L] wr).setB (fun _ => by simp) _ _).setB (fun _ => by simp) _ _).setB (fun _ => by simp) _ _)
end Go.Proofs.YteohomdiklkbfaaGreat
