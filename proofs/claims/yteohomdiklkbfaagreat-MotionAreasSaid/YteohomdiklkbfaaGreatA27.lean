import Derived.Test.YteohomdiklkbfaaGreatA25
import Derived.Test.YteohomdiklkbfaaGreatA26
import Derived.Test.YteohomdiklkbfaaGreatA17
namespace Go.Proofs.Dm
theorem quoP_in:∀ (l:List UInt8) (i:Nat),∀ p ∈ (quoP l i).1,p < i + l.length
  | [],i => by simp [quoP]
  | [c],i => by
    intro p hp
    unfold quoP at hp
    split at hp
    · simp at hp
    · simp at hp; simp [hp]
  | c :: d :: r,i => by
    intro p hp
    have h1:=quoP_in r (i + 2)
    have h2:=quoP_in (d :: r) (i + 1)
    unfold quoP at hp
    simp only [List.length_cons] at h2 ⊢
    by_cases hc:c = 34
    · rw [if_pos hc] at hp
      by_cases hd:d = 34
      · rw [if_pos hd] at hp
        rcases List.mem_cons.1 hp with rfl | hp
        · omega
        · have:=h1 p hp; omega
      · rw [if_neg hd] at hp; simp at hp
    · rw [if_neg hc] at hp
      rcases List.mem_cons.1 hp with rfl | hp
      · omega
      · have:=h2 p hp; omega
theorem fieldP_in (s:List UInt8) (a:Nat) (h:a ≤ s.length):∀ i ∈ (fieldP s a).places,i < s.length:=by
  unfold fieldP
  split
  · rename_i hq
    have hlt:a < s.length:=by
      rcases Nat.lt_or_ge a s.length with h | h
      · exact h
      · rw [List.getElem?_eq_none h] at hq; cases hq
    have hb:=quoP_bd (s.drop (a + 1)) (a + 1)
    have hl:=quoP_in (s.drop (a + 1)) (a + 1)
    rw [List.length_drop] at hb hl
    dsimp only
    split
    · rename_i hc
      have h3:=hb.2.2.1 hc
      have h4:=tillP_bd s ((quoP (s.drop (a + 1)) (a + 1)).2.1 + 1) (by omega)
      dsimp only
      intro i hi
      rcases List.mem_append.1 hi with hi | hi
      · have:=hl i hi; omega
      · have:=List.mem_range'_1.1 hi; omega
    · dsimp only
      intro i hi
      have:=hl i hi; omega
  · have h4:=tillP_bd s a h
    dsimp only
    intro i hi
    have:=List.mem_range'_1.1 hi; omega
theorem fieldsP_in (s:List UInt8):∀ (k a:Nat),a ≤ s.length → ∀ f ∈ fieldsP s k a,∀ i ∈ f.places,i < s.length
  | 0,a,_ => by simp [fieldsP]
  | k + 1,a,h => by
    intro f hf
    rcases List.mem_cons.1 (show f ∈ fieldP s a :: _ from hf) with rfl | hf
    · exact fieldP_in s a h
    · split at hf
      · rename_i hq
        have hlt:a + (fieldP s a).n < s.length:=by
          rcases Nat.lt_or_ge (a + (fieldP s a).n) s.length with h | h
          · exact h
          · rw [List.getElem?_eq_none h] at hq; cases hq
        exact fieldsP_in s k _ hlt f hf
      · simp at hf
theorem linesP_in (s:List UInt8):∀ (k a:Nat),∀ x ∈ linesP s k a,∀ f ∈ x.fields,∀ i ∈ f.places,i < s.length
  | 0,a => by simp [linesP]
  | k + 1,a => by
    intro x hx
    by_cases h:a < s.length
    · rw [show linesP s (k + 1) a = (lineP s a).1 :: linesP s k (lineP s a).2 by show (if a < s.length then _ else _) = _; rw [if_pos h]] at hx
      rcases List.mem_cons.1 hx with rfl | hx
      · exact fieldsP_in s _ a (Nat.le_of_lt h)
      · exact linesP_in s k _ x hx
    · rw [show linesP s (k + 1) a = [] by show (if a < s.length then _ else _) = _; rw [if_neg h]] at hx
      simp at hx
theorem tailP_last (es:List Nat) (j e:Nat) (h:es[j]? = some e):tailP (es.take (j + 1)) = ((e:Int) != 0):=by
  have hl:j < es.length:=by
    rcases Nat.lt_or_ge j es.length with h' | h'
    · exact h'
    · rw [List.getElem?_eq_none h'] at h; cases h
  rw [List.getElem?_eq_getElem hl] at h
  injection h with h
  rw [List.take_succ_eq_append_getElem hl,h]
  unfold tailP
  rw [List.getLast?_concat]
  show (e != 0) = _
  rw [Bool.eq_iff_iff]
  simp
end Go.Proofs.Dm
namespace Go.Proofs.YteohomdiklkbfaaGreat
open Go.RowKit Go.Proofs.Dm

abbrev TD11:TypeId:=35
structure RD where
  B:Option Addr
  m:Nat
  d:Nat
  cs:List DC
  e:Int
  h:Bool
def RD.cells (x:RD):List Value:=[.slice x.B x.m x.d,.int .i64 x.e,.bool x.h]
def rdc (xs:List RD):List Value:=xs.flatMap RD.cells
theorem rdc_app (a b:List RD):rdc (a ++ b) = rdc a ++ rdc b:=by simp [rdc]
def RDAt (x:RD) (w:World):Prop:=Sl w x.B (dcc x.cs) ∧ x.m = x.cs.length
def RD.pic (x:RD):List DC × Int × Bool:=(x.cs,x.e,x.h)
def lpic (s:List UInt8) (l:LineP):List DC × Int × Bool:=(l.fields.map (fcell s),(l.e:Int),false)
def D11Ans (E:List (Option Nat)) (w:World) (s:List UInt8) (en:Ending) (w':World):Prop :=
  (loadErrP s ≠ 0 ∧ en = .returned (.tuple #[.agg #[.slice none 0 0,.bool false,.int .i64 2],.int .i64 (loadErrP s:Nat)]) ∧ Fr [] w w') ∨
  (loadErrP s = 0 ∧ ∃ (B:Option Addr) (m d:Nat) (rs:List RD),en = .returned (.tuple #[.agg #[.slice B m d,.bool (tailP ((allLines s).map (·.e))),.int .i64 (eolP ((allLines s).map (·.e)):Nat)],.int .i64 0]) ∧ m = rs.length ∧ rs.map RD.pic = (allLines s).map (lpic s) ∧ Kp E w' (fun w => Sl w B (rdc rs) ∧ ∀ x ∈ rs,RDAt x w) ∧ Fr [] w w')
theorem infoD8:(Tryz.prog.info? TD8).map (fun i => (i.zero,i.size,i.bytes)) = some (some (Value.agg #[.slice none 0 0,.int .i64 0,.bool false]),3,40):=by kernel_rfl
structure LD (E:List (Option Nat)) (W1 w:World) (T L:Nat) (s:List UInt8) (ls:List LineP) (j:Nat) (B:Option Addr) (d m:Nat) (rs:List RD):Prop where
  tb:Blk w T TD11 #[.slice B m d,.bool (tailP ((ls.take j).map (·.e))),.int .i64 2]
  lb:Blk w L TD11 #[.slice none 0 0,.bool false,.int .i64 0]
  own:ORow w TD8 3 B d m (rdc rs)
  ln:m = rs.length
  rv:rs.map RD.pic = (ls.take j).map (lpic s)
  ok:∀ x ∈ rs,Kp (some T :: some L :: bk B :: E) w (RDAt x)
  fr:Fr [some T] W1 w
  tl:T < W1.heap.size
  ll:L < W1.heap.size
  ne:T ≠ L
  bn:∀ k,bk B = some k → W1.heap.size ≤ k
  jn:j ≤ ls.length
  no:∀ l ∈ ls.take j,rowErrP l.fields = 0
  old:Old E W1
section
variable {E:List (Option Nat)} {W1 w w':World} {T L j d m:Nat} {B:Option Addr} {s:List UInt8} {ls:List LineP} {rs:List RD}
theorem LD.len (h:LD E W1 w T L s ls j B d m rs):m = j:=by
  have:=congrArg List.length h.rv
  rw [List.length_map,List.length_map,List.length_take,← h.ln] at this
  have:=h.jn
  omega
theorem LD.step {w1 wa w5:World} {B2 FB:Option Addr} {d2 fm fd:Nat} {l:LineP} (h:LD E W1 w T L s ls j B d m rs) (hl:ls[j]? = some l) (h0:rowErrP l.fields = 0)
    (hm:fm = l.fields.length) (hk:∀ E,Old E w → Kp E w1 (fun w => Sl w FB (dcc (l.fields.map (fcell s))))) (h1:Fr [] w w1) (hfa:Fr [] w1 wa)
    (hr:ORow w5 TD8 3 B2 d2 (m + 1) (rdc rs ++ [.slice FB fm fd,.int .i64 (l.e:Nat),.bool false])) (hg:Fr [bk B] wa w5) (hb:bk B2 = bk B ∨ bk B2 = some wa.heap.size) :
    LD E W1 ((w5.setCell ⟨T,0,none⟩ (.slice B2 (m + 1) d2)).setCell ⟨T,1,none⟩ (.bool ((l.e:Int) != 0))) T L s ls (j + 1) B2 d2 (m + 1) (rs ++ [⟨FB,fm,fd,l.fields.map (fcell s),l.e,false⟩]) ∧
    Blk w5 T TD11 #[.slice B m d,.bool (tailP ((ls.take j).map (·.e))),.int .i64 2]:=by
  have hjl:j < ls.length:=by
    rcases Nat.lt_or_ge j ls.length with h | h
    · exact h
    · rw [List.getElem?_eq_none h] at hl; cases hl
  have hlj:ls[j] = l:=by rw [List.getElem?_eq_getElem hjl] at hl; injection hl
  have ht:ls.take (j + 1) = ls.take j ++ [l]:=by rw [List.take_succ_eq_append_getElem hjl,hlj]
  have hs:=h.fr.size
  have hs1:=h1.size
  have hsa:=hfa.size
  have f0a:Fr [] w wa:=h1.trans hfa
  have hn:∀ b,b < W1.heap.size → some b ∉ [bk B]:=fun b hb e => by
    rw [List.mem_singleton] at e
    have:=h.bn b e.symm
    omega
  have t5:=(h.tb.fr f0a (by simp)).fr hg (hn T h.tl)
  have l5:=(h.lb.fr f0a (by simp)).fr hg (hn L h.ll)
  have hset:Fr [some T] w5 ((w5.setCell ⟨T,0,none⟩ (.slice B2 (m + 1) d2)).setCell ⟨T,1,none⟩ (.bool ((l.e:Int) != 0))):=((Fr.refl _ w5).setB (by simp) 0 _).setB (by simp) 1 _
  have hB2:∀ k,bk B2 = some k → W1.heap.size ≤ k:=fun k hk => by
    rcases hb with e | e
    · exact h.bn k (e ▸ hk)
    · rw [e] at hk; injection hk with hk; omega
  have f1:Fr (some T :: some L :: bk B :: E) w1 ((w5.setCell ⟨T,0,none⟩ (.slice B2 (m + 1) d2)).setCell ⟨T,1,none⟩ (.bool ((l.e:Int) != 0))) :=
    (hfa.of_nil.trans (hg.weaken fun i _ h => by rw [List.mem_singleton] at h; rw [h]; exact List.mem_cons_of_mem _ (List.mem_cons_of_mem _ (List.mem_cons_self ..)))).trans (hset.weaken fun i _ h => by rw [List.mem_singleton] at h; rw [h]; exact List.mem_cons_self ..)
  have hgE:∀ i,some i ∈ some T :: some L :: bk B2 :: E → some i ∈ some T :: some L :: bk B :: E ∨ wa.heap.size ≤ i:=fun i e => by
    rcases List.mem_cons.1 e with e | e
    · exact .inl (by rw [e]; exact List.mem_cons_self ..)
    rcases List.mem_cons.1 e with e | e
    · exact .inl (by rw [e]; exact List.mem_cons_of_mem _ (List.mem_cons_self ..))
    rcases List.mem_cons.1 e with e | e
    · rcases hb with h5 | h5
      · exact .inl (by rw [e,h5]; exact List.mem_cons_of_mem _ (List.mem_cons_of_mem _ (List.mem_cons_self ..)))
      · rw [h5] at e; injection e with e; exact .inr (by omega)
    · exact .inl (List.mem_cons_of_mem _ (List.mem_cons_of_mem _ (List.mem_cons_of_mem _ e)))
  have hO:Old (some T :: some L :: bk B :: E) w:=fun i hi => by
    rcases List.mem_cons.1 hi with e | e
    · injection e with e; have:=h.tl; omega
    rcases List.mem_cons.1 e with e | e
    · injection e with e; have:=h.ll; omega
    rcases List.mem_cons.1 e with e | e
    · exact ORow.lt h.own e.symm
    · have:=h.old i e; omega
  refine ⟨⟨?_,l5.fr hset (fun e => by rw [List.mem_singleton] at e; injection e with e; exact h.ne e.symm),?_,by rw [List.length_append,h.ln]; rfl,?_,?_,?_,h.tl,h.ll,h.ne,hB2,hjl,?_,h.old⟩,t5⟩
  · have:=(t5.set_ 0 (.slice B2 (m + 1) d2)).set_ 1 (.bool ((l.e:Int) != 0))
    rw [List.map_take,tailP_last (ls.map (·.e)) j l.e (by rw [List.getElem?_map,hl]; rfl)]
    exact this
  · rw [rdc_app]
    refine ORow.fr ?_ hset (newS h.tl hB2)
    simpa [rdc,RD.cells] using hr
  · rw [ht,List.map_append,List.map_append,h.rv]
    rfl
  · intro x hx
    rcases List.mem_append.1 hx with hx | hx
    · exact ((h.ok x hx).fr0 h1).grow f1 fun i hi => (hgE i hi).imp_right fun h => by omega
    · rw [List.mem_singleton] at hx
      subst hx
      have hnew:Kp (some T :: some L :: bk B :: E) w1 (RDAt ⟨FB,fm,fd,l.fields.map (fcell s),l.e,false⟩):=fun w'' hf => ⟨(hk _ hO) w'' hf,by show fm = _; rw [List.length_map]; exact hm⟩
      exact hnew.grow f1 fun i hi => (hgE i hi).imp_right fun h => by omega
  · refine ((h.fr.trans f0a.of_nil).seq hg fun z hz => ?_).trans hset
    rw [List.mem_singleton] at hz
    subst hz
    cases hB:bk B with
    | none => exact .inr (.inl rfl)
    | some k => exact .inr (.inr ⟨k,h.bn k hB,rfl⟩)
  · intro g hg
    rw [ht] at hg
    rcases List.mem_append.1 hg with hg | hg
    · exact h.no g hg
    · rw [List.mem_singleton] at hg; rw [hg]; exact h0
theorem LD.fr0 (h:LD E W1 w T L s ls j B d m rs) (hf:Fr [] w w'):LD E W1 w' T L s ls j B d m rs :=
  ⟨h.tb.fr hf (by simp),h.lb.fr hf (by simp),ORow.fr h.own hf (.inr List.not_mem_nil),h.ln,h.rv,fun x hx => (h.ok x hx).fr0 hf,h.fr.trans hf.of_nil,h.tl,h.ll,h.ne,h.bn,h.jn,h.no,h.old⟩
theorem LD.bad {w0:World} {l:LineP} (h:LD E W1 w T L s ls j B d m rs) (hls:ls = allLines s) (h4:s.length ≤ 4096) (h400:ls.length ≤ 400) (hl:ls[j]? = some l) (h0:rowErrP l.fields ≠ 0) (hf:Fr [] w0 w') :
    D11Ans E w0 s (.returned (.tuple #[.agg #[.slice none 0 0,.bool false,.int .i64 2],.int .i64 (rowErrP l.fields:Nat)])) w':=by
  have hjl:j < ls.length:=by
    rcases Nat.lt_or_ge j ls.length with h | h
    · exact h
    · rw [List.getElem?_eq_none h] at hl; cases hl
  have he:loadErrP s = rowErrP l.fields:=by
    unfold loadErrP
    rw [if_neg (by omega),← hls,if_neg (by omega),errP_take ls j h.no,List.drop_eq_getElem_cons hjl]
    rw [List.getElem?_eq_getElem hjl] at hl
    injection hl with hl
    rw [hl]
    show (if rowErrP l.fields = 0 then _ else _) = _
    rw [if_neg h0]
  exact .inl ⟨by rw [he]; exact h0,by rw [he],hf⟩
structure LE (E:List (Option Nat)) (W1 w:World) (T L:Nat) (s:List UInt8) (k:Nat) (B:Option Addr) (d m:Nat) (rs:List RD):Prop where
  tb:Blk w T TD11 #[.slice B m d,.bool (tailP ((allLines s).map (·.e))),.int .i64 (eolP (((allLines s).map (·.e)).drop k):Nat)]
  lb:Blk w L TD11 #[.slice none 0 0,.bool false,.int .i64 0]
  own:Kp (some T :: some L :: E) w (fun w => Sl w B (rdc rs))
  ln:m = rs.length
  rv:rs.map RD.pic = (allLines s).map (lpic s)
  ok:∀ x ∈ rs,Kp (some T :: some L :: E) w (RDAt x)
  fr:Fr [some T] W1 w
  er:loadErrP s = 0
  ne:T ≠ L
theorem LD.all (h:LD E W1 w T L s ls j B d m rs) (hls:ls = allLines s) (h4:s.length ≤ 4096) (h400:ls.length ≤ 400) (hj:j = ls.length):LE E W1 w T L s j B d m rs:=by
  have htk:ls.take j = ls:=List.take_of_length_le (by omega)
  have htb:=h.tb
  have hv:=h.rv
  have hno:=h.no
  rw [htk] at htb hv hno
  refine ⟨?_,h.lb,?_,h.ln,hls ▸ hv,fun x hx => (h.ok x hx).sub fun i hi => ?_,h.fr,?_,h.ne⟩
  · rw [← hls,List.drop_of_length_le (by rw [List.length_map]; omega)]
    exact htb
  · refine Kp.sl (ORow.sl h.own) ?_
    cases hB:bk B with
    | none => exact .inl rfl
    | some k =>
      have hk:=h.bn k hB
      refine .inr fun e => ?_
      rcases List.mem_cons.1 e with e | e
      · injection e with e; have:=h.tl; omega
      rcases List.mem_cons.1 e with e | e
      · injection e with e; have:=h.ll; omega
      · have:=h.old k e; omega
  · rcases List.mem_cons.1 hi with e | e
    · exact e ▸ List.mem_cons_self ..
    rcases List.mem_cons.1 e with e | e
    · exact e ▸ List.mem_cons_of_mem _ (List.mem_cons_self ..)
    · exact List.mem_cons_of_mem _ (List.mem_cons_of_mem _ (List.mem_cons_of_mem _ e))
  · unfold loadErrP
    rw [if_neg (by omega),← hls,if_neg (by omega),errP_take ls ls.length (fun l hl => hno l (List.mem_of_mem_take hl)),List.drop_length]
    rfl
theorem LE.zero {k:Nat} {l:LineP} (h:LE E W1 w T L s (k + 1) B d m rs) (hl:(allLines s)[k]? = some l) (h0:l.e = 0):LE E W1 w T L s k B d m rs:=by
  have htb:=h.tb
  have hd:((allLines s).map (·.e)).drop k = l.e :: ((allLines s).map (·.e)).drop (k + 1):=by
    have hkl:k < ((allLines s).map (·.e)).length:=by
      rw [List.length_map]
      rcases Nat.lt_or_ge k (allLines s).length with h | h
      · exact h
      · rw [List.getElem?_eq_none h] at hl; cases hl
    rw [List.drop_eq_getElem_cons hkl]
    congr 1
    rw [List.getElem_map]
    rw [List.getElem?_eq_getElem (by rw [List.length_map] at hkl; exact hkl)] at hl
    injection hl with hl
    rw [hl]
  refine ⟨?_,h.lb,h.own,h.ln,h.rv,h.ok,h.fr,h.er,h.ne⟩
  rw [hd,h0]
  exact htb
theorem LE.put {k:Nat} {l:LineP} (h:LE E W1 w T L s (k + 1) B d m rs) (hl:(allLines s)[k]? = some l) (h0:l.e ≠ 0):LE E W1 (w.setCell ⟨T,2,none⟩ (.int .i64 (l.e:Nat))) T L s k B d m rs:=by
  have hd:((allLines s).map (·.e)).drop k = l.e :: ((allLines s).map (·.e)).drop (k + 1):=by
    have hkl:k < ((allLines s).map (·.e)).length:=by
      rw [List.length_map]
      rcases Nat.lt_or_ge k (allLines s).length with h | h
      · exact h
      · rw [List.getElem?_eq_none h] at hl; cases hl
    rw [List.drop_eq_getElem_cons hkl]
    congr 1
    rw [List.getElem_map]
    rw [List.getElem?_eq_getElem (by rw [List.length_map] at hkl; exact hkl)] at hl
    injection hl with hl
    rw [hl]
  have hset:Fr [some T] w (w.setCell ⟨T,2,none⟩ (.int .i64 (l.e:Nat))):=(Fr.refl _ w).setB (by simp) 2 _
  have hsE:Fr (some T :: some L :: E) w (w.setCell ⟨T,2,none⟩ (.int .i64 (l.e:Nat))):=hset.weaken fun i _ h => by rw [List.mem_singleton] at h; rw [h]; exact List.mem_cons_self ..
  refine ⟨?_,?_,h.own.fr hsE,h.ln,h.rv,fun x hx => (h.ok x hx).fr hsE,h.fr.trans hset,h.er,h.ne⟩
  · rw [hd,show eolP (l.e :: ((allLines s).map (·.e)).drop (k + 1)) = l.e by show (if l.e = 0 then _ else _) = _; rw [if_neg h0]]
    exact h.tb.set_ 2 _
  · exact h.lb.fr hset (fun e => by rw [List.mem_singleton] at e; injection e with e; exact h.ne e.symm)
theorem LE.fin {w0:World} (h:LE E W1 w T L s 0 B d m rs) (h0:Fr [] w0 W1) (hT:w0.heap.size ≤ T) (hL:w0.heap.size ≤ L) (hw:Fr [some L] w w') :
    D11Ans E w0 s (.returned (.tuple #[.agg #[.slice B m d,.bool (tailP ((allLines s).map (·.e))),.int .i64 (eolP ((allLines s).map (·.e)):Nat)],.int .i64 0])) w':=by
  have hwE:Fr (some T :: some L :: E) w w':=hw.weaken fun i _ h => by rw [List.mem_singleton] at h; rw [h]; exact List.mem_cons_of_mem _ (List.mem_cons_self ..)
  have hsub:∀ i,some i ∈ E → some i ∈ some T :: some L :: E:=fun i hi => List.mem_cons_of_mem _ (List.mem_cons_of_mem _ hi)
  refine .inr ⟨h.er,B,m,d,rs,rfl,h.ln,h.rv,fun w'' hf => ⟨((h.own.fr hwE).sub hsub) w'' hf,fun x hx => (((h.ok x hx).fr hwE).sub hsub) w'' hf⟩,(h0.seq h.fr fun z hz => ?_).seq hw fun z hz => ?_⟩
  · rw [List.mem_singleton] at hz; exact .inr (.inr ⟨T,hT,hz⟩)
  · rw [List.mem_singleton] at hz; exact .inr (.inr ⟨L,hL,hz⟩)
end
end Go.Proofs.YteohomdiklkbfaaGreat
namespace Go.Proofs.YteohomdiklkbfaaGreat
open Go.RowKit Go.Proofs.Dm

theorem sl_d8 (w:World) (o:Obj) (us:Array Value):Sl ((w.alloc o).alloc (.cells us TD8)) (some ⟨w.heap.size + 1,0,none⟩) us.toList:=by
  have:=blk_sl (cs:=us.toList) (Blk.new (w.alloc o) TD8 us) us.toList.length
  rw [List.take_length] at this
  simpa using this
set_option maxRecDepth 100000 in
set_option maxHeartbeats 1600000 in
theorem d11load_big (E:List (Option Nat)) (w:World) (s:List UInt8) (h:4096 < s.length) (h6:s.length ≤ 1000000) :
    Calls Tryz.prog 41 #[.string ⟨s.toArray⟩] w (D11Ans E w s):=by
  have HLE:Hid (loadErrP s = 8):=by show _ = _; unfold loadErrP; rw [if_pos (by omega)]
  have n1:(4096:Int) < (s.length:Int):=by omega
  have n2:(s.length:Int) ≤ 1000000:=by omega
  clear h h6
  go_enter Tryz.func41,Tryz.ntmps41
  go_wp2_with fail
  refine bodyPost_ret (v:=.tuple #[.agg #[.slice none 0 0,.bool false,.int .i64 2],.int .i64 8]) (by simp [results,Tryz.results41,go_sem, *]) rfl ?_
  exact .inl ⟨by rw [HLE.out]; omega,by rw [HLE.out]; rfl,((Fr.refl [] w).alloc _).alloc _⟩
set_option maxRecDepth 100000 in
set_option maxHeartbeats 1600000 in
theorem d11load_any (E:List (Option Nat)) (w:World) (s:List UInt8) (hE:Old E w) (h4:s.length ≤ 4096) :
    Calls Tryz.prog 41 #[.string ⟨s.toArray⟩] w (D11Ans E w s):=by
  have HS4:Hid (s.length ≤ 4096):=h4
  have n1:¬ (4096:Int) < (s.length:Int):=by omega
  have n2:(s.length:Int) ≤ 1000000:=by omega
  obtain ⟨L,hL⟩:∃ L,L = w.heap.size:=⟨_,rfl⟩
  obtain ⟨T,hT⟩:∃ T,T = w.heap.size + 1:=⟨_,rfl⟩
  have HLT:Hid (w.heap.size ≤ L ∧ w.heap.size ≤ T):=⟨by omega,by omega⟩
  have HW:Hid (∀ W1,W1 = (w.alloc (.cells #[.slice none 0 0,.bool false,.int .i64 0] TD11)).alloc (.cells #[.slice none 0 0,.bool false,.int .i64 2] TD11) → Fr [] w W1 ∧ Blk W1 T TD11 #[.slice none 0 0,.bool false,.int .i64 2] ∧ Blk W1 L TD11 #[.slice none 0 0,.bool false,.int .i64 0] ∧ T ≠ L ∧ Calls Tryz.prog 85 #[.string ⟨s.toArray⟩] W1 (DAAns (some T :: some L :: E) W1 s)):=by
    show ∀ _,_
    rintro W1 rfl
    subst hL hT
    have hf:Fr [] w ((w.alloc (.cells #[.slice none 0 0,.bool false,.int .i64 0] TD11)).alloc (.cells #[.slice none 0 0,.bool false,.int .i64 2] TD11)):=((Fr.refl [] w).alloc _).alloc _
    have b1:=(Blk.new w TD11 #[.slice none 0 0,.bool false,.int .i64 0]).alloc (.cells #[.slice none 0 0,.bool false,.int .i64 2] TD11)
    have b2:=Blk.new (w.alloc (.cells #[.slice none 0 0,.bool false,.int .i64 0] TD11)) TD11 #[.slice none 0 0,.bool false,.int .i64 2]
    rw [World.size_alloc] at b2
    refine ⟨hf,b2,b1,by omega,dall_any _ _ s (fun k hk => ?_) (by omega)⟩
    rcases List.mem_cons.1 hk with e | e
    · injection e with e; rw [e]; exact b2.lt
    rcases List.mem_cons.1 e with e | e
    · injection e with e; rw [e]; exact b1.lt
    · have:=hE k e; have:=hf.size; omega
  have HE:=Lib.hid hE
  clear hE h4
  go_enter Tryz.func41,Tryz.ntmps41
  go_wp2_with fail
  obtain ⟨W1,hW1⟩:∃ W1,W1 = (w.alloc (.cells #[.slice none 0 0,.bool false,.int .i64 0] TD11)).alloc (.cells #[.slice none 0 0,.bool false,.int .i64 2] TD11):=⟨_,rfl⟩
  obtain ⟨k1,k2,k3,k5,k4⟩:=HW.out W1 hW1
  rw [← hW1,← hT,← hL]
  clear hT hL hW1
  refine k4.mono ?_
  rintro en w1 ⟨B,m,d,ls,rfl,hm,hls,hk,hf1⟩
  have HM:=Lib.hid hm
  have HLS:Hid (ls.map DL.line = allLines s):=hls
  have HK:=Lib.hid hk
  have HAN:Hid (m = (allLines s).length):=by
    have h1:=congrArg List.length HLS.out
    rw [List.length_map,← HM.out] at h1
    exact h1
  have HMM:Hid (m ≤ 1000000):=by
    have h2:=linesP_len s (s.length + 1) 0
    have h3:=HS4.out
    have h1:=HAN.out
    show _ ≤ _
    unfold allLines at h1
    omega
  have HF1:=Lib.hid (k1.trans hf1)
  have HLD:Hid (LD E w1 w1 T L s (allLines s) 0 none 0 0 []):=by
    have ht:=k2.fr hf1 (by simp)
    have hl:=k3.fr hf1 (by simp)
    exact ⟨ht,hl,ORow.nil_ _ _ _,rfl,rfl,fun x hx => by simp at hx,Fr.refl _ _,ht.lt,hl.lt,k5,fun k hk => (by cases hk),Nat.zero_le _,fun l hl => (by simp at hl),HE.out.fr HF1.out⟩
  have hne:¬ T = L:=k5
  have hne2:¬ L = T:=fun e => k5 e.symm
  clear hm hls hk hf1 k1 k2 k3 k4 k5 HW
  by_cases h400:400 < m
  · have h4:(400:Int) < (m:Int):=by omega
    have h5:(m:Int) ≤ 1000000:=by have:=HMM.out; omega
    have HLE:Hid (loadErrP s = 6):=by
      show _ = _
      unfold loadErrP
      rw [if_neg (by have:=HS4.out; omega),if_pos (by have:=HAN.out; omega)]
    have t0:w1.cell? ⟨T,0,none⟩ = some (.slice none 0 0):=HLD.out.tb.cell 0
    have t1:w1.cell? ⟨T,1,none⟩ = some (.bool false):=HLD.out.tb.cell 1
    have t2:w1.cell? ⟨T,2,none⟩ = some (.int .i64 2):=HLD.out.tb.cell 2
    have l0:w1.cell? ⟨L,0,none⟩ = some (.slice none 0 0):=HLD.out.lb.cell 0
    have l1:w1.cell? ⟨L,1,none⟩ = some (.bool false):=HLD.out.lb.cell 1
    have l2:w1.cell? ⟨L,2,none⟩ = some (.int .i64 0):=HLD.out.lb.cell 2
    have z0:=HLD.out.lb.frozen 0
    have z1:=HLD.out.lb.frozen 1
    have z2:=HLD.out.lb.frozen 2
    have ll:=HLD.out.lb.lt
    have HEND:Hid (∀ w',Fr [some L] w1 w' → D11Ans E w s (.returned (.tuple #[.agg #[.slice none 0 0,.bool false,.int .i64 2],.int .i64 6])) w'):=by
      show ∀ _,_
      intro w' hf
      exact .inl ⟨by rw [HLE.out]; omega,by rw [HLE.out]; rfl,HF1.out.seq hf fun x hx => by rw [List.mem_singleton] at hx; exact .inr (.inr ⟨_,HLT.out.1,hx⟩)⟩
    clear h400
    go_wp2_with fail
    refine bodyPost_ret (v:=.tuple #[.agg #[.slice none 0 0,.bool false,.int .i64 2],.int .i64 6]) (by simp [results,Tryz.results41,go_sem, *]) rfl ?_
    exact HEND.out _ ((((Fr.refl [some L] w1).setB (fun _ => by simp) _ _).setB (fun _ => by simp) _ _).setB (fun _ => by simp) _ _)
  · have h4:¬ (400:Int) < (m:Int):=by omega
    have h5:(m:Int) ≤ 400:=by omega
    have H400:Hid (m ≤ 400):=by show _ ≤ _; omega
    clear h400
    go_wp2_with fail
    go_loopw [24] (fun iv wr => ∃ (j n c:Nat) (A:Option Addr) (rs:List RD),iv = .int .i64 j ∧ j ≤ m ∧ Hid (LD E w1 wr T L s (allLines s) j A c n rs)) (fun iv _ => m - (intOf iv).toNat)
    case atStart => exact ⟨0,0,0,none,[],rfl,Nat.zero_le _,HLD.out⟩
    case round =>
      clear HLD
      obtain ⟨j,n,c,A,rs,rfl,hj,HD⟩:=hrel
      by_cases hlt:j < m
      · have hjl:j < ls.length:=by rw [← HM.out]; exact hlt
        have HFR:Hid (Fr (some T :: some L :: E) w1 wr):=HD.out.fr.weaken fun i _ h => by rw [List.mem_singleton] at h; rw [h]; exact List.mem_cons_self ..
        obtain ⟨kB,kL⟩:=HK.out.fr HFR.out |>.now
        obtain ⟨bd,rfl,e0,e1⟩:=sl_elem (f:=DL.cells) (sz:=2) (fun _ => rfl) kB hjl (by omega)
        obtain ⟨x,hx⟩:∃ x,x = ls[j]:=⟨_,rfl⟩
        rw [← hx] at e0 e1
        have hxm:x ∈ ls:=by rw [hx]; exact List.getElem_mem hjl
        have hxl:(allLines s)[j]? = some x.line:=by rw [← HLS.out,List.getElem?_map,List.getElem?_eq_getElem hjl,← hx]; rfl
        obtain ⟨xe,hxe⟩:∃ xe,xe = x.e:=⟨_,rfl⟩
        obtain ⟨xm,hxm2⟩:∃ xm,xm = x.m:=⟨_,rfl⟩
        obtain ⟨xB,hxB⟩:∃ xB,xB = x.B:=⟨_,rfl⟩
        obtain ⟨xd,hxd⟩:∃ xd,xd = x.d:=⟨_,rfl⟩
        have c0:wr.cell? (bd.add (j * 2)) = some (.slice xB xm xd):=by rw [hxm2,hxB,hxd]; exact e0 _ rfl
        have c1:wr.cell? ⟨(bd.add (j * 2)).block,(bd.add (j * 2)).off + 1,none⟩ = some (.int .i64 (xe:Nat)):=by rw [hxe]; exact e1 0 _ rfl
        have HXL:Hid ((allLines s)[j]? = some x.line ∧ x.line.e = xe):=⟨hxl,hxe.symm⟩
        have HC:Hid (∀ w',Fr [] wr w' → Calls Tryz.prog 86 #[.string ⟨s.toArray⟩,.agg #[.slice xB xm xd,.int .i64 (xe:Nat)]] w' (D8Ans w' s x.line.fields xe)):=by
          show ∀ _,_
          intro w' hf
          have hlx:DLAt x w':=((HK.out.fr (HFR.out.trans hf.of_nil)).now).2 x hxm
          have hmem:=List.mem_of_getElem? HXL.out.1
          have hb1:=linesP_bd s (s.length + 1) 0 x.line hmem
          have hb2:=linesP_in s (s.length + 1) 0 x.line hmem
          have hm6:xm ≤ 1000000:=by
            have h1:=congrArg List.length (show x.line.fields = x.xs.map DV.f from rfl)
            rw [List.length_map,← hlx.2.1,← hxm2] at h1
            have:=linesP_fl s (s.length + 1) 0 x.line hmem
            have:=HS4.out
            omega
          have h:=d8load_any w' s xm xd xe xB x.xs (by rw [hxm2]; exact hlx.2.1) (by rw [hxB]; exact hlx.1) hlx.2.2 (fun y hy => ⟨(hb1 y.f (List.mem_map.2 ⟨y,hy,rfl⟩)).1,(hb1 y.f (List.mem_map.2 ⟨y,hy,rfl⟩)).2,hb2 y.f (List.mem_map.2 ⟨y,hy,rfl⟩)⟩) (by have:=HS4.out; omega) hm6
          exact h
        have HFA:Hid (∀ wa,wa = wr.alloc (.cells #[.slice xB xm xd,.int .i64 (xe:Nat)] TDr) → Fr [] wr wa ∧ Blk wa wr.heap.size TDr #[.slice xB xm xd,.int .i64 (xe:Nat)]):=by
          show ∀ _,_
          rintro wa rfl
          exact ⟨(Fr.refl [] wr).alloc _,Blk.new wr TDr _⟩
        clear e0 e1 kB kL hx hxm hxl hxe hxm2 hxB hxd hjl
        go_wp2_with fail
        obtain ⟨wa,hwa⟩:∃ wa,wa = wr.alloc (.cells #[.slice xB xm xd,.int .i64 (xe:Nat)] TDr):=⟨_,rfl⟩
        obtain ⟨k1,k2⟩:=HFA.out wa hwa
        rw [← hwa]
        obtain ⟨X,hX⟩:∃ X,X = wr.heap.size:=⟨_,rfl⟩
        have HX:=Lib.hid hX
        rw [← hX] at k2 ⊢
        have HF2:=Lib.hid k1
        have HXB:=Lib.hid k2
        have HC2:=Lib.hid (HC.out wa k1)
        clear hwa hX k1 k2 HFA HC c0 c1
        refine HC2.out.mono ?_
        rintro en w3 (⟨h0,rfl,hf3⟩ | ⟨h0,FB,fm,fd,rfl,hfm,hk,hf3⟩)
        · obtain ⟨ek,hek⟩:∃ ek,ek = rowErrP x.line.fields:=⟨_,rfl⟩
          rw [← hek]
          have he0:¬ (ek:Int) = 0:=by omega
          have HF3:=Lib.hid (HF2.out.trans hf3)
          have HD3:=Lib.hid (HD.out.fr0 HF3.out)
          have l0:w3.cell? ⟨L,0,none⟩ = some (.slice none 0 0):=HD3.out.lb.cell 0
          have l1:w3.cell? ⟨L,1,none⟩ = some (.bool false):=HD3.out.lb.cell 1
          have l2:w3.cell? ⟨L,2,none⟩ = some (.int .i64 0):=HD3.out.lb.cell 2
          have z0:=HD3.out.lb.frozen 0
          have z1:=HD3.out.lb.frozen 1
          have z2:=HD3.out.lb.frozen 2
          have ll:=HD3.out.lb.lt
          have HEND:Hid (∀ w',Fr [some L] w3 w' → D11Ans E w s (.returned (.tuple #[.agg #[.slice none 0 0,.bool false,.int .i64 2],.int .i64 (ek:Nat)])) w'):=by
            show ∀ _,_
            intro w' hf
            rw [hek]
            refine HD.out.bad rfl HS4.out (by have:=HAN.out; have:=H400.out; omega) HXL.out.1 h0 ?_
            refine (HF1.out.seq HD3.out.fr fun x hx => ?_).seq hf fun x hx => ?_
            · rw [List.mem_singleton] at hx; exact .inr (.inr ⟨_,HLT.out.2,hx⟩)
            · rw [List.mem_singleton] at hx; exact .inr (.inr ⟨_,HLT.out.1,hx⟩)
          clear h0 hek hf3
          go_wp2_with fail
          refine bodyPost_ret (v:=.tuple #[.agg #[.slice none 0 0,.bool false,.int .i64 2],.int .i64 (ek:Nat)]) (by simp [results,Tryz.results41,go_sem, *]) rfl ?_
          exact HEND.out _ (((((Fr.refl [some L] w3).setB (fun _ => by simp) _ _).setB (fun _ => by simp) _ _).setB (fun _ => by simp) _ _).alloc _)
        · have HF3:=Lib.hid (HF2.out.trans hf3)
          have HD3:=Lib.hid (HD.out.fr0 HF3.out)
          have HX3:=Lib.hid (HXB.out.fr hf3 (by simp))
          have HA:=Lib.hid (show Hid (rowErrP x.line.fields = 0) from h0)
          have HFM:Hid (fm = x.line.fields.length ∧ ∀ E,Old E wa → Kp E w3 (fun w => Sl w FB (dcc (x.line.fields.map (fcell s))))):=⟨hfm,hk⟩
          have HN9:Hid (n ≤ 400):=by show _ ≤ _; have:=HD.out.len; have:=H400.out; omega
          have t0:w3.cell? ⟨T,0,none⟩ = some (.slice A n c):=HD3.out.tb.cell 0
          have t0a:(w3.alloc (.cells #[.slice FB fm fd,.int .i64 (xe:Nat),.bool false] TD8)).cell? ⟨T,0,none⟩ = some (.slice A n c):=(HD3.out.tb.alloc _).cell 0
          have HXT:Hid (X ≠ T):=by
            show _ ≠ _
            have:=HD.out.tb.lt
            have:=HX.out
            omega
          have hxt:¬ X = T:=HXT.out
          have hxt2:¬ T = X:=fun e => hxt e.symm
          clear h0 hf3 hfm hk
          go_wp2_with (at_builtin; go_must (
            refine wpList_app _ rfl _ _ 33 TD8 rfl (Value.agg #[.slice none 0 0,.int .i64 0,.bool false]) 3 40 Tryz.underlying33 infoD8 rfl (by decide) A c n (rdc rs) rfl (ORow.fr HD3.out.own (((Fr.refl [] w3).alloc _).alloc _) (.inr List.not_mem_nil)) _ 1 1 [.slice FB fm fd,.int .i64 (xe:Nat),.bool false] rfl rfl (sl_d8 w3 _ _) (by simp [Value.oneCell']) (by have:=HN9.out; simp only [maxLen]; omega) (by have:=HN9.out; omega) ?_
            intro B2 d2 w5 hr2 hg2 hb2
            have hx:=HD.out.step (fd:=fd) HXL.out.1 HA.out HFM.out.1 (fun E hE => HFM.out.2 E (hE.fr HF2.out)) HF3.out (((Fr.refl [] w3).alloc _).alloc _) (by rw [HXL.out.2]; exact hr2) hg2 hb2
            rw [HXL.out.2] at hx
            have HX5:=Lib.hid hx.1
            have hxA:some X ∉ [bk A]:=fun e => by
              rw [List.mem_singleton] at e
              have:=ORow.lt HD.out.own e.symm
              have:=HX.out
              omega
            have hx5:=(HX3.out.fr (((Fr.refl [] w3).alloc _).alloc _) (by simp)).fr hg2 hxA
            have t05:w5.cell? ⟨T,0,none⟩ = some (.slice A n c):=hx.2.cell 0
            have t15:=hx.2.cell 1
            have z0:=hx.2.frozen 0
            have z1:=hx.2.frozen 1
            have lt5:=hx.2.lt
            have x15:w5.cell? ⟨X,1,none⟩ = some (.int .i64 (xe:Nat)):=hx5.cell 1
            clear hr2 hg2 hb2 hx hx5 hxA))
          go_roundw
          case rel => exact ⟨j + 1,n + 1,d2,B2,_,by go_num,by omega,HX5.out⟩
          case measure => simp [intOf]; omega
      · obtain rfl:j = m:=by omega
        have HE2:Hid (LE E w1 wr T L s j A c n rs):=HD.out.all rfl HS4.out (by have:=HAN.out; have:=H400.out; omega) HAN.out
        clear HD hlt hj
        go_wp2_with fail
        go_loopw [10] (fun iv wr => ∃ (k:Nat),iv = .int .i64 ((k:Int) - 1) ∧ k ≤ j ∧ Hid (LE E w1 wr T L s k A c n rs)) (fun iv _ => (intOf iv + 1).toNat)
        case atStart => exact ⟨j,rfl,Nat.le_refl _,HE2.out⟩
        case round =>
          clear HE2
          obtain ⟨k,rfl,hk,HE3⟩:=hrel
          rcases k with _ | k
          · have HEND:Hid (∀ w',Fr [some L] wr w' → D11Ans E w s (.returned (.tuple #[.agg #[.slice A n c,.bool (tailP ((allLines s).map (·.e))),.int .i64 (eolP ((allLines s).map (·.e)):Nat)],.int .i64 0])) w'):=by
              show ∀ _,_
              intro w' hf
              exact HE3.out.fin HF1.out HLT.out.2 HLT.out.1 hf
            obtain ⟨tl,htl⟩:∃ tl,tl = tailP ((allLines s).map (·.e)):=⟨_,rfl⟩
            obtain ⟨eo,heo⟩:∃ eo,eo = eolP ((allLines s).map (·.e)):=⟨_,rfl⟩
            have t0:wr.cell? ⟨T,0,none⟩ = some (.slice A n c):=HE3.out.tb.cell 0
            have t1:wr.cell? ⟨T,1,none⟩ = some (.bool tl):=by rw [htl]; exact HE3.out.tb.cell 1
            have t2:wr.cell? ⟨T,2,none⟩ = some (.int .i64 (eo:Nat)):=by rw [heo]; exact HE3.out.tb.cell 2
            rw [← htl,← heo] at HEND
            have l0:wr.cell? ⟨L,0,none⟩ = some (.slice none 0 0):=HE3.out.lb.cell 0
            have l1:wr.cell? ⟨L,1,none⟩ = some (.bool false):=HE3.out.lb.cell 1
            have l2:wr.cell? ⟨L,2,none⟩ = some (.int .i64 0):=HE3.out.lb.cell 2
            have z0:=HE3.out.lb.frozen 0
            have z1:=HE3.out.lb.frozen 1
            have z2:=HE3.out.lb.frozen 2
            have ll:=HE3.out.lb.lt
            have hi:¬ (0:Int) ≤ ((0:Nat):Int) - 1:=by omega
            clear hk htl heo
            go_wp2_with fail
            refine bodyPost_ret (v:=.tuple #[.agg #[.slice A n c,.bool tl,.int .i64 (eo:Nat)],.int .i64 0]) (by simp [results,Tryz.results41,go_sem, *]) rfl ?_
            exact HEND.out _ ((((Fr.refl [some L] wr).setB (fun _ => by simp) _ _).setB (fun _ => by simp) _ _).setB (fun _ => by simp) _ _)
          · have hkl:k < ls.length:=by have:=HM.out; omega
            have HFR:Hid (Fr (some T :: some L :: E) w1 wr):=HE3.out.fr.weaken fun i _ h => by rw [List.mem_singleton] at h; rw [h]; exact List.mem_cons_self ..
            obtain ⟨bd,rfl,e0,e1⟩:=sl_elem (f:=DL.cells) (sz:=2) (fun _ => rfl) ((HK.out.fr HFR.out).now).1 hkl (by omega)
            obtain ⟨x,hx⟩:∃ x,x = ls[k]:=⟨_,rfl⟩
            rw [← hx] at e1
            have hxl:(allLines s)[k]? = some x.line:=by rw [← HLS.out,List.getElem?_map,List.getElem?_eq_getElem hkl,← hx]; rfl
            obtain ⟨xe,hxe⟩:∃ xe,xe = x.e:=⟨_,rfl⟩
            have c1:wr.cell? ⟨(bd.add (k * 2)).block,(bd.add (k * 2)).off + 1,none⟩ = some (.int .i64 (xe:Nat)):=by rw [hxe]; exact e1 0 _ rfl
            have HXL:Hid ((allLines s)[k]? = some x.line ∧ x.line.e = xe):=⟨hxl,hxe.symm⟩
            rw [show (((k + 1:Nat):Int) - 1) = (k:Int) by omega]
            have hk1:(k:Int) < (j:Int):=by omega
            have hk2:(k:Int) ≤ 400:=by have:=H400.out; omega
            have hkj:k ≤ j:=by omega
            clear e0 e1 hx hxl hxe hkl hk
            by_cases hz:xe = 0
            · have HN3:Hid (LE E w1 wr T L s k A c n rs):=HE3.out.zero HXL.out.1 (by rw [HXL.out.2,hz])
              clear HXL
              subst hz
              go_wp2_with fail
              go_roundw
              case rel => exact ⟨k,rfl,hkj,HN3.out⟩
              case measure => simp [intOf]
            · have HN3:Hid (LE E w1 (wr.setCell ⟨T,2,none⟩ (.int .i64 (xe:Nat))) T L s k A c n rs):=by
                have:=HE3.out.put HXL.out.1 (by rw [HXL.out.2]; exact hz)
                rwa [HXL.out.2] at this
              have hz2:¬ (xe:Int) = 0:=by omega
              have t2:=HE3.out.tb.cell 2
              have z2:=HE3.out.tb.frozen 2
              have lt:=HE3.out.tb.lt
              clear hz
              go_wp2_with fail
              go_roundw
              case rel => exact ⟨k,rfl,hkj,HN3.out⟩
              case measure => simp [intOf]
end Go.Proofs.YteohomdiklkbfaaGreat
