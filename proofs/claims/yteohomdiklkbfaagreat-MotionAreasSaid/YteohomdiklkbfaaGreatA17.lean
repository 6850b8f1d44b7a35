import Derived.Test.YteohomdiklkbfaaGreatA11
import Derived.Test.YteohomdiklkbfaaGreatA12
import Derived.Test.YteohomdiklkbfaaGreatA16
import Derived.BigQuiet
namespace Go.Proofs.Dm
def tailP (es:List Nat):Bool:=match es.getLast? with | none => false | some e => e != 0
def eolP:List Nat → Nat
  | [] => 2
  | e :: r => if e = 0 then eolP r else e
theorem eolP_drop (es:List Nat) (j:Nat) (h:∀ e ∈ es.take j,e = 0):eolP es = eolP (es.drop j):=by
  induction es generalizing j with
  | nil => simp
  | cons e es ih =>
    cases j with
    | zero => rfl
    | succ j =>
      have h0:=h e (by simp)
      subst h0
      rw [List.drop_succ_cons,← ih j (fun e he => h e (by rw [List.take_succ_cons]; exact List.mem_cons_of_mem _ he))]
      rfl
end Go.Proofs.Dm
namespace Go.Proofs.YteohomdiklkbfaaGreat
open Go.RowKit Go.Proofs.Dm

abbrev TGr:TypeId:=31
def EndsAns (w:World) (es:List Nat) (e:Ending) (w':World):Prop:=e = .returned (.tuple #[.bool (tailP es),.int .i64 (eolP es:Nat)]) ∧ Fr [] w w'
theorem ends_none (w:World) (B:Option Addr) (d:Nat):Calls Tryz.prog 59 #[.slice B 0 d] w (EndsAns w []):=by
  go_enter Tryz.func59,Tryz.ntmps59
  go_wp2_with fail
  exact bodyPost_ret (v:=.tuple #[.bool false,.int .i64 2]) (by simp [results,Tryz.results59,go_sem]) rfl ⟨rfl,Fr.refl _ _⟩
set_option maxRecDepth 100000 in
set_option maxHeartbeats 1600000 in
theorem ends_some (w:World) (B:Option Addr) (m d:Nat) (ls:List LV) (hB:Sl w B (lvc ls)) (hm:m = ls.length) (h0:0 < m) (hn:m ≤ 1000000) :
    Calls Tryz.prog 59 #[.slice B m d] w (EndsAns w (ls.map (·.e))):=by
  obtain ⟨es,hes⟩:∃ es,es = ls.map (·.e):=⟨_,rfl⟩
  rw [← hes]
  obtain ⟨p,hp⟩:∃ p,p = m - 1:=⟨_,rfl⟩
  have hpl:p < ls.length:=by omega
  obtain ⟨bd,rfl,e0,e1⟩:=sl_elem (f:=LV.cells) (sz:=2) (fun _ => rfl) hB hpl (by omega)
  obtain ⟨le,hle⟩:∃ le,le = ls[p].e:=⟨_,rfl⟩
  have c1:w.cell? ⟨(bd.add (p * 2)).block,(bd.add (p * 2)).off + 1,none⟩ = some (.int .i64 (le:Nat)):=by rw [hle]; exact e1 0 _ rfl
  obtain ⟨tl,htl⟩:∃ tl,tl = ((le:Int) != 0):=⟨_,rfl⟩
  have HT:Hid (tailP es = tl):=by
    show _ = _
    unfold tailP
    have:es.getLast? = some le:=by
      rw [hes,List.getLast?_map,List.getLast?_eq_getElem?,show ls.length - 1 = p by omega,List.getElem?_eq_getElem hpl,hle]; rfl
    rw [this,htl]
    show (le != 0) = ((le:Int) != 0)
    rw [Bool.eq_iff_iff]
    simp
  have m1:(m:Int) - 1 = (p:Int):=by omega
  have m2:(p:Int) < (m:Int):=by omega
  have m3:(m:Int) ≤ 1000000:=by omega
  have m4:¬ (m:Int) = 0:=by omega
  have HB:=Lib.hid hB
  have HM:=Lib.hid hm
  have HES:=Lib.hid hes
  have HTL:=Lib.hid htl
  clear e0 e1 hB hm hes h0 hn hp hpl hle htl
  go_enter Tryz.func59,Tryz.ntmps59
  go_wp2_with fail
  rw [← HTL.out]
  go_loopw [20] (fun iv wr => ∃ (j:Nat),iv = .int .i64 j ∧ j ≤ m ∧ Hid (∀ e ∈ es.take j,e = 0) ∧ Hid (Fr [] w wr)) (fun iv _ => m - (intOf iv).toNat)
  case atStart => exact ⟨0,rfl,Nat.zero_le _,fun e he => by simp at he,Fr.refl _ _⟩
  case round =>
    obtain ⟨j,rfl,hj,HZ,HF⟩:=hrel
    clear m1 m2 m4 c1
    by_cases hlt:j < m
    · have hjl:j < ls.length:=by rw [← HM.out]; exact hlt
      obtain ⟨bd',hbd',e0,e1⟩:=sl_elem (f:=LV.cells) (sz:=2) (fun _ => rfl) (HB.out.fr HF.out (.inr List.not_mem_nil)) hjl (by omega)
      injection hbd' with hbd'
      subst hbd'
      obtain ⟨x,hx⟩:∃ x,x = ls[j]:=⟨_,rfl⟩
      rw [← hx] at e0 e1
      obtain ⟨xe,hxe⟩:∃ xe,xe = x.e:=⟨_,rfl⟩
      obtain ⟨xm,hxm⟩:∃ xm,xm = x.xs.length:=⟨_,rfl⟩
      have c0:wr.cell? (bd.add (j * 2)) = some (.slice x.B xm x.d):=by rw [hxm]; exact e0 _ rfl
      have c1:wr.cell? ⟨(bd.add (j * 2)).block,(bd.add (j * 2)).off + 1,none⟩ = some (.int .i64 (xe:Nat)):=by rw [hxe]; exact e1 0 _ rfl
      have HX:Hid (es[j]? = some xe):=by show _ = _; rw [HES.out,List.getElem?_map,List.getElem?_eq_getElem hjl,← hx,hxe]; rfl
      have HF2:Hid (Fr [] w (wr.alloc (.cells #[.slice x.B xm x.d,.int .i64 (xe:Nat)] TRw)) ∧ Blk (wr.alloc (.cells #[.slice x.B xm x.d,.int .i64 (xe:Nat)] TRw)) wr.heap.size TRw #[.slice x.B xm x.d,.int .i64 (xe:Nat)]):=⟨HF.out.alloc _,Blk.new wr TRw _⟩
      clear e0 e1 hx hxe hxm hjl
      by_cases hz:xe = 0
      · have HN:Hid (∀ e ∈ es.take (j + 1),e = 0):=by
          show ∀ _,_
          intro e he
          have hjl:j < es.length:=by
            rcases Nat.lt_or_ge j es.length with h | h
            · exact h
            · have:=HX.out; rw [List.getElem?_eq_none h] at this; cases this
          rw [List.take_succ_eq_append_getElem hjl] at he
          rcases List.mem_append.1 he with he | he
          · exact HZ.out e he
          · rw [List.mem_singleton] at he
            have:=HX.out
            rw [List.getElem?_eq_getElem hjl] at this
            injection this with this
            omega
        subst hz
        go_wp2_with fail
        go_roundw
        case rel => exact ⟨j + 1,by go_num,by omega,HN.out,HF2.out.1⟩
        case measure => simp [intOf]; omega
      · have hz1:¬ (xe:Int) = 0:=by omega
        have HE:Hid (eolP es = xe):=by
          have hjl:j < es.length:=by
            rcases Nat.lt_or_ge j es.length with h | h
            · exact h
            · have:=HX.out; rw [List.getElem?_eq_none h] at this; cases this
          show _ = _
          rw [eolP_drop es j HZ.out,List.drop_eq_getElem_cons hjl]
          have:=HX.out
          rw [List.getElem?_eq_getElem hjl] at this
          injection this with this
          rw [this]
          show (if xe = 0 then _ else xe) = xe
          rw [if_neg hz]
        clear hz
        go_wp2_with fail
        obtain ⟨W,hW⟩:∃ W,W = wr.alloc (.cells #[.slice x.B xm x.d,.int .i64 (xe:Nat)] TRw):=⟨_,rfl⟩
        rw [← hW] at HF2 ⊢
        have b1:W.cell? ⟨wr.heap.size,1,none⟩ = some (.int .i64 (xe:Nat)):=HF2.out.2.cell 1
        clear hW
        go_quiet (fail)
        go_wp2_with fail
        refine bodyPost_ret (v:=.tuple #[.bool tl,.int .i64 (xe:Nat)]) (by simp [results,Tryz.results59,go_sem]) rfl ⟨?_,HF2.out.1.trans ((Fr.refl [] W).drewN nq)⟩
        rw [HT.out,HE.out]
    · obtain rfl:j = m:=by omega
      have HE:Hid (eolP es = 2):=by
        show _ = _
        rw [eolP_drop es j HZ.out,List.drop_eq_nil_of_le (by rw [HES.out,List.length_map,HM.out]; exact Nat.le_refl _)]
        rfl
      go_wp2_with fail
      refine bodyPost_ret (v:=.tuple #[.bool tl,.int .i64 2]) (by simp [results,Tryz.results59,go_sem]) rfl ⟨?_,HF.out⟩
      rw [HT.out,HE.out]
      rfl
def RefAns (E:List (Option Nat)) (w:World) (e:Nat) (en:Ending) (w':World):Prop:=∃ g,en = .returned (.tuple #[.agg #[.pointer none,.bool false,.int .i64 2],.pointer (some ⟨g,0,none⟩),.int .i64 (e:Nat)]) ∧ Kp E w' (ArAt g []) ∧ Fr [] w w'
set_option maxRecDepth 100000 in
set_option maxHeartbeats 800000 in
theorem refused_any (E:List (Option Nat)) (w:World) (e:Nat) (hE:Old E w) :
    Calls Tryz.prog 55 #[.int .i64 (e:Nat)] w (RefAns E w e):=by
  have HW:Hid (∀ W0,W0 = w.alloc (.cells #[.pointer none,.bool false,.int .i64 0] TGr) → Fr [] w W0 ∧ Blk W0 w.heap.size TGr #[.pointer none,.bool false,.int .i64 0] ∧ Calls Tryz.prog 54 #[.slice none 0 0] W0 (NewAns (some w.heap.size :: E) W0 [])):=by
    show ∀ _,_
    rintro W0 rfl
    refine ⟨(Fr.refl [] w).alloc _,Blk.new w TGr _,new_any _ _ none 0 0 [] (old_box hE ((Fr.refl [] w).alloc _) (by simp)) (.inl rfl) rfl (by omega)⟩
  clear hE
  go_enter Tryz.func55,Tryz.ntmps55
  go_wp2_with fail
  obtain ⟨W0,hW0⟩:∃ W0,W0 = w.alloc (.cells #[.pointer none,.bool false,.int .i64 0] TGr):=⟨_,rfl⟩
  obtain ⟨k1,k2,k3⟩:=HW.out W0 hW0
  rw [← hW0]
  refine k3.mono ?_
  rintro en w1 ⟨g,rfl,hg,hf1,hsz⟩
  have hb:=k2.fr hf1 (by simp)
  have c0:w1.cell? ⟨w.heap.size,0,none⟩ = some (.pointer none):=hb.cell 0
  have c1:w1.cell? ⟨w.heap.size,1,none⟩ = some (.bool false):=hb.cell 1
  have c2:w1.cell? ⟨w.heap.size,2,none⟩ = some (.int .i64 0):=hb.cell 2
  have z0:=hb.frozen 0
  have z1:=hb.frozen 1
  have z2:=hb.frozen 2
  have l1:=hb.lt
  have HEND:Hid (∀ w',Fr [some w.heap.size] w1 w' → RefAns E w e (.returned (.tuple #[.agg #[.pointer none,.bool false,.int .i64 2],.pointer (some ⟨g,0,none⟩),.int .i64 (e:Nat)])) w'):=by
    show ∀ _,_
    intro w' hf
    refine ⟨g,rfl,?_,(k1.trans hf1).seq hf fun x hx => by rw [List.mem_singleton] at hx; exact .inr (.inr ⟨_,Nat.le_refl _,hx⟩)⟩
    exact hg.grow (hf.weaken fun i _ h => by rw [List.mem_singleton] at h; rw [h]; exact List.mem_cons_self ..) fun k hk => .inl (List.mem_cons_of_mem _ hk)
  clear hW0 k1 k2 k3 hg hf1 hb hsz HW
  go_wp2_with fail
  refine bodyPost_ret (v:=.tuple #[.agg #[.pointer none,.bool false,.int .i64 2],.pointer (some ⟨g,0,none⟩),.int .i64 (e:Nat)]) (by simp [results,Tryz.results55,go_sem, *]) rfl ?_
  exact HEND.out _ ((((Fr.refl [some w.heap.size] w1).setB (fun _ => by simp) _ _).setB (fun _ => by simp) _ _).setB (fun _ => by simp) _ _)
end Go.Proofs.YteohomdiklkbfaaGreat
namespace Go.Proofs.Dm
def errP:List LineP → Nat
  | [] => 0
  | l :: r => if rowErrP l.fields = 0 then errP r else rowErrP l.fields
def allLines (s:List UInt8):List LineP:=linesP s (s.length + 1) 0
def loadErrP (s:List UInt8):Nat:=if 4096 < s.length then 8 else if 400 < (allLines s).length then 6 else errP (allLines s)
theorem errP_take (ls:List LineP) (j:Nat) (h:∀ l ∈ ls.take j,rowErrP l.fields = 0):errP ls = errP (ls.drop j):=by
  induction ls generalizing j with
  | nil => simp
  | cons l ls ih =>
    cases j with
    | zero => rfl
    | succ j =>
      have h0:=h l (by simp)
      rw [List.drop_succ_cons,← ih j (fun e he => h e (by rw [List.take_succ_cons]; exact List.mem_cons_of_mem _ he))]
      show (if rowErrP l.fields = 0 then _ else _) = _
      rw [if_pos h0]
theorem linesP_len (s:List UInt8):∀ (k a:Nat),(linesP s k a).length ≤ s.length - a
  | 0,a => by simp [linesP]
  | k + 1,a => by
    by_cases h:a < s.length
    · rw [show linesP s (k + 1) a = (lineP s a).1 :: linesP s k (lineP s a).2 by show (if a < s.length then _ else _) = _; rw [if_pos h]]
      have:=linesP_len s k (lineP s a).2
      have:=lineP_gt s a h
      rw [List.length_cons]
      omega
    · rw [show linesP s (k + 1) a = [] by show (if a < s.length then _ else _) = _; rw [if_neg h]]
      simp
theorem fieldsP_len (s:List UInt8):∀ (k a:Nat),(fieldsP s k a).length ≤ k
  | 0,a => by simp [fieldsP]
  | k + 1,a => by
    show (fieldP s a :: _).length ≤ _
    rw [List.length_cons]
    split
    · have:=fieldsP_len s k (a + (fieldP s a).n + 1); omega
    · simp
theorem linesP_fl (s:List UInt8):∀ (k a:Nat),∀ x ∈ linesP s k a,x.fields.length ≤ s.length + 1
  | 0,a => by simp [linesP]
  | k + 1,a => by
    intro x hx
    by_cases h:a < s.length
    · rw [show linesP s (k + 1) a = (lineP s a).1 :: linesP s k (lineP s a).2 by show (if a < s.length then _ else _) = _; rw [if_pos h]] at hx
      rcases List.mem_cons.1 hx with rfl | hx
      · have:=fieldsP_len s (s.length + 1 - a) a
        show (fieldsP s (s.length + 1 - a) a).length ≤ _
        omega
      · exact linesP_fl s k _ x hx
    · rw [show linesP s (k + 1) a = [] by show (if a < s.length then _ else _) = _; rw [if_neg h]] at hx
      simp at hx
theorem set3 (cs:List Value) (i:Nat) (h:i + 3 ≤ cs.length) (v0 v1 v2:Value):((cs.set i v0).set (i + 1) v1).set (i + 2) v2 = cs.take i ++ [v0,v1,v2] ++ cs.drop (i + 3):=by
  obtain ⟨A,D,o0,o1,o2,rfl,hl⟩:∃ A D o0 o1 o2,cs = A ++ (o0 :: o1 :: o2 :: D) ∧ A.length = i:=by
    refine ⟨cs.take i,cs.drop (i + 3),cs[i],cs[i + 1],cs[i + 2],?_,by rw [List.length_take]; omega⟩
    conv => lhs; rw [← List.take_append_drop i cs,List.drop_eq_getElem_cons (l:=cs) (i:=i) (by omega),List.drop_eq_getElem_cons (l:=cs) (i:=i + 1) (by omega),List.drop_eq_getElem_cons (l:=cs) (i:=i + 1 + 1) (by omega)]
  subst hl
  rw [List.take_left' rfl,List.drop_length_add_append,List.set_append_right _ _ (by omega),List.set_append_right _ _ (by omega),List.set_append_right _ _ (by omega)]
  rw [Nat.sub_self,show A.length + 1 - A.length = 1 by omega,show A.length + 2 - A.length = 2 by omega]
  simp
end Go.Proofs.Dm
namespace Go.Proofs.YteohomdiklkbfaaGreat
open Go.RowKit Go.Proofs.Dm

theorem store3 {v:World} {R i:Nat} {t:TypeId} {cs:List Value} {ad:Addr} (had:ad = ⟨R,0,none⟩) (hb:Blk v R t cs.toArray) (hi:i + 3 ≤ cs.length) (v0 v1 v2:Value) :
    ∃ o0 o1 o2,v.cell? (ad.add i) = some o0 ∧ (v.setCell (ad.add i) v0).cell? ⟨(ad.add i).block,(ad.add i).off + 1,none⟩ = some o1 ∧
      ((v.setCell (ad.add i) v0).setCell ⟨(ad.add i).block,(ad.add i).off + 1,none⟩ v1).cell? ⟨(ad.add i).block,(ad.add i).off + 2,none⟩ = some o2 ∧
      v.frozen? (ad.add i) = false ∧ v.frozen? ⟨(ad.add i).block,(ad.add i).off + 1,none⟩ = false ∧ v.frozen? ⟨(ad.add i).block,(ad.add i).off + 2,none⟩ = false ∧
      Blk (((v.setCell (ad.add i) v0).setCell ⟨(ad.add i).block,(ad.add i).off + 1,none⟩ v1).setCell ⟨(ad.add i).block,(ad.add i).off + 2,none⟩ v2) R t (cs.take i ++ [v0,v1,v2] ++ cs.drop (i + 3)).toArray ∧
      Fr [some R] v (((v.setCell (ad.add i) v0).setCell ⟨(ad.add i).block,(ad.add i).off + 1,none⟩ v1).setCell ⟨(ad.add i).block,(ad.add i).off + 2,none⟩ v2):=by
  subst had
  rw [add_lit]
  dsimp only
  have b0:=hb.set_ i v0
  have b1:=b0.set_ (i + 1) v1
  have b2:=b1.set_ (i + 2) v2
  have hsz:i + 3 ≤ cs.toArray.size:=by simpa using hi
  refine ⟨cs.toArray[i],cs.toArray[i + 1],cs.toArray[i + 2],?_,?_,?_,hb.frozen _,hb.frozen _,hb.frozen _,?_,?_⟩
  · rw [hb.cell]; exact Array.getElem?_eq_getElem _
  · rw [b0.cell,Array.getElem?_setIfInBounds_ne (by omega)]; exact Array.getElem?_eq_getElem _
  · rw [b1.cell,Array.getElem?_setIfInBounds_ne (by omega),Array.getElem?_setIfInBounds_ne (by omega)]; exact Array.getElem?_eq_getElem _
  · rw [← set3 cs i hi]
    simpa using b2
  · exact (((Fr.refl [some R] v).setB (by simp) _ _).setB (by simp) _ _).setB (by simp) _ _
abbrev RW:=RV × List CV
def rview (r:RW):Int × Bool × List (List Nat × Nat × Nat × Bool):=(r.1.e,r.1.h,r.2.map CV.view)
def lview (l:LineP):Int × Bool × List (List Nat × Nat × Nat × Bool):=((l.e:Int),false,l.fields.map fview)
def RowsAt (E:List (Option Nat)) (w:World) (N:Nat) (rs:List RW):Prop:=∀ r ∈ rs,r.1.n = r.2.length ∧ r.1.n ≤ r.1.c ∧ Kp E w (RowAt N r.1.A r.2)
theorem RowsAt.grow {E E':List (Option Nat)} {w w':World} {N:Nat} {rs:List RW} (h:RowsAt E w N rs) (hf:Fr E w w') (hE:∀ k,some k ∈ E' → some k ∈ E ∨ w.heap.size ≤ k):RowsAt E' w' N rs:=fun r hr => ⟨(h r hr).1,(h r hr).2.1,(h r hr).2.2.grow hf hE⟩
def LoadAns (E:List (Option Nat)) (w:World) (s:List UInt8) (en:Ending) (w':World):Prop :=
  (loadErrP s ≠ 0 ∧ RefAns E w (loadErrP s) en w') ∨
  (loadErrP s = 0 ∧ ∃ (g:Nat) (p:Option Addr) (rs:List RW),en = .returned (.tuple #[.agg #[.pointer p,.bool (tailP ((allLines s).map (·.e))),.int .i64 (eolP ((allLines s).map (·.e)):Nat)],.pointer (some ⟨g,0,none⟩),.int .i64 0]) ∧
    Kp E w' (ArAt g s) ∧ TreeAt TN E w' p (rs.map Prod.fst) ∧ RowsAt E w' s.length rs ∧ rs.map rview = (allLines s).map lview ∧ Fr [] w w')
theorem rowload_line (E:List (Option Nat)) (w:World) (N m:Nat) (x:LV) (hE:Old E w) (hm:m = x.xs.length) (hx:LineAt N x w) (hb:∀ f ∈ x.line.fields,f.a + f.n ≤ N ∧ f.places.length ≤ N) (hN:N ≤ 1000000) (hl:m ≤ 1000000) :
    Calls Tryz.prog 57 #[.agg #[.slice x.B m x.d,.int .i64 (x.e:Nat)]] w (RowAns E w N x.line.fields x.e):=by
  rcases Nat.lt_or_ge 40 m with h | h
  · exact rowload_big E w N m x.d x.e x.B x.xs hm h hl
  · exact rowload_any E w N m x.d x.e x.B x.xs hE hm h hx.1 hx.2.2 (fun y hy => hb y.f (List.mem_map.2 ⟨y,hy,rfl⟩)) hN
structure GL (E:List (Option Nat)) (w0 w:World) (s:List UInt8) (R L g n:Nat) (ls:List LineP) (j:Nat) (rs:List RW):Prop where
  rb:Blk w R TRow (flatR (rs.map Prod.fst ++ List.replicate (n - j) RV.none)).toArray
  res:Blk w L TGr #[.pointer none,.bool false,.int .i64 0]
  ln:rs.length = j
  rv:rs.map rview = (ls.take j).map lview
  ok:RowsAt (some R :: some L :: E) w s.length rs
  ar:Kp (some R :: some L :: E) w (ArAt g s)
  fr:Fr [] w0 w
  rn:w0.heap.size ≤ R
  le:w0.heap.size ≤ L
  rl:R ≠ L
  old:Old E w0
  jn:j ≤ n
  no:∀ l ∈ ls.take j,rowErrP l.fields = 0
section
variable {E:List (Option Nat)} {w0 w w':World} {s:List UInt8} {R L g n j:Nat} {ls:List LineP} {rs:List RW}
theorem GL.oldE (h:GL E w0 w s R L g n ls j rs) (hf:Fr [] w w'):Old (some R :: some L :: E) w':=fun k hk => by
  have h1:=h.rb.lt
  have h2:=h.res.lt
  have h3:=hf.size
  have h4:=h.fr.size
  rcases List.mem_cons.1 hk with e | e
  · injection e with e; omega
  · rcases List.mem_cons.1 e with e | e
    · injection e with e; omega
    · have:=h.old k e; omega
theorem GL.fr0 (h:GL E w0 w s R L g n ls j rs) (hf:Fr [] w w'):GL E w0 w' s R L g n ls j rs :=
  ⟨h.rb.fr hf (by simp),h.res.fr hf (by simp),h.ln,h.rv,h.ok.grow hf.of_nil (fun k hk => .inl hk),h.ar.fr0 hf,h.fr.trans hf,h.rn,h.le,h.rl,h.old,h.jn,h.no⟩
theorem rows_fit (rs:List RW) (j n:Nat) (hc:rs.length = j) (hj:j < n):j * 3 + 3 ≤ (flatR (rs.map Prod.fst ++ List.replicate (n - j) RV.none)).length:=by
  rw [flatR_len,List.length_append,List.length_map,List.length_replicate]; omega
theorem rows_next (rs:List RW) (x:RW) (j n:Nat) (hc:rs.length = j) (hj:j < n):(flatR (rs.map Prod.fst ++ List.replicate (n - j) RV.none)).take (j * 3) ++ x.1.cells ++ (flatR (rs.map Prod.fst ++ List.replicate (n - j) RV.none)).drop (j * 3 + 3) = flatR ((rs ++ [x]).map Prod.fst ++ List.replicate (n - (j + 1)) RV.none):=by
  have h:=flat_set (f:=RV.cells) (sz:=3) (fun _ => rfl) (rs.map Prod.fst ++ List.replicate (n - j) RV.none) j x.1 (by simp; omega)
  unfold flatR
  rw [← h]
  congr 1
  rw [List.set_append_right _ _ (by rw [List.length_map]; omega),List.length_map,hc,Nat.sub_self,show n - j = (n - (j + 1)) + 1 by omega,List.replicate_succ,List.map_append,List.append_assoc]
  rfl
theorem GL.step {w1 w5:World} {A:Option Addr} {m c e:Nat} {cs:List CV} {l:LineP} (h:GL E w0 w s R L g n ls j rs) (hj:j < n) (hl:ls[j]? = some l) (he:l.e = e) (h0:rowErrP l.fields = 0) (h1:Fr [] w w1)
    (x1:m = cs.length) (x2:m ≤ c) (x3:Kp (some R :: some L :: E) w1 (RowAt s.length A cs)) (x4:cs.map CV.view = l.fields.map fview)
    (h5:Fr [some R] w1 w5) (hR:Blk w5 R TRow ((flatR (rs.map Prod.fst ++ List.replicate (n - j) RV.none)).take (j * 3) ++ ([.slice A m c,.int .i64 (e:Nat),.bool false]:List Value) ++ (flatR (rs.map Prod.fst ++ List.replicate (n - j) RV.none)).drop (j * 3 + 3)).toArray) :
    GL E w0 w5 s R L g n ls (j + 1) (rs ++ [(⟨A,m,c,(e:Nat),false⟩,cs)]):=by
  have hjl:j < ls.length:=by
    rcases Nat.lt_or_ge j ls.length with h | h
    · exact h
    · rw [List.getElem?_eq_none h] at hl; cases hl
  have ht:ls.take (j + 1) = ls.take j ++ [l]:=by
    rw [List.take_succ_eq_append_getElem hjl]
    rw [List.getElem?_eq_getElem hjl] at hl
    injection hl with hl
    rw [hl]
  have hf5:Fr (some R :: some L :: E) w1 w5:=h5.weaken fun i _ e => by rw [List.mem_singleton] at e; rw [e]; exact List.mem_cons_self ..
  have hn:=rows_next rs (⟨A,m,c,(e:Nat),false⟩,cs) j n h.ln hj
  refine ⟨by rw [← hn]; exact hR,(h.res.fr h1 (by simp)).fr h5 (fun e => by rw [List.mem_singleton] at e; injection e with e; exact h.rl e.symm),by simp [h.ln],?_,?_,(h.ar.fr0 h1).fr hf5,?_,h.rn,h.le,h.rl,h.old,hj,?_⟩
  · rw [List.map_append,h.rv,ht,List.map_append]
    congr 1
    simp only [List.map_cons,List.map_nil,rview,lview,x4,he]
  · intro r hr
    rcases List.mem_append.1 hr with hr | hr
    · have:=h.ok r hr
      exact ⟨this.1,this.2.1,(this.2.2.fr0 h1).fr hf5⟩
    · rw [List.mem_singleton] at hr
      subst hr
      exact ⟨x1,x2,x3.fr hf5⟩
  · exact (h.fr.trans h1).seq h5 fun x hx => by rw [List.mem_singleton] at hx; exact .inr (.inr ⟨R,h.rn,hx⟩)
  · intro q hq
    rw [ht] at hq
    rcases List.mem_append.1 hq with hq | hq
    · exact h.no q hq
    · rw [List.mem_singleton] at hq; rw [hq]; exact h0
theorem GL.bad {l:LineP} {en:Ending} (h:GL E w0 w s R L g n ls j rs) (hls:ls = allLines s) (h4:s.length ≤ 4096) (hn:n = ls.length) (h400:n ≤ 400) (hl:ls[j]? = some l) (h0:rowErrP l.fields ≠ 0) (ha:RefAns E w0 (rowErrP l.fields) en w'):LoadAns E w0 s en w':=by
  have hjl:j < ls.length:=by
    rcases Nat.lt_or_ge j ls.length with h | h
    · exact h
    · rw [List.getElem?_eq_none h] at hl; cases hl
  have he:loadErrP s = rowErrP l.fields:=by
    unfold loadErrP
    rw [if_neg (by omega),← hls,if_neg (by omega),errP_take ls j h.no,List.drop_eq_getElem_cons hjl]
    rw [List.getElem?_eq_getElem hjl] at hl
    injection hl with hl
    rw [hl]
    show (if rowErrP l.fields = 0 then _ else _) = _
    rw [if_neg h0]
  exact .inl ⟨by rw [he]; exact h0,by rw [he]; exact ha⟩
theorem GL.good (h:GL E w0 w s R L g n ls n rs) (hls:ls = allLines s) (h4:s.length ≤ 4096) (hn:n = ls.length) (h400:n ≤ 400):loadErrP s = 0 ∧ rs.map rview = (allLines s).map lview:=by
  have htk:ls.take n = ls:=List.take_of_length_le (by omega)
  have hv:=h.rv
  have hno:=h.no
  rw [htk] at hv hno
  refine ⟨?_,hls ▸ hv⟩
  unfold loadErrP
  rw [if_neg (by omega),← hls,if_neg (by omega),errP_take ls ls.length (fun l hl => hno l (List.mem_of_mem_take hl)),List.drop_length]
  rfl
end
theorem infoRV:(Tryz.prog.info? TRow).map (fun i => (i.zero,i.size,i.bytes)) = some (some (Value.agg #[.slice none 0 0,.int .i64 0,.bool false]),3,40):=by kernel_rfl
theorem run_makeRow (n:Nat) (hn:n ≤ 1000000) (W:World):(Instr.makeSlice 133 (.int .i64 (n:Int)) (.int .i64 (n:Int))).run Tryz.prog W = .ok (.slice (some ⟨W.heap.size,0,none⟩) n n) (W.alloc (.cells (flatR (List.replicate n RV.none)).toArray TRow)):=by
  obtain ⟨i0,hi,hz0,hz1,hz2⟩:=info_parts infoRV
  have h:=run_make (P:=Tryz.prog) W 133 TRow i0 _ Tryz.underlying133 hi hz0 .i64 .i64 n n (by omega) (Int.le_refl _) (by rw [hz2]; omega) (by omega)
  simp only [Int.toNat_natCast] at h
  rw [h,hz1]
  have:=made_rep RV.cells RV.none (Value.agg #[.slice none 0 0,.int .i64 0,.bool false]).cells rfl (by decide) n
  rw [show (Value.agg #[.slice none 0 0,.int .i64 0,.bool false]).cells.size = 3 from rfl] at this
  rw [this]
  rfl
end Go.Proofs.YteohomdiklkbfaaGreat
namespace Go.Proofs.YteohomdiklkbfaaGreat
open Go.RowKit Go.Proofs.Dm

set_option maxRecDepth 100000 in
set_option maxHeartbeats 1600000 in
theorem gload_big (E:List (Option Nat)) (w:World) (A:Option Addr) (n c:Nat) (s:List UInt8) (hE:Old E w) (hn:n = s.length) (h:4096 < n) (h6:n ≤ 1000000) :
    Calls Tryz.prog 31 #[.slice A n c] w (LoadAns E w s):=by
  have HLE:Hid (loadErrP s = 8):=by show _ = _; unfold loadErrP; rw [if_pos (by omega)]
  have HW:Hid (∀ W0,W0 = w.alloc (.cells #[.pointer none,.bool false,.int .i64 0] TGr) → Fr [] w W0 ∧ Blk W0 w.heap.size TGr #[.pointer none,.bool false,.int .i64 0]):=by
    show ∀ _,_
    rintro W0 rfl
    exact ⟨(Fr.refl [] w).alloc _,Blk.new w TGr _⟩
  have HN:Hid (∀ w',Calls Tryz.prog 54 #[.slice A n c] w' fun e w'' => e = .returned (.tuple #[.pointer none,.int .i64 8]) ∧ Fr [] w' w''):=fun w' => new_big w' A n c h h6
  have HE:=Lib.hid hE
  clear hE hn h h6
  go_enter Tryz.func31,Tryz.ntmps31
  go_wp2_with fail
  obtain ⟨W0,hW0⟩:∃ W0,W0 = w.alloc (.cells #[.pointer none,.bool false,.int .i64 0] TGr):=⟨_,rfl⟩
  obtain ⟨k1,k2⟩:=HW.out W0 hW0
  rw [← hW0]
  refine (HN.out W0).mono ?_
  rintro en w1 ⟨rfl,hf1⟩
  have HF1:=Lib.hid (k1.trans hf1)
  have HB1:=Lib.hid (k2.fr hf1 (by simp))
  have hr:=refused_any (some w.heap.size :: E) w1 8 (old_box HE.out HF1.out HB1.out.lt)
  have HR:=Lib.hid hr
  clear hW0 k1 k2 hf1 HW HN hr
  go_wp2_with fail
  refine HR.out.mono ?_
  rintro en w2 ⟨g,rfl,hg,hf2⟩
  have hb:=HB1.out.fr hf2 (by simp)
  have c0:w2.cell? ⟨w.heap.size,0,none⟩ = some (.pointer none):=hb.cell 0
  have c1:w2.cell? ⟨w.heap.size,1,none⟩ = some (.bool false):=hb.cell 1
  have c2:w2.cell? ⟨w.heap.size,2,none⟩ = some (.int .i64 0):=hb.cell 2
  have z0:=hb.frozen 0
  have z1:=hb.frozen 1
  have z2:=hb.frozen 2
  have l1:=hb.lt
  have HEND:Hid (∀ w',Fr [some w.heap.size] w2 w' → LoadAns E w s (.returned (.tuple #[.agg #[.pointer none,.bool false,.int .i64 2],.pointer (some ⟨g,0,none⟩),.int .i64 8])) w'):=by
    show ∀ _,_
    intro w' hf
    refine .inl ⟨by rw [HLE.out]; omega,?_⟩
    rw [HLE.out]
    refine ⟨g,rfl,?_,(HF1.out.trans hf2).seq hf fun x hx => by rw [List.mem_singleton] at hx; exact .inr (.inr ⟨_,Nat.le_refl _,hx⟩)⟩
    exact hg.grow (hf.weaken fun i _ h => by rw [List.mem_singleton] at h; rw [h]; exact List.mem_cons_self ..) fun k hk => .inl (List.mem_cons_of_mem _ hk)
  clear hg hf2 hb
  go_wp2_with fail
  refine bodyPost_ret (v:=.tuple #[.agg #[.pointer none,.bool false,.int .i64 2],.pointer (some ⟨g,0,none⟩),.int .i64 8]) (by simp [results,Tryz.results31,go_sem, *]) rfl ?_
  exact HEND.out _ ((((Fr.refl [some w.heap.size] w2).setB (fun _ => by simp) _ _).setB (fun _ => by simp) _ _).setB (fun _ => by simp) _ _)
set_option maxRecDepth 100000 in
set_option maxHeartbeats 1600000 in
theorem gload_any (E:List (Option Nat)) (w:World) (A:Option Addr) (n c:Nat) (s:List UInt8) (hE:Old E w) (hA:Sl w A (bts s)) (hn:n = s.length) (h:n ≤ 4096) :
    Calls Tryz.prog 31 #[.slice A n c] w (LoadAns E w s):=by
  have HS4:Hid (s.length ≤ 4096):=by show _ ≤ _; omega
  obtain ⟨L,hL⟩:∃ L,L = w.heap.size:=⟨_,rfl⟩
  have HLL:=Lib.hid hL
  have HW:Hid (∀ W0,W0 = w.alloc (.cells #[.pointer none,.bool false,.int .i64 0] TGr) → Fr [] w W0 ∧ Blk W0 L TGr #[.pointer none,.bool false,.int .i64 0] ∧ Old (some L :: E) W0 ∧ Calls Tryz.prog 54 #[.slice A n c] W0 (NewAns (some L :: E) W0 s)):=by
    show ∀ _,_
    rintro W0 rfl
    subst hL
    have ho:Old (some w.heap.size :: E) (w.alloc (.cells #[.pointer none,.bool false,.int .i64 0] TGr)):=old_box hE ((Fr.refl [] w).alloc _) (by simp)
    exact ⟨(Fr.refl [] w).alloc _,Blk.new w TGr _,ho,new_any _ _ A n c s ho (hA.fr ((Fr.refl [] w).alloc _) (.inr List.not_mem_nil)) hn h⟩
  have HA:=Lib.hid hA
  have HN:=Lib.hid hn
  have HE:=Lib.hid hE
  clear hE hA hn h
  go_enter Tryz.func31,Tryz.ntmps31
  go_wp2_with fail
  obtain ⟨W0,hW0⟩:∃ W0,W0 = w.alloc (.cells #[.pointer none,.bool false,.int .i64 0] TGr):=⟨_,rfl⟩
  obtain ⟨k1,k2,k3,k4⟩:=HW.out W0 hW0
  rw [← hW0,← hL]
  clear hL
  refine k4.mono ?_
  rintro en w1 ⟨g,rfl,hg,hf1,hgs⟩
  have HF1:=Lib.hid (k1.trans hf1)
  have HB1:=Lib.hid (k2.fr hf1 (by simp))
  have HO1:=Lib.hid (k3.fr hf1)
  have HG1:=Lib.hid hg
  have hall:=lines_any w1 c A s (HA.out.fr HF1.out (.inr List.not_mem_nil)) (by have:=HS4.out; omega)
  rw [← HN.out] at hall
  have HALL:=Lib.hid hall
  clear hW0 k1 k2 k3 k4 hg hf1 hgs HW hall
  go_wp2_with fail
  refine HALL.out.mono ?_
  rintro en w2 ⟨B,d,ls,rfl,hd,hls,hk,hf2⟩
  obtain ⟨m,hm⟩:∃ m,m = ls.length:=⟨_,rfl⟩
  rw [← hm]
  have HM:=Lib.hid hm
  have HLS:Hid (ls.map LV.line = allLines s):=hls
  have HK:=Lib.hid hk
  have HF2:=Lib.hid (HF1.out.trans hf2)
  have HB2:=Lib.hid (HB1.out.fr hf2 (by simp))
  have HO2:=Lib.hid (HO1.out.fr hf2)
  have HG2:=Lib.hid (HG1.out.fr0 hf2)
  have HMM:Hid (m ≤ 1000000):=by
    have h1:=congrArg List.length HLS.out
    have h2:=linesP_len s (s.length + 1) 0
    have h3:=HS4.out
    rw [List.length_map,← HM.out] at h1
    show _ ≤ _
    unfold allLines at h1
    omega
  clear hm hd hls hk hf2 HALL HB1 HO1 HG1 HF1
  by_cases h400:400 < m
  · have h4:(400:Int) < (m:Int):=by omega
    have h5:(m:Int) ≤ 1000000:=by have:=HMM.out; omega
    have HLE:Hid (loadErrP s = 6):=by
      have h1:=congrArg List.length HLS.out
      rw [List.length_map,← HM.out] at h1
      show _ = _
      unfold loadErrP
      rw [if_neg (by have:=HS4.out; omega),if_pos (by omega)]
    have hr:=refused_any (some L :: E) w2 6 HO2.out
    have HR:=Lib.hid hr
    clear h400 hr
    go_wp2_with fail
    refine HR.out.mono ?_
    rintro en w3 ⟨g3,rfl,hg3,hf3⟩
    have hb:=HB2.out.fr hf3 (by simp)
    have c0:w3.cell? ⟨L,0,none⟩ = some (.pointer none):=hb.cell 0
    have c1:w3.cell? ⟨L,1,none⟩ = some (.bool false):=hb.cell 1
    have c2:w3.cell? ⟨L,2,none⟩ = some (.int .i64 0):=hb.cell 2
    have z0:=hb.frozen 0
    have z1:=hb.frozen 1
    have z2:=hb.frozen 2
    have l1:=hb.lt
    have HEND:Hid (∀ w',Fr [some L] w3 w' → LoadAns E w s (.returned (.tuple #[.agg #[.pointer none,.bool false,.int .i64 2],.pointer (some ⟨g3,0,none⟩),.int .i64 6])) w'):=by
      show ∀ _,_
      intro w' hf
      refine .inl ⟨by rw [HLE.out]; omega,?_⟩
      rw [HLE.out]
      refine ⟨g3,rfl,?_,(HF2.out.trans hf3).seq hf fun x hx => by rw [List.mem_singleton] at hx; exact .inr (.inr ⟨_,by rw [HLL.out]; exact Nat.le_refl _,hx⟩)⟩
      exact hg3.grow (hf.weaken fun i _ h => by rw [List.mem_singleton] at h; rw [h]; exact List.mem_cons_self ..) fun k hk => .inl (List.mem_cons_of_mem _ hk)
    clear hg3 hf3 hb
    go_wp2_with fail
    refine bodyPost_ret (v:=.tuple #[.agg #[.pointer none,.bool false,.int .i64 2],.pointer (some ⟨g3,0,none⟩),.int .i64 6]) (by simp [results,Tryz.results31,go_sem, *]) rfl ?_
    exact HEND.out _ ((((Fr.refl [some L] w3).setB (fun _ => by simp) _ _).setB (fun _ => by simp) _ _).setB (fun _ => by simp) _ _)
  · have h4:¬ (400:Int) < (m:Int):=by omega
    have h5:(m:Int) ≤ 400:=by omega
    have HMK:=run_makeRow m (by omega)
    obtain ⟨Z,hZ⟩:∃ Z,Z = (flatR (List.replicate m RV.none)).toArray:=⟨_,rfl⟩
    rw [← hZ] at HMK
    have HZ:=Lib.hid hZ
    have H400:Hid (m ≤ 400):=by show _ ≤ _; omega
    clear hZ h400
    have HAN:Hid (m = (allLines s).length):=by
      have h1:=congrArg List.length HLS.out
      rw [List.length_map,← HM.out] at h1
      exact h1
    have HW3:Hid (∀ W3 R,W3 = w2.alloc (.cells Z TRow) → R = w2.heap.size → w2.heap.size ≤ R ∧ Fr [] w2 W3 ∧ GL E w W3 s R L g m (allLines s) 0 []):=by
      show ∀ _,_
      rintro W3 R rfl rfl
      have hs2:=HF2.out.size
      have hlt:=HB2.out.lt
      refine ⟨Nat.le_refl _,(Fr.refl [] w2).alloc _,?_,HB2.out.alloc _,rfl,rfl,fun r hr => by simp at hr,?_,HF2.out.alloc _,by omega,by rw [HLL.out]; exact Nat.le_refl _,by omega,HE.out,Nat.zero_le _,fun l hl => by simp at hl⟩
      · rw [Nat.sub_zero,List.map_nil,List.nil_append,← HZ.out]
        exact Blk.new w2 TRow Z
      · exact HG2.out.grow ((Fr.refl _ w2).alloc _) fun k hk => by
          rcases List.mem_cons.1 hk with e | e
          · injection e with e; exact .inr (by omega)
          · exact .inl e
    go_wp2_with fail
    obtain ⟨W3,hW3⟩:∃ W3,W3 = w2.alloc (.cells Z TRow):=⟨_,rfl⟩
    obtain ⟨R,hR⟩:∃ R,R = w2.heap.size:=⟨_,rfl⟩
    obtain ⟨hrn,k1,k2⟩:=HW3.out W3 R hW3 hR
    have HRN:=Lib.hid hrn
    rw [← hW3,← hR]
    obtain ⟨ad,had⟩:∃ ad:Addr,ad = ⟨R,0,none⟩:=⟨_,rfl⟩
    rw [← had]
    have HAD:=Lib.hid had
    have HG0:=Lib.hid k2
    have HF3:=Lib.hid k1
    clear hW3 hR k1 k2 had hrn HW3 HMK HZ HB2 HO2 HG2
    go_loopw [38] (fun iv wr => ∃ (j:Nat) (rs:List RW),iv = .int .i64 j ∧ j ≤ m ∧ Hid (GL E w wr s R L g m (allLines s) j rs) ∧ Hid (Fr [] w2 wr)) (fun iv _ => m - (intOf iv).toNat)
    case atStart => exact ⟨0,[],rfl,Nat.zero_le _,HG0.out,HF3.out⟩
    case round =>
      clear HG0 HF3
      obtain ⟨j,rs,rfl,hj,HGL,HFR⟩:=hrel
      by_cases hlt:j < m
      · have hjl:j < ls.length:=by rw [← HM.out]; exact hlt
        obtain ⟨kB,kL⟩:=HK.out.fr0 HFR.out |>.now
        obtain ⟨bd,rfl,e0,e1⟩:=sl_elem (f:=LV.cells) (sz:=2) (fun _ => rfl) kB hjl (by omega)
        obtain ⟨x,hx⟩:∃ x,x = ls[j]:=⟨_,rfl⟩
        rw [← hx] at e0 e1
        have hxm:x ∈ ls:=by rw [hx]; exact List.getElem_mem hjl
        have hxl:(allLines s)[j]? = some x.line:=by rw [← HLS.out,List.getElem?_map,List.getElem?_eq_getElem hjl,← hx]; rfl
        have hbd:=linesP_bd s (s.length + 1) 0 x.line (List.mem_of_getElem? hxl)
        have hxx:=kL x hxm
        obtain ⟨xe,hxe⟩:∃ xe,xe = x.e:=⟨_,rfl⟩
        obtain ⟨xm,hxm2⟩:∃ xm,xm = x.xs.length:=⟨_,rfl⟩
        obtain ⟨xB,hxB⟩:∃ xB,xB = x.B:=⟨_,rfl⟩
        obtain ⟨xd,hxd⟩:∃ xd,xd = x.d:=⟨_,rfl⟩
        have c0:wr.cell? (bd.add (j * 2)) = some (.slice xB xm xd):=by rw [hxm2,hxB,hxd]; exact e0 _ rfl
        have c1:wr.cell? ⟨(bd.add (j * 2)).block,(bd.add (j * 2)).off + 1,none⟩ = some (.int .i64 (xe:Nat)):=by rw [hxe]; exact e1 0 _ rfl
        have HXL:Hid ((allLines s)[j]? = some x.line ∧ x.line.e = xe):=⟨hxl,hxe.symm⟩
        have HC:Hid (∀ w',Fr [] wr w' → Calls Tryz.prog 57 #[.agg #[.slice xB xm xd,.int .i64 (xe:Nat)]] w' (RowAns (some R :: some L :: E) w' s.length x.line.fields xe)):=by
          show ∀ _,_
          intro w' hf
          have hlx:LineAt s.length x w':=(HK.out.fr0 (HFR.out.trans hf) |>.now).2 x hxm
          have hm6:xm ≤ 1000000:=by
            have h1:=congrArg List.length (show x.line.fields = x.xs.map FV.f from rfl)
            rw [List.length_map,← hxm2] at h1
            have:=linesP_fl s (s.length + 1) 0 x.line (List.mem_of_getElem? HXL.out.1)
            have:=HS4.out
            omega
          rw [hxe,hxB,hxd]
          exact rowload_line _ w' s.length xm x (HGL.out.oldE hf) hxm2 hlx hbd (by have:=HS4.out; omega) hm6
        have HFA:Hid (Fr [] wr (wr.alloc (.cells #[.slice xB xm xd,.int .i64 (xe:Nat)] TRw))):=(Fr.refl [] wr).alloc _
        clear e0 e1 kB kL hx hxm hxl hbd hxx hxe hxm2 hxB hxd hjl
        have hj0:(0:Int) ≤ (j:Int):=by omega
        have hj1:(j:Int) < (m:Int):=by omega
        go_wp2_with fail
        refine (HC.out _ HFA.out).mono ?_
        rintro en w3 (⟨h0,rfl,hf3⟩ | ⟨h0,A',n',c',cs,rfl,x1,x2,x3,x4,hf3⟩)
        · obtain ⟨ek,hek⟩:∃ ek,ek = rowErrP x.line.fields:=⟨_,rfl⟩
          have HEK:=Lib.hid hek
          have HH0:=Lib.hid h0
          rw [← hek]
          have he0:¬ (ek:Int) = 0:=by omega
          have HF3:=Lib.hid (HFA.out.trans hf3)
          have HGL3:=Lib.hid (HGL.out.fr0 HF3.out)
          obtain ⟨o0,o1,o2,s0,s1,s2,z0,z1,z2,hbk,hfr⟩:=store3 HAD.out HGL3.out.rb (rows_fit rs j m HGL3.out.ln hlt) (.slice none 0 0) (.int .i64 0) (.bool false)
          obtain ⟨W5,hW5⟩:∃ W5,W5 = (((w3.setCell (ad.add (j * 3)) (.slice none 0 0)).setCell ⟨(ad.add (j * 3)).block,(ad.add (j * 3)).off + 1,none⟩ (.int .i64 0)).setCell ⟨(ad.add (j * 3)).block,(ad.add (j * 3)).off + 2,none⟩ (.bool false)):=⟨_,rfl⟩
          rw [← hW5] at hbk hfr
          have hFW:Fr [] w W5:=HGL3.out.fr.seq hfr fun x hx => by rw [List.mem_singleton] at hx; exact .inr (.inr ⟨R,HGL3.out.rn,hx⟩)
          have hLW:=HGL3.out.res.fr hfr (fun e => by rw [List.mem_singleton] at e; injection e with e; exact HGL3.out.rl e.symm)
          have hr:=refused_any (some L :: E) W5 ek (fun k hk => by
            have h1:=hLW.lt
            rcases List.mem_cons.1 hk with e | e
            · injection e with e; omega
            · have:=HE.out k e; have:=hFW.size; omega)
          have HR:=Lib.hid hr
          have HFW:=Lib.hid hFW
          have HLW:=Lib.hid hLW
          have HW5:=Lib.hid hW5
          clear hbk hfr hf3 h0 hek hFW hLW hr hW5
          go_wp2_with fail
          rw [← HW5.out]
          refine HR.out.mono ?_
          rintro en w6 ⟨g6,rfl,hg6,hf6⟩
          have hb:=HLW.out.fr hf6 (by simp)
          have c0:w6.cell? ⟨L,0,none⟩ = some (.pointer none):=hb.cell 0
          have c1:w6.cell? ⟨L,1,none⟩ = some (.bool false):=hb.cell 1
          have c2:w6.cell? ⟨L,2,none⟩ = some (.int .i64 0):=hb.cell 2
          have y0:=hb.frozen 0
          have y1:=hb.frozen 1
          have y2:=hb.frozen 2
          have l1:=hb.lt
          have HEND:Hid (∀ w',Fr [some L] w6 w' → LoadAns E w s (.returned (.tuple #[.agg #[.pointer none,.bool false,.int .i64 2],.pointer (some ⟨g6,0,none⟩),.int .i64 (ek:Nat)])) w'):=by
            show ∀ _,_
            intro w' hf
            refine HGL.out.bad rfl HS4.out HAN.out H400.out HXL.out.1 HH0.out ?_
            rw [← HEK.out]
            refine ⟨g6,rfl,?_,(HFW.out.trans hf6).seq hf fun x hx => by rw [List.mem_singleton] at hx; exact .inr (.inr ⟨_,by rw [HLL.out]; exact Nat.le_refl _,hx⟩)⟩
            exact hg6.grow (hf.weaken fun i _ h => by rw [List.mem_singleton] at h; rw [h]; exact List.mem_cons_self ..) fun k hk => .inl (List.mem_cons_of_mem _ hk)
          clear hg6 hf6 hb s0 s1 s2 z0 z1 z2
          go_wp2_with fail
          refine bodyPost_ret (v:=.tuple #[.agg #[.pointer none,.bool false,.int .i64 2],.pointer (some ⟨g6,0,none⟩),.int .i64 (ek:Nat)]) (by simp [results,Tryz.results31,go_sem, *]) rfl ?_
          exact HEND.out _ ((((Fr.refl [some L] w6).setB (fun _ => by simp) _ _).setB (fun _ => by simp) _ _).setB (fun _ => by simp) _ _)
        · have HF3:=Lib.hid (HFA.out.trans hf3)
          have HGL3:=Lib.hid (HGL.out.fr0 HF3.out)
          obtain ⟨o0,o1,o2,s0,s1,s2,z0,z1,z2,hbk,hfr⟩:=store3 HAD.out HGL3.out.rb (rows_fit rs j m HGL3.out.ln hlt) (.slice A' n' c') (.int .i64 (xe:Nat)) (.bool false)
          have HNX:=Lib.hid (HGL.out.step hlt HXL.out.1 HXL.out.2 h0 HF3.out x1 x2 x3 x4 hfr hbk)
          have HFN:Hid (Fr [] w2 (((w3.setCell (ad.add (j * 3)) (.slice A' n' c')).setCell ⟨(ad.add (j * 3)).block,(ad.add (j * 3)).off + 1,none⟩ (.int .i64 (xe:Nat))).setCell ⟨(ad.add (j * 3)).block,(ad.add (j * 3)).off + 2,none⟩ (.bool false))):=(HFR.out.trans HF3.out).seq hfr fun x hx => by rw [List.mem_singleton] at hx; exact .inr (.inr ⟨R,HRN.out,hx⟩)
          clear x1 x2 x3 x4 hbk hfr hf3 h0
          go_wp2_with fail
          go_roundw
          case rel => exact ⟨j + 1,_,by go_num,by omega,HNX.out,HFN.out⟩
          case measure => simp [intOf]; omega
      · obtain rfl:j = m:=by omega
        obtain ⟨hE0,hrv⟩:=HGL.out.good rfl HS4.out HAN.out H400.out
        have hxl:(rs.map Prod.fst).length = j:=by rw [List.length_map,HGL.out.ln]
        have hslr:Sl wr (some ad) (flatR (rs.map Prod.fst)):=by
          have hb:=HGL.out.rb
          rw [Nat.sub_self,List.replicate_zero,List.append_nil] at hb
          have:=blk_sl hb (flatR (rs.map Prod.fst)).length
          rw [List.take_length] at this
          rw [HAD.out]
          exact this
        have hO:Old (some L :: E) wr:=fun k hk => by
          have:=HGL.out.oldE (Fr.refl [] wr) k (List.mem_cons_of_mem _ hk)
          exact this
        have hof:=of_any (some L :: E) (some ad) j (rs.map Prod.fst) wr hO hslr (by rw [hxl]; exact Nat.le_refl _) (by rw [hxl]; have:=H400.out; omega)
        rw [hxl] at hof
        have HOF:=Lib.hid hof
        have HE0:=Lib.hid hE0
        have HRV:=Lib.hid hrv
        clear hE0 hrv hxl hslr hO hof
        go_wp2_with fail
        refine HOF.out.mono ?_
        rintro en w5 ⟨p,rfl,ht,hf5⟩
        have HT:=Lib.hid ht
        have HF5:=Lib.hid hf5
        have HW6:Hid (∀ W6,W6 = w5.alloc (.cells #[.pointer p,.bool false,.int .i64 0] TGr) → Fr [] w5 W6 ∧ Blk W6 w5.heap.size TGr #[.pointer p,.bool false,.int .i64 0] ∧ Calls Tryz.prog 59 #[.slice B j d] W6 (EndsAns W6 ((allLines s).map (·.e)))):=by
          show ∀ _,_
          rintro W6 rfl
          have hf:Fr [] w5 (w5.alloc (.cells #[.pointer p,.bool false,.int .i64 0] TGr)):=(Fr.refl [] w5).alloc _
          refine ⟨hf,Blk.new w5 TGr _,?_⟩
          have he:(allLines s).map (·.e) = ls.map (·.e):=by rw [← HLS.out,List.map_map]; rfl
          rw [he]
          have hsl:=((HK.out.fr0 (HFR.out.trans (HF5.out.trans hf))).now).1
          rcases Nat.eq_zero_or_pos j with h0 | h0
          · have:ls = []:=List.eq_nil_of_length_eq_zero (by rw [← HM.out,h0])
            rw [h0,this]
            exact ends_none _ B d
          · exact ends_some _ B j d ls hsl HM.out h0 (by have:=H400.out; omega)
        clear ht hf5 HOF
        go_wp2_with fail
        obtain ⟨W6,hW6⟩:∃ W6,W6 = w5.alloc (.cells #[.pointer p,.bool false,.int .i64 0] TGr):=⟨_,rfl⟩
        obtain ⟨k1,k2,k3⟩:=HW6.out W6 hW6
        rw [← hW6]
        obtain ⟨tl,htl⟩:∃ tl,tl = tailP ((allLines s).map (·.e)):=⟨_,rfl⟩
        obtain ⟨eo,heo⟩:∃ eo,eo = eolP ((allLines s).map (·.e)):=⟨_,rfl⟩
        refine k3.mono ?_
        rintro en w7 ⟨he7,hf7⟩
        rw [← htl,← heo] at he7
        subst he7
        have HTE:Hid (tl = tailP ((allLines s).map (·.e)) ∧ eo = eolP ((allLines s).map (·.e))):=⟨htl,heo⟩
        have HF7:=Lib.hid (k1.trans hf7)
        have gb:=k2.fr hf7 (by simp)
        have lb:=HGL.out.res.fr (HF5.out.trans HF7.out) (by simp)
        have hne:¬ w5.heap.size = L:=by have:=(HGL.out.res.fr HF5.out (by simp)).lt; omega
        have hne2:¬ L = w5.heap.size:=fun e => hne e.symm
        have c0:w7.cell? ⟨L,0,none⟩ = some (.pointer none):=lb.cell 0
        have c1:w7.cell? ⟨L,1,none⟩ = some (.bool false):=lb.cell 1
        have c2:w7.cell? ⟨L,2,none⟩ = some (.int .i64 0):=lb.cell 2
        have y0:=lb.frozen 0
        have y1:=lb.frozen 1
        have y2:=lb.frozen 2
        have l1:=lb.lt
        have g0:w7.cell? ⟨w5.heap.size,0,none⟩ = some (.pointer p):=gb.cell 0
        have g1:w7.cell? ⟨w5.heap.size,1,none⟩ = some (.bool false):=gb.cell 1
        have g2:w7.cell? ⟨w5.heap.size,2,none⟩ = some (.int .i64 0):=gb.cell 2
        have q0:=gb.frozen 0
        have q1:=gb.frozen 1
        have q2:=gb.frozen 2
        have l2:=gb.lt
        have HEND:Hid (∀ w',Fr [some w5.heap.size,some L] w7 w' → LoadAns E w s (.returned (.tuple #[.agg #[.pointer p,.bool tl,.int .i64 (eo:Nat)],.pointer (some ⟨g,0,none⟩),.int .i64 0])) w'):=by
          show ∀ _,_
          intro w' hf
          have hf5:Fr [some L] w5 w':=HF7.out.of_nil.seq hf fun x hx => by
            rcases List.mem_cons.1 hx with rfl | hx
            · exact .inr (.inr ⟨_,Nat.le_refl _,rfl⟩)
            · exact .inl hx
          have hfr:Fr [some L] wr w':=HF5.out.of_nil.trans hf5
          have hfE:Fr (some L :: E) w5 w':=hf5.weaken fun i _ h => by rw [List.mem_singleton] at h; rw [h]; exact List.mem_cons_self ..
          have hfRE:Fr (some R :: some L :: E) wr w':=hfr.weaken fun i _ h => by rw [List.mem_singleton] at h; rw [h]; exact List.mem_cons_of_mem _ (List.mem_cons_self ..)
          have hsub:∀ {X:World} (k:Nat),some k ∈ E → some k ∈ some R :: some L :: E ∨ X.heap.size ≤ k:=fun k hk => .inl (List.mem_cons_of_mem _ (List.mem_cons_of_mem _ hk))
          refine .inr ⟨HE0.out,g,p,rs,by rw [HTE.out.1,HTE.out.2],HGL.out.ar.grow hfRE hsub,HT.out.grow hfE (fun k hk => .inl (List.mem_cons_of_mem _ hk)),HGL.out.ok.grow hfRE hsub,HRV.out,?_⟩
          exact HGL.out.fr.seq hfr fun x hx => by rw [List.mem_singleton] at hx; exact .inr (.inr ⟨_,by rw [HLL.out]; exact Nat.le_refl _,hx⟩)
        clear hW6 k1 k2 k3 htl heo hf7 gb lb HW6
        go_wp2_with fail
        refine bodyPost_ret (v:=.tuple #[.agg #[.pointer p,.bool tl,.int .i64 (eo:Nat)],.pointer (some ⟨g,0,none⟩),.int .i64 0]) (by simp [results,Tryz.results31,go_sem, *]) rfl ?_
        exact HEND.out _ ((((((Fr.refl [some w5.heap.size,some L] w7).setB (fun _ => by simp) _ _).setB (fun _ => by simp) _ _).setB (fun _ => by simp) _ _).setB (fun _ => by simp) _ _).setB (fun _ => by simp) _ _)
end Go.Proofs.YteohomdiklkbfaaGreat
namespace Go.Proofs.YteohomdiklkbfaaGreat
open Go.RowKit Go.Proofs.Dm

set_option maxRecDepth 100000 in
set_option maxHeartbeats 800000 in
theorem grow_any (p:Option Addr) (xs:List RV) (tl:Bool) (eo:Int) (i:Nat) (r:RV) (w:World) (ht:TreeAt TN [] w p xs) (hi:xs[i]? = some r) (hn:xs.length ≤ 100000) :
    Calls Tryz.prog 18 #[.agg #[.pointer p,.bool tl,.int .i64 eo],.int .i64 (i:Nat)] w fun e w' => e = .returned (.tuple #[.agg #[.slice r.A r.n r.c,.int .i64 r.e,.bool r.h],.bool true]) ∧ Fr [] w w':=by
  have hl:i < xs.length:=by
    rcases Nat.lt_or_ge i xs.length with h | h
    · exact h
    · rw [List.getElem?_eq_none h] at hi; cases hi
  have hr:xs[i] = r:=by rw [List.getElem?_eq_getElem hl] at hi; injection hi
  have HC:Hid (∀ w',Fr [] w w' → Calls Tryz.prog 39 #[.agg #[.pointer p],.int .i64 (i:Nat)] w' fun e w'' => e = .returned (.tuple #[.agg #[.slice r.A r.n r.c,.int .i64 r.e,.bool r.h],.bool true]) ∧ Fr [] w' w''):=by
    show ∀ _,_
    intro w' hf
    have:=at_yes (E:=[]) p xs i w' (ht.fr0 hf) hl hn
    rw [hr] at this
    exact this
  obtain ⟨A,n,c,e,h⟩:=r
  obtain ⟨W1,hW1⟩:∃ W1,W1 = (w.alloc (.cells #[.pointer p,.bool tl,.int .i64 eo] TGr)).alloc (.cells #[.slice none 0 0,.int .i64 0,.bool false] TRow):=⟨_,rfl⟩
  have HW:Hid (Fr [] w W1 ∧ Blk W1 (w.heap.size + 1) TRow #[.slice none 0 0,.int .i64 0,.bool false]):=by
    have b2:=Blk.new (w.alloc (.cells #[.pointer p,.bool tl,.int .i64 eo] TGr)) TRow #[.slice none 0 0,.int .i64 0,.bool false]
    rw [World.size_alloc,← hW1] at b2
    exact ⟨by rw [hW1]; exact ((Fr.refl [] w).alloc _).alloc _,b2⟩
  have HW1:=Lib.hid hW1
  clear ht hi hn hl hr hW1
  go_enter Tryz.func18,Tryz.ntmps18
  go_wp2_with fail
  rw [← HW1.out]
  refine (HC.out _ HW.out.1).mono ?_
  rintro en w2 ⟨rfl,hf2⟩
  have hb:=HW.out.2.fr hf2 (by simp)
  have l0:w2.cell? ⟨w.heap.size + 1,0,none⟩ = some (.slice none 0 0):=hb.cell 0
  have l1:w2.cell? ⟨w.heap.size + 1,1,none⟩ = some (.int .i64 0):=hb.cell 1
  have l2:w2.cell? ⟨w.heap.size + 1,2,none⟩ = some (.bool false):=hb.cell 2
  have z0:=hb.frozen 0
  have z1:=hb.frozen 1
  have z2:=hb.frozen 2
  have ll:=hb.lt
  have HF:=Lib.hid (HW.out.1.trans hf2)
  clear hb hf2
  go_wp2_with fail
  refine bodyPost_ret (v:=.tuple #[.agg #[.slice A n c,.int .i64 e,.bool h],.bool true]) (by simp [results,Tryz.results18,go_sem, *]) rfl ?_
  have hx:w.heap.size + 1 < w.heap.size → some (w.heap.size + 1) ∈ ([]:List (Option Nat)):=fun h => absurd h (by omega)
  exact ⟨rfl,((HF.out.setB hx _ _).setB hx _ _).setB hx _ _⟩
end Go.Proofs.YteohomdiklkbfaaGreat
