import Derived.Test.YteohomdiklkbfaaGreatA08
import Derived.Deep.RegionLaw
namespace Go.Proofs.YteohomdiklkbfaaGreat
open Go.RowKit Go.Proofs.Dm

abbrev TCl:TypeId:=126
structure CV where
  B:Option Addr
  m:Nat
  d:Nat
  sp:List (Nat × Nat)
  q:Nat
  a:Nat
  n:Nat
  kept:Bool
def CV.cells (x:CV):List Value:=[.slice x.B x.m x.d,.int .i64 (x.q:Nat),.int .i64 (x.a:Nat),.int .i64 (x.n:Nat),.bool x.kept]
def CV.val (x:CV):Value:=.agg #[.slice x.B x.m x.d,.int .i64 (x.q:Nat),.int .i64 (x.a:Nat),.int .i64 (x.n:Nat),.bool x.kept]
def cvc (xs:List CV):List Value:=xs.flatMap CV.cells
theorem cvc_len (xs:List CV):(cvc xs).length = xs.length * 5:=enc_len (sz:=5) (fun _ => rfl) xs
theorem cvc_one (xs:List CV):∀ u ∈ cvc xs,u.oneCell' = true:=by
  refine enc_one (fun x u hu => ?_) xs
  simp only [CV.cells,List.mem_cons,List.not_mem_nil,or_false] at hu
  rcases hu with rfl | rfl | rfl | rfl | rfl <;> rfl
def CellAt (N:Nat) (x:CV) (w:World):Prop:=Sl w x.B (spc x.sp) ∧ x.m = x.sp.length ∧ x.q = (plc x.sp).length ∧ (∀ y ∈ x.sp,1 ≤ y.2 ∧ y.1 + y.2 ≤ N) ∧ x.a + x.n ≤ N
def CellAns (w:World) (N:Nat) (P:List Nat) (a n:Nat) (e:Ending) (w':World):Prop :=
  ∃ x:CV,e = .returned x.val ∧ x.kept = true ∧ x.a = a ∧ x.n = n ∧ plc x.sp = P ∧ x.q = P.length ∧ x.m = x.sp.length ∧ ORow w' TSp 2 x.B x.d x.sp.length (spc x.sp) ∧ (∀ y ∈ x.sp,1 ≤ y.2 ∧ y.1 + y.2 ≤ N) ∧ Fr [] w w' ∧ ∀ j,bk x.B = some j → w.heap.size ≤ j
theorem textlen_any (w:World) (B:Option Addr) (m d q:Nat) :
    Calls Tryz.prog 100 #[.agg #[.slice B m d,.int .i64 (q:Nat)]] w fun e w' => e = .returned (.int .i64 (q:Nat)) ∧ Fr [] w w':=by
  go_enter Tryz.func100,Tryz.ntmps100
  go_wp2_with fail
  go_ret
  exact ⟨rfl,(Fr.refl [] w).alloc _⟩
set_option maxRecDepth 100000 in
set_option maxHeartbeats 1600000 in
theorem cellload_any (w:World) (N a n kd m d:Nat) (B:Option Addr) (sp:List (Nat × Nat)) (hB:Sl w B (spc sp)) (hm:m = sp.length) (hs:∀ x ∈ sp,1 ≤ x.2 ∧ x.1 + x.2 ≤ N) (hN:N ≤ 1000000) (hp:(plc sp).length ≤ 1000000) :
    Calls Tryz.prog 99 #[.agg #[.int .i64 (a:Nat),.int .i64 (n:Nat),.int .i64 (kd:Nat),.slice B m d]] w (CellAns w N (plc sp) a n):=by
  have HC:Hid (∀ w',Fr [] w w' → Calls Tryz.prog 121 #[.slice B m d] w' (TextAns w' N (plc sp))):=by
    show ∀ _,_
    intro w' hf
    exact textof_any w' N m d B sp (hB.fr hf (.inr List.not_mem_nil)) hm hs hN hp
  have HW:Hid (∀ W0,W0 = (w.alloc (.cells #[.int .i64 (a:Nat),.int .i64 (n:Nat),.int .i64 (kd:Nat),.slice B m d] TFd)).alloc (.cells #[.slice none 0 0,.int .i64 0,.int .i64 0,.int .i64 0,.bool false] TCl) → Fr [] w W0 ∧ Blk W0 w.heap.size TFd #[.int .i64 (a:Nat),.int .i64 (n:Nat),.int .i64 (kd:Nat),.slice B m d] ∧ Blk W0 (w.heap.size + 1) TCl #[.slice none 0 0,.int .i64 0,.int .i64 0,.int .i64 0,.bool false]):=by
    show ∀ _,_
    rintro W0 rfl
    have b1:=Blk.new (w.alloc (.cells #[.int .i64 (a:Nat),.int .i64 (n:Nat),.int .i64 (kd:Nat),.slice B m d] TFd)) TCl #[.slice none 0 0,.int .i64 0,.int .i64 0,.int .i64 0,.bool false]
    rw [show (w.alloc (.cells #[.int .i64 (a:Nat),.int .i64 (n:Nat),.int .i64 (kd:Nat),.slice B m d] TFd)).heap.size = w.heap.size + 1 by simp] at b1
    exact ⟨((Fr.refl [] w).alloc _).alloc _,(Blk.new w TFd _).alloc _,b1⟩
  clear hB hm hs hN hp
  go_enter Tryz.func99,Tryz.ntmps99
  go_wp2_with fail
  obtain ⟨W0,hW0⟩:∃ W0,W0 = (w.alloc (.cells #[.int .i64 (a:Nat),.int .i64 (n:Nat),.int .i64 (kd:Nat),.slice B m d] TFd)).alloc (.cells #[.slice none 0 0,.int .i64 0,.int .i64 0,.int .i64 0,.bool false] TCl):=⟨_,rfl⟩
  have HW0:=Lib.hid (HW.out W0 hW0)
  rw [← hW0]
  obtain ⟨p,hp⟩:∃ p,p = w.heap.size + 1:=⟨_,rfl⟩
  obtain ⟨g,hg⟩:∃ g,g = w.heap.size:=⟨_,rfl⟩
  rw [← hp] at HW0 ⊢
  rw [← hg] at HW0 ⊢
  have HPG:Hid (g = w.heap.size ∧ p = g + 1):=⟨hg,by omega⟩
  have hne:¬ p = g:=by omega
  clear hW0 hp hg HW
  have HALL:Hid (∀ v,Fr [] W0 v → v.cell? ⟨g,0,none⟩ = some (.int .i64 (a:Nat)) ∧ v.cell? ⟨g,1,none⟩ = some (.int .i64 (n:Nat)) ∧ v.cell? ⟨g,3,none⟩ = some (.slice B m d) ∧ v.cell? ⟨p,0,none⟩ = some (.slice none 0 0) ∧ v.cell? ⟨p,1,none⟩ = some (.int .i64 0) ∧ v.cell? ⟨p,2,none⟩ = some (.int .i64 0) ∧ v.cell? ⟨p,3,none⟩ = some (.int .i64 0) ∧ v.cell? ⟨p,4,none⟩ = some (.bool false) ∧ v.frozen? ⟨p,0,none⟩ = false ∧ v.frozen? ⟨p,1,none⟩ = false ∧ v.frozen? ⟨p,2,none⟩ = false ∧ v.frozen? ⟨p,3,none⟩ = false ∧ v.frozen? ⟨p,4,none⟩ = false ∧ p < v.heap.size):=by
    show ∀ _,_
    intro v hv
    have b1:=HW0.out.2.1.fr hv (by simp)
    have b2:=HW0.out.2.2.fr hv (by simp)
    exact ⟨b1.cell 0,b1.cell 1,b1.cell 3,b2.cell 0,b2.cell 1,b2.cell 2,b2.cell 3,b2.cell 4,b2.frozen _,b2.frozen _,b2.frozen _,b2.frozen _,b2.frozen _,b2.lt⟩
  obtain ⟨g0,g1,g3,p0,p1,p2,p3,p4,z0,z1,z2,z3,z4,pl⟩:=HALL.out W0 (Fr.refl _ _)
  go_region_law (
    (refine step_call _ (by rfl) 121 #[.slice B m d] (by go_simp) _ (HC.out _ (HW0.out.1.trans ((Fr.refl [] W0).drew))) (by rintro e w4 ⟨B1,d1,m1,sp1,q1,he,_⟩; exact ⟨_,he⟩) ?_
     intro v4 w4 hans
     obtain ⟨B1,d1,m1,sp1,q1,hv4,hm1,hr1,hp1,hq1,hs1,hl1,hf1,hn1⟩:=hans
     injection hv4 with hv4
     subst hv4
     have HF:=Lib.hid (((Fr.refl [] W0).drew).trans hf1)
     have HANS:Hid (∀ w5,Fr [some p] w4 w5 → CellAns w N (plc sp) a n (.returned (.agg #[.slice B1 m1 d1,.int .i64 (q1:Nat),.int .i64 (a:Nat),.int .i64 (n:Nat),.bool true])) w5):=by
       show ∀ _,_
       intro w5 h5
       have hs0:=HW0.out.1.size
       have hpl:=HW0.out.2.2.lt
       refine ⟨⟨B1,m1,d1,sp1,q1,a,n,true⟩,rfl,rfl,rfl,rfl,hp1,hq1,hm1,ORow.fr hr1 h5 ?_,hs1,(HW0.out.1.trans HF.out).seq h5 fun x hx => ?_,fun k hk => by have:=hn1 k hk; show _ ≤ _; simp at this; omega⟩
       · cases hB:bk B1 with
         | none => exact .inl rfl
         | some j => exact .inr fun e => by rw [List.mem_singleton] at e; injection e with e; have:=hn1 j hB; simp at this; omega
       · rw [List.mem_singleton] at hx
         exact .inr (.inr ⟨p,by have:=HPG.out; omega,hx⟩)
     obtain ⟨g0',g1',g3',p0',p1',p2',p3',p4',z0',z1',z2',z3',z4',pl'⟩:=HALL.out w4 HF.out
     clear hm1 hr1 hp1 hq1 hs1 hl1 hf1 hn1))
  all_goals
    go_wp2_with fail
    refine bodyPost_ret (v:=.agg #[.slice B1 m1 d1,.int .i64 (q1:Nat),.int .i64 (a:Nat),.int .i64 (n:Nat),.bool true]) (by simp [results,Tryz.results99,go_sem, *]) rfl ?_
    exact HANS.out _ (((((Fr.refl [some p] w4).setB (fun _ => by simp) _ _).setB (fun _ => by simp) _ _).setB (fun _ => by simp) _ _).setB (fun _ => by simp) _ _ |>.setB (fun _ => by simp) _ _)
end Go.Proofs.YteohomdiklkbfaaGreat
namespace Go.Proofs.Dm
open Go.RowKit
theorem quoP_len:∀ (l:List UInt8) (i:Nat),(quoP l i).1.length + i ≤ (quoP l i).2.1
  | [],i => by simp [quoP]
  | [c],i => by unfold quoP; split <;> simp <;> omega
  | c :: d :: r,i => by
    have h1:=quoP_len r (i + 2)
    have h2:=quoP_len (d :: r) (i + 1)
    unfold quoP
    by_cases hc:c = 34
    · rw [if_pos hc]
      by_cases hd:d = 34
      · rw [if_pos hd]; simp only [List.length_cons]; omega
      · rw [if_neg hd]; simp
    · rw [if_neg hc]; simp only [List.length_cons]; omega
theorem fieldP_len (s:List UInt8) (a:Nat) (h:a ≤ s.length):(fieldP s a).places.length ≤ (fieldP s a).n:=by
  unfold fieldP
  split
  · rename_i hq
    have hlt:a < s.length:=by
      rcases Nat.lt_or_ge a s.length with h | h
      · exact h
      · rw [List.getElem?_eq_none h] at hq; cases hq
    have hb:=quoP_bd (s.drop (a + 1)) (a + 1)
    have hl:=quoP_len (s.drop (a + 1)) (a + 1)
    rw [List.length_drop] at hb
    dsimp only
    split
    · dsimp only; rw [List.length_append,List.length_range']; omega
    · dsimp only; omega
  · simp
theorem fieldsP_bd (s:List UInt8):∀ (k a:Nat),a ≤ s.length → ∀ f ∈ fieldsP s k a,f.a + f.n ≤ s.length ∧ f.places.length ≤ s.length
  | 0,a,_ => by simp [fieldsP]
  | k + 1,a,h => by
    intro f hf
    have hb:=fieldP_bd s a h
    rcases List.mem_cons.1 (show f ∈ fieldP s a :: _ from hf) with rfl | hf
    · have:=fieldP_len s a h
      rw [fieldP_a]; omega
    · split at hf
      · rename_i hq
        have hlt:a + (fieldP s a).n < s.length:=by
          rcases Nat.lt_or_ge (a + (fieldP s a).n) s.length with h | h
          · exact h
          · rw [List.getElem?_eq_none h] at hq; cases hq
        exact fieldsP_bd s k _ hlt f hf
      · simp at hf
theorem linesP_bd (s:List UInt8):∀ (k a:Nat),∀ x ∈ linesP s k a,∀ f ∈ x.fields,f.a + f.n ≤ s.length ∧ f.places.length ≤ s.length
  | 0,a => by simp [linesP]
  | k + 1,a => by
    intro x hx
    by_cases h:a < s.length
    · rw [show linesP s (k + 1) a = (lineP s a).1 :: linesP s k (lineP s a).2 by show (if a < s.length then _ else _) = _; rw [if_pos h]] at hx
      rcases List.mem_cons.1 hx with rfl | hx
      · exact fieldsP_bd s _ a (Nat.le_of_lt h)
      · exact linesP_bd s k _ x hx
    · rw [show linesP s (k + 1) a = [] by show (if a < s.length then _ else _) = _; rw [if_neg h]] at hx
      simp at hx
def rowErrP (fs:List FieldP):Nat:=if 40 < fs.length then 6 else if fs.any (fun f => decide (400 < f.places.length)) then 7 else 0
theorem made_rep {α:Type} (f:α → List Value) (x:α) (z:Array Value) (hz:z.toList = f x) (h0:0 < z.size) (n:Nat):(madeCells z (n * z.size)) = ((List.replicate n x).flatMap f).toArray:=by
  have hfl:∀ n,((List.replicate n x).flatMap f).length = n * z.size:=fun n => by
    induction n with
    | zero => simp
    | succ n ih => rw [List.replicate_succ,List.flatMap_cons,List.length_append,ih,← hz,Array.length_toList,Nat.add_one_mul]; omega
  have key:∀ n j,j < n * z.size → ((List.replicate n x).flatMap f)[j]? = z[j % z.size]?:=fun n => by
    induction n with
    | zero => intro j hj; omega
    | succ n ih =>
      intro j hj
      rw [List.replicate_succ,List.flatMap_cons,← hz]
      rcases Nat.lt_or_ge j z.size with h | h
      · rw [List.getElem?_append_left (by simpa using h),Nat.mod_eq_of_lt h,Array.getElem?_toList]
      · rw [List.getElem?_append_right (by simpa using h),Array.length_toList,ih _ (by rw [Nat.add_one_mul] at hj; omega),← Nat.mod_eq_sub_mod h]
  apply Array.ext'
  apply List.ext_getElem?
  intro j
  rcases Nat.lt_or_ge j (n * z.size) with h | h
  · rw [key n j h]
    have hm:j % z.size < z.size:=Nat.mod_lt _ h0
    simp [madeCells,h,hm]
  · rw [List.getElem?_eq_none (by simp [madeCells]; exact h)]
    exact (List.getElem?_eq_none (by rw [hfl]; exact h)).symm
theorem flat_set {α:Type} {f:α → List Value} {sz:Nat} (hf:∀ x,(f x).length = sz) (xs:List α) (j:Nat) (x:α) (hj:j < xs.length):(xs.set j x).flatMap f = (xs.flatMap f).take (j * sz) ++ f x ++ (xs.flatMap f).drop (j * sz + sz):=by
  rw [← enc_take hf,show j * sz + sz = (j + 1) * sz by rw [Nat.add_one_mul],← enc_drop hf,List.set_eq_take_append_cons_drop,if_pos hj]
  simp
end Go.Proofs.Dm
namespace Go.Proofs.YteohomdiklkbfaaGreat
open Go.RowKit Go.Proofs.Dm
abbrev TRow:TypeId:=63
def CV.zero:CV:=⟨none,0,0,[],0,0,0,false⟩
def CV.view (c:CV):List Nat × Nat × Nat × Bool:=(plc c.sp,c.a,c.n,c.kept)
def fview (f:FieldP):List Nat × Nat × Nat × Bool:=(f.places,f.a,f.n,true)
def RowAt (N:Nat) (A:Option Addr) (cs:List CV) (w:World):Prop:=Sl w A (cvc cs) ∧ ∀ c ∈ cs,CellAt N c w
def RowAns (E:List (Option Nat)) (w:World) (N:Nat) (fs:List FieldP) (e:Nat) (en:Ending) (w':World):Prop :=
  (rowErrP fs ≠ 0 ∧ en = .returned (.tuple #[.agg #[.slice none 0 0,.int .i64 0,.bool false],.int .i64 (rowErrP fs:Nat)]) ∧ Fr [] w w') ∨
  (rowErrP fs = 0 ∧ ∃ (A:Option Addr) (n c:Nat) (cs:List CV),en = .returned (.tuple #[.agg #[.slice A n c,.int .i64 (e:Nat),.bool false],.int .i64 0]) ∧ n = cs.length ∧ n ≤ c ∧ Kp E w' (RowAt N A cs) ∧ cs.map CV.view = fs.map fview ∧ Fr [] w w')
theorem infoCl:(Tryz.prog.info? TCl).map (fun i => (i.zero,i.size,i.bytes)) = some (some (Value.agg #[.slice none 0 0,.int .i64 0,.int .i64 0,.int .i64 0,.bool false]),5,56):=by kernel_rfl
theorem run_makeCl (n:Nat) (hn:n ≤ 1000000) (W:World):(Instr.makeSlice 61 (.int .i64 (n:Int)) (.int .i64 (n:Int))).run Tryz.prog W = .ok (.slice (some ⟨W.heap.size,0,none⟩) n n) (W.alloc (.cells (cvc (List.replicate n CV.zero)).toArray TCl)):=by
  obtain ⟨i0,hi,hz0,hz1,hz2⟩:=info_parts infoCl
  have h:=run_make (P:=Tryz.prog) W 61 TCl i0 _ Tryz.underlying61 hi hz0 .i64 .i64 n n (by omega) (Int.le_refl _) (by rw [hz2]; omega) (by omega)
  simp only [Int.toNat_natCast] at h
  rw [h,hz1]
  have:=made_rep CV.cells CV.zero (Value.agg #[.slice none 0 0,.int .i64 0,.int .i64 0,.int .i64 0,.bool false]).cells rfl (by decide) n
  rw [show (Value.agg #[.slice none 0 0,.int .i64 0,.int .i64 0,.int .i64 0,.bool false]).cells.size = 5 from rfl] at this
  rw [this]
  rfl
end Go.Proofs.YteohomdiklkbfaaGreat
namespace Go.Proofs.YteohomdiklkbfaaGreat
open Go.RowKit Go.Proofs.Dm

set_option maxRecDepth 100000 in
set_option maxHeartbeats 1600000 in
theorem rowload_big (E:List (Option Nat)) (w:World) (N m d e:Nat) (B:Option Addr) (xs:List FV) (hm:m = xs.length) (h40:40 < m) (hn:m ≤ 1000000) :
    Calls Tryz.prog 57 #[.agg #[.slice B m d,.int .i64 (e:Nat)]] w (RowAns E w N (xs.map FV.f) e):=by
  have HE:Hid (rowErrP (xs.map FV.f) = 6):=by
    show _ = _
    unfold rowErrP
    rw [if_pos (by rw [List.length_map]; omega)]
  have h1:(40:Int) < (m:Int):=by omega
  have h2:(m:Int) ≤ 1000000:=by omega
  clear hm h40 hn
  go_enter Tryz.func57,Tryz.ntmps57
  go_wp2_with fail
  refine bodyPost_ret (v:=.tuple #[.agg #[.slice none 0 0,.int .i64 0,.bool false],.int .i64 6]) (by simp [results,Tryz.results57,go_sem, *]) rfl ?_
  refine .inl ⟨by rw [HE.out]; omega,by rw [HE.out]; rfl,?_⟩
  exact Fr.alloc (Fr.alloc (Fr.refl [] w) _) _

theorem set5 (cs:List Value) (i:Nat) (h:i + 5 ≤ cs.length) (v0 v1 v2 v3 v4:Value):((((cs.set i v0).set (i + 1) v1).set (i + 2) v2).set (i + 3) v3).set (i + 4) v4 = cs.take i ++ [v0,v1,v2,v3,v4] ++ cs.drop (i + 5):=by
  obtain ⟨A,D,o0,o1,o2,o3,o4,rfl,hl⟩:∃ A D o0 o1 o2 o3 o4,cs = A ++ (o0 :: o1 :: o2 :: o3 :: o4 :: D) ∧ A.length = i:=by
    refine ⟨cs.take i,cs.drop (i + 5),cs[i],cs[i + 1],cs[i + 2],cs[i + 3],cs[i + 4],?_,by rw [List.length_take]; omega⟩
    conv => lhs; rw [← List.take_append_drop i cs,List.drop_eq_getElem_cons (l:=cs) (i:=i) (by omega),List.drop_eq_getElem_cons (l:=cs) (i:=i + 1) (by omega),List.drop_eq_getElem_cons (l:=cs) (i:=i + 1 + 1) (by omega),List.drop_eq_getElem_cons (l:=cs) (i:=i + 1 + 1 + 1) (by omega),List.drop_eq_getElem_cons (l:=cs) (i:=i + 1 + 1 + 1 + 1) (by omega)]
  subst hl
  rw [List.take_left' rfl,List.drop_length_add_append,List.set_append_right _ _ (by omega),List.set_append_right _ _ (by omega),List.set_append_right _ _ (by omega),List.set_append_right _ _ (by omega),List.set_append_right _ _ (by omega)]
  rw [Nat.sub_self,show A.length + 1 - A.length = 1 by omega,show A.length + 2 - A.length = 2 by omega,show A.length + 3 - A.length = 3 by omega,show A.length + 4 - A.length = 4 by omega]
  simp
theorem store5 {v:World} {R i:Nat} {t:TypeId} {cs:List Value} {ad:Addr} (had:ad = ⟨R,0,none⟩) (hb:Blk v R t cs.toArray) (hi:i + 5 ≤ cs.length) (v0 v1 v2 v3 v4:Value) :
    ∃ o0 o1 o2 o3 o4,v.cell? (ad.add i) = some o0 ∧ (v.setCell (ad.add i) v0).cell? ⟨(ad.add i).block,(ad.add i).off + 1,none⟩ = some o1 ∧
      ((v.setCell (ad.add i) v0).setCell ⟨(ad.add i).block,(ad.add i).off + 1,none⟩ v1).cell? ⟨(ad.add i).block,(ad.add i).off + 2,none⟩ = some o2 ∧
      (((v.setCell (ad.add i) v0).setCell ⟨(ad.add i).block,(ad.add i).off + 1,none⟩ v1).setCell ⟨(ad.add i).block,(ad.add i).off + 2,none⟩ v2).cell? ⟨(ad.add i).block,(ad.add i).off + 3,none⟩ = some o3 ∧
      ((((v.setCell (ad.add i) v0).setCell ⟨(ad.add i).block,(ad.add i).off + 1,none⟩ v1).setCell ⟨(ad.add i).block,(ad.add i).off + 2,none⟩ v2).setCell ⟨(ad.add i).block,(ad.add i).off + 3,none⟩ v3).cell? ⟨(ad.add i).block,(ad.add i).off + 4,none⟩ = some o4 ∧
      v.frozen? (ad.add i) = false ∧ v.frozen? ⟨(ad.add i).block,(ad.add i).off + 1,none⟩ = false ∧ v.frozen? ⟨(ad.add i).block,(ad.add i).off + 2,none⟩ = false ∧ v.frozen? ⟨(ad.add i).block,(ad.add i).off + 3,none⟩ = false ∧ v.frozen? ⟨(ad.add i).block,(ad.add i).off + 4,none⟩ = false ∧
      Blk (((((v.setCell (ad.add i) v0).setCell ⟨(ad.add i).block,(ad.add i).off + 1,none⟩ v1).setCell ⟨(ad.add i).block,(ad.add i).off + 2,none⟩ v2).setCell ⟨(ad.add i).block,(ad.add i).off + 3,none⟩ v3).setCell ⟨(ad.add i).block,(ad.add i).off + 4,none⟩ v4) R t (cs.take i ++ [v0,v1,v2,v3,v4] ++ cs.drop (i + 5)).toArray ∧
      Fr [some R] v (((((v.setCell (ad.add i) v0).setCell ⟨(ad.add i).block,(ad.add i).off + 1,none⟩ v1).setCell ⟨(ad.add i).block,(ad.add i).off + 2,none⟩ v2).setCell ⟨(ad.add i).block,(ad.add i).off + 3,none⟩ v3).setCell ⟨(ad.add i).block,(ad.add i).off + 4,none⟩ v4):=by
  subst had
  rw [add_lit]
  dsimp only
  have b0:=hb.set_ i v0
  have b1:=b0.set_ (i + 1) v1
  have b2:=b1.set_ (i + 2) v2
  have b3:=b2.set_ (i + 3) v3
  have b4:=b3.set_ (i + 4) v4
  have hsz:i + 5 ≤ cs.toArray.size:=by simpa using hi
  refine ⟨cs.toArray[i],cs.toArray[i + 1],cs.toArray[i + 2],cs.toArray[i + 3],cs.toArray[i + 4],?_,?_,?_,?_,?_,hb.frozen _,hb.frozen _,hb.frozen _,hb.frozen _,hb.frozen _,?_,?_⟩
  · rw [hb.cell]; exact Array.getElem?_eq_getElem _
  · rw [b0.cell,Array.getElem?_setIfInBounds_ne (by omega)]; exact Array.getElem?_eq_getElem _
  · rw [b1.cell,Array.getElem?_setIfInBounds_ne (by omega),Array.getElem?_setIfInBounds_ne (by omega)]; exact Array.getElem?_eq_getElem _
  · rw [b2.cell,Array.getElem?_setIfInBounds_ne (by omega),Array.getElem?_setIfInBounds_ne (by omega),Array.getElem?_setIfInBounds_ne (by omega)]; exact Array.getElem?_eq_getElem _
  · rw [b3.cell,Array.getElem?_setIfInBounds_ne (by omega),Array.getElem?_setIfInBounds_ne (by omega),Array.getElem?_setIfInBounds_ne (by omega),Array.getElem?_setIfInBounds_ne (by omega)]; exact Array.getElem?_eq_getElem _
  · rw [← set5 cs i hi]
    simpa using b4
  · exact (((((Fr.refl [some R] v).setB (by simp) _ _).setB (by simp) _ _).setB (by simp) _ _).setB (by simp) _ _).setB (by simp) _ _
theorem store5_cells {v:World} {R i:Nat} {t:TypeId} {P D:List Value} {ad:Addr} {v0 v1 v2 v3 v4:Value} (had:ad = ⟨R,0,none⟩) (hb:Blk v R t (P ++ [v0,v1,v2,v3,v4] ++ D).toArray) (hi:P.length = i) :
    v.cell? (ad.add i) = some v0 ∧ v.cell? ⟨(ad.add i).block,(ad.add i).off + 1,none⟩ = some v1:=by
  subst had
  subst hi
  rw [add_lit]
  dsimp only
  rw [hb.cell,hb.cell]
  simp
theorem cells_next (cs:List CV) (xB:Option Addr) (xm xd:Nat) (xsp:List (Nat × Nat)) (xq fa fn j m:Nat) (hc:cs.length = j) (hj:j < m):(cvc (cs ++ List.replicate (m - j) CV.zero)).take (j * 5) ++ [.slice xB xm xd,.int .i64 (xq:Nat),.int .i64 (fa:Nat),.int .i64 (fn:Nat),.bool true] ++ (cvc (cs ++ List.replicate (m - j) CV.zero)).drop (j * 5 + 5) = cvc (cs ++ ⟨xB,xm,xd,xsp,xq,fa,fn,true⟩ :: List.replicate (m - (j + 1)) CV.zero):=by
  have h:=flat_set (f:=CV.cells) (sz:=5) (fun _ => rfl) (cs ++ List.replicate (m - j) CV.zero) j ⟨xB,xm,xd,xsp,xq,fa,fn,true⟩ (by simp; omega)
  show _ ++ CV.cells ⟨xB,xm,xd,xsp,xq,fa,fn,true⟩ ++ _ = _
  unfold cvc
  rw [← h]
  congr 1
  rw [List.set_append_right _ _ (by omega),hc,Nat.sub_self,show m - j = (m - (j + 1)) + 1 by omega,List.replicate_succ]
  rfl
theorem cells_fit (cs:List CV) (j m:Nat) (hc:cs.length = j) (hj:j < m):j * 5 + 5 ≤ (cvc (cs ++ List.replicate (m - j) CV.zero)).length:=by
  rw [cvc_len,List.length_append,List.length_replicate]
  omega
structure RL (E:List (Option Nat)) (w0 w:World) (N T R L n e:Nat) (xs:List FV) (j:Nat) (cs:List CV):Prop where
  tb:Blk w T TRow #[.slice (some ⟨R,0,none⟩) n n,.int .i64 (e:Nat),.bool false]
  rb:Blk w R TCl (cvc (cs ++ List.replicate (n - j) CV.zero)).toArray
  res:Blk w L TRow #[.slice none 0 0,.int .i64 0,.bool false]
  cl:cs.length = j
  cv:cs.map CV.view = ((xs.map FV.f).take j).map fview
  ok:∀ c ∈ cs,Kp (some R :: some L :: E) w (CellAt N c)
  fr:Fr [] w0 w
  tn:w0.heap.size ≤ T
  rn:w0.heap.size ≤ R
  ln:w0.heap.size ≤ L
  tr:T ≠ R
  tl:T ≠ L
  rl:R ≠ L
  old:Old E w0
  jn:j ≤ n
  nx:n = xs.length
  lo:∀ f ∈ (xs.map FV.f).take j,f.places.length ≤ 400
section
variable {E:List (Option Nat)} {w0 w w':World} {N T R L n e j:Nat} {xs:List FV} {cs:List CV}
theorem RL.fr0 (h:RL E w0 w N T R L n e xs j cs) (hf:Fr [] w w'):RL E w0 w' N T R L n e xs j cs :=
  ⟨h.tb.fr hf (by simp),h.rb.fr hf (by simp),h.res.fr hf (by simp),h.cl,h.cv,fun c hc => (h.ok c hc).fr0 hf,h.fr.trans hf,h.tn,h.rn,h.ln,h.tr,h.tl,h.rl,h.old,h.jn,h.nx,h.lo⟩
theorem RL.start {W0 W:World} {cs0:Array Value} (hf:Fr [] w0 W0) (hres:Blk W0 L TRow #[.slice none 0 0,.int .i64 0,.bool false]) (hl:w0.heap.size ≤ L) (hE:Old E w0) (hn:n = xs.length) (hZ:cs0 = (cvc (List.replicate n CV.zero)).toArray)
    (h:(W = ((W0.alloc (.cells cs0 TCl)).alloc (.cells #[.slice (some ⟨W0.heap.size,0,none⟩) n n,.int .i64 (e:Nat),.bool false] TRow)).drew ∧ R = W0.heap.size ∧ T = W0.heap.size + 1) ∨
      (W = ((W0.alloc (.cells #[.slice (some ⟨W0.heap.size + 1,0,none⟩) n n,.int .i64 (e:Nat),.bool false] TRow)).alloc (.cells cs0 TCl)).drew ∧ R = W0.heap.size + 1 ∧ T = W0.heap.size)) :
    RL E w0 W N T R L n e xs 0 []:=by
  have hs:=hf.size
  have hlt:=hres.lt
  subst hZ
  rcases h with ⟨rfl,rfl,rfl⟩ | ⟨rfl,rfl,rfl⟩
  · have b1:=Blk.new W0 TCl (cvc (List.replicate n CV.zero)).toArray
    have b2:=Blk.new (W0.alloc (.cells (cvc (List.replicate n CV.zero)).toArray TCl)) TRow #[.slice (some ⟨W0.heap.size,0,none⟩) n n,.int .i64 (e:Nat),.bool false]
    rw [show (W0.alloc (.cells (cvc (List.replicate n CV.zero)).toArray TCl)).heap.size = W0.heap.size + 1 by simp] at b2
    exact ⟨b2.drew,by rw [List.nil_append,Nat.sub_zero]; exact (b1.alloc _).drew,((hres.alloc _).alloc _).drew,rfl,rfl,fun c hc => by simp at hc,((hf.alloc _).alloc _).drew,by omega,by omega,hl,by omega,by omega,by omega,hE,Nat.zero_le _,hn,fun f hf => by simp at hf⟩
  · have b1:=Blk.new W0 TRow #[.slice (some ⟨W0.heap.size + 1,0,none⟩) n n,.int .i64 (e:Nat),.bool false]
    have b2:=Blk.new (W0.alloc (.cells #[.slice (some ⟨W0.heap.size + 1,0,none⟩) n n,.int .i64 (e:Nat),.bool false] TRow)) TCl (cvc (List.replicate n CV.zero)).toArray
    rw [show (W0.alloc (.cells #[.slice (some ⟨W0.heap.size + 1,0,none⟩) n n,.int .i64 (e:Nat),.bool false] TRow)).heap.size = W0.heap.size + 1 by simp] at b2
    exact ⟨(b1.alloc _).drew,by rw [List.nil_append,Nat.sub_zero]; exact b2.drew,((hres.alloc _).alloc _).drew,rfl,rfl,fun c hc => by simp at hc,((hf.alloc _).alloc _).drew,by omega,by omega,hl,by omega,by omega,by omega,hE,Nat.zero_le _,hn,fun f hf => by simp at hf⟩
theorem RL.step {w1 w5:World} {x:CV} {f:FV} (h:RL E w0 w N T R L n e xs j cs) (hj:j < n) (hx:xs[j]? = some f) (h1:Fr [] w w1)
    (x1:x.kept = true) (x2:x.a = f.f.a) (x3:x.n = f.f.n) (x4:plc x.sp = f.f.places) (x5:x.q = f.f.places.length) (x6:x.m = x.sp.length) (x7:ORow w1 TSp 2 x.B x.d x.sp.length (spc x.sp)) (x8:∀ y ∈ x.sp,1 ≤ y.2 ∧ y.1 + y.2 ≤ N) (x9:∀ k,bk x.B = some k → w0.heap.size ≤ k ∧ k ≠ R ∧ k ≠ L) (x10:f.f.a + f.f.n ≤ N)
    (h5:Fr [some R] w1 w5) (hR:Blk w5 R TCl (cvc (cs ++ x :: List.replicate (n - (j + 1)) CV.zero)).toArray) (hlo:f.f.places.length ≤ 400):RL E w0 w5 N T R L n e xs (j + 1) (cs ++ [x]):=by
  have nR:∀ b,b ≠ R → some b ∉ [some R]:=fun b hb e => by rw [List.mem_singleton] at e; injection e with e; exact hb e
  have ht:(xs.map FV.f).take (j + 1) = (xs.map FV.f).take j ++ [f.f]:=by
    have hjl:j < xs.length:=by rw [← h.nx]; exact hj
    rw [List.take_succ_eq_append_getElem (by simpa using hjl)]
    rw [List.getElem?_eq_getElem hjl] at hx
    injection hx with hx
    simp [hx]
  refine ⟨(h.tb.fr h1 (by simp)).fr h5 (nR _ h.tr),by rw [List.append_assoc]; exact hR,(h.res.fr h1 (by simp)).fr h5 (nR _ (Ne.symm h.rl)),by simp [h.cl],?_,?_,?_,h.tn,h.rn,h.ln,h.tr,h.tl,h.rl,h.old,hj,h.nx,?_⟩
  · rw [List.map_append,h.cv,ht,List.map_append]
    congr 1
    simp [CV.view,fview,x1,x2,x3,x4]
  · intro c hc
    have hf:Fr (some R :: some L :: E) w1 w5:=h5.weaken fun i _ e => by rw [List.mem_singleton] at e; rw [e]; exact List.mem_cons_self ..
    rcases List.mem_append.1 hc with hc | hc
    · exact ((h.ok c hc).fr0 h1).fr hf
    · rw [List.mem_singleton] at hc
      subst hc
      have hk:Kp (some R :: some L :: E) w1 (CellAt N c):=fun w'' hf => ⟨(Kp.sl (ORow.sl x7) (by
        cases hb:bk c.B with
        | none => exact .inl rfl
        | some k =>
          refine .inr fun e => ?_
          obtain ⟨q1,q2,q3⟩:=x9 k hb
          rcases List.mem_cons.1 e with e | e
          · injection e with e; exact q2 e
          · rcases List.mem_cons.1 e with e | e
            · injection e with e; exact q3 e
            · have:=h.old k e; omega)) w'' hf,x6,by rw [x5,x4],x8,by rw [x2,x3]; exact x10⟩
      exact hk.fr hf
  · exact (h.fr.trans h1).seq h5 fun x hx => by rw [List.mem_singleton] at hx; exact .inr (.inr ⟨R,h.rn,hx⟩)
  · intro g hg
    rw [ht] at hg
    rcases List.mem_append.1 hg with hg | hg
    · exact h.lo g hg
    · rw [List.mem_singleton] at hg; rw [hg]; exact hlo
theorem RL.fin (h:RL E w0 w N T R L n e xs n cs) (h40:n ≤ 40) (hf:Fr [some L] w w'):RowAns E w0 N (xs.map FV.f) e (.returned (.tuple #[.agg #[.slice (some ⟨R,0,none⟩) n n,.int .i64 (e:Nat),.bool false],.int .i64 0])) w':=by
  have htk:(xs.map FV.f).take n = xs.map FV.f:=List.take_of_length_le (by rw [List.length_map,h.nx]; exact Nat.le_refl _)
  have hv:=h.cv
  have hlo:=h.lo
  rw [htk] at hv hlo
  refine .inr ⟨?_,_,n,n,cs,rfl,h.cl.symm,Nat.le_refl _,?_,hv,h.fr.seq hf fun x hx => by rw [List.mem_singleton] at hx; exact .inr (.inr ⟨L,h.ln,hx⟩)⟩
  · unfold rowErrP
    rw [if_neg (by rw [List.length_map,← h.nx]; omega),if_neg]
    intro hc
    obtain ⟨f,hf,hd⟩:=List.any_eq_true.1 hc
    have:=hlo f hf
    simp at hd
    omega
  · have hf2:Fr (some R :: some L :: E) w w':=hf.weaken fun i _ e => by rw [List.mem_singleton] at e; rw [e]; exact List.mem_cons_of_mem _ (List.mem_cons_self ..)
    have hR:Blk w' R TCl (cvc cs).toArray:=by
      have:=h.rb
      rw [Nat.sub_self,List.replicate_zero,List.append_nil] at this
      exact this.fr hf fun e => by rw [List.mem_singleton] at e; injection e with e; exact h.rl e
    intro w'' hw
    have hR2:=hR.fr hw fun e => by have:=h.old R e; have:=h.rn; omega
    refine ⟨?_,fun c hc => ?_⟩
    · have:=blk_sl hR2 (cvc cs).length
      rwa [List.take_length] at this
    · exact ((h.ok c hc).fr hf2) w'' (hw.weaken fun i _ e => List.mem_cons_of_mem _ (List.mem_cons_of_mem _ e))
theorem RL.bad {f:FV} (h:RL E w0 w N T R L n e xs j cs) (h40:n ≤ 40) (hx:xs[j]? = some f) (hlo:400 < f.f.places.length) (hf:Fr [] w0 w'):RowAns E w0 N (xs.map FV.f) e (.returned (.tuple #[.agg #[.slice none 0 0,.int .i64 0,.bool false],.int .i64 7])) w':=by
  have he:rowErrP (xs.map FV.f) = 7:=by
    unfold rowErrP
    rw [if_neg (by rw [List.length_map,← h.nx]; omega),if_pos]
    rw [List.any_eq_true]
    exact ⟨f.f,List.mem_map.2 ⟨f,List.mem_of_getElem? hx,rfl⟩,by simpa using hlo⟩
  exact .inl ⟨by rw [he]; omega,by rw [he]; rfl,hf⟩
end
end Go.Proofs.YteohomdiklkbfaaGreat
