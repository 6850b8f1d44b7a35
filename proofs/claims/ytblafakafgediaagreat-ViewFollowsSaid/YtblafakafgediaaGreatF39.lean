import Derived.Test.YtblafakafgediaaGreatF38
import Derived.Deep.LoopGhost
namespace Go.Proofs.YtblafakafgediaaGreat
open Go.RowKit Go.Proofs.Dm

structure TXs (w0 W:World) (C:Option Addr) (c n:Nat) (ps:List Part):Prop where
  own:ORow W 128 1 C c n (partV ps)
  b:∀ p ∈ ps,ORow W 9 1 p.A p.c p.n p.cs
  fr:Fr [] w0 W
  nw:∀ j,bk C = some j → w0.heap.size ≤ j
section
variable {w0 w w':World} {C:Option Addr} {c n:Nat} {ps:List Part}
theorem TXs.fr0 (h:TXs w0 w C c n ps) (hf:Fr [] w w'):TXs w0 w' C c n ps :=
  ⟨ORow.fr h.own hf (.inr List.not_mem_nil),fun p hp => ORow.fr (h.b p hp) hf (.inr List.not_mem_nil),h.fr.trans hf,h.nw⟩
theorem TXs.app {wa w5:World} {C2:Option Addr} {c2:Nat} {p:Part} (h:TXs w0 w C c n ps) (hfa:Fr [] w wa) (hp:ORow wa 9 1 p.A p.c p.n p.cs)
    (hr:ORow w5 128 1 C2 c2 (n + 1) (partV ps ++ [p.val])) (hg:Fr [bk C] wa w5) (hb:bk C2 = bk C ∨ bk C2 = some wa.heap.size):TXs w0 w5 C2 c2 (n + 1) (ps ++ [p]):=by
  have hs:=h.fr.size
  have hsa:=hfa.size
  have key:∀ q:Part,ORow wa 9 1 q.A q.c q.n q.cs → ORow w5 9 1 q.A q.c q.n q.cs:=fun q hq => by
    refine ORow.fr hq hg ?_
    cases hB:bk q.A with
    | none => exact .inl rfl
    | some j =>
      refine .inr fun e => ?_
      rw [List.mem_singleton] at e
      rcases hq.2 with ⟨h0,_⟩ | ⟨g,cap,cur,he,_,hgg,_⟩
      · injection h0 with h0; rw [h0] at hB; cases hB
      · injection he with he
        rw [he] at hB
        injection hB with hB
        subst hB
        rcases ORow.neB (ORow.fr h.own hfa (.inr List.not_mem_nil)) (show Blk wa g 9 cur from hgg) (by decide) with z | z
        · rw [z] at e; cases e
        · exact z e.symm
  refine ⟨?_,fun q hq => ?_,(h.fr.trans hfa).seq hg fun x hx => ?_,fun j hj => ?_⟩
  · unfold partV at hr ⊢
    rw [List.map_append]
    exact hr
  · rcases List.mem_append.1 hq with hq | hq
    · exact key q (ORow.fr (h.b q hq) hfa (.inr List.not_mem_nil))
    · rw [List.mem_singleton] at hq; rw [hq]; exact key p hp
  · rw [List.mem_singleton] at hx
    subst hx
    cases hB:bk C with
    | none => exact .inr (.inl rfl)
    | some j => exact .inr (.inr ⟨j,h.nw j hB,rfl⟩)
  · rcases hb with e | e
    · exact h.nw j (e ▸ hj)
    · rw [e] at hj; injection hj with hj; omega
end
def TextsV (w:World) (ls:List (List (List UInt8))) (en:Ending) (w':World):Prop :=
  ∃ (C:Option Addr) (n c:Nat) (ps:List Part),en = .returned (.slice C n c) ∧ n = ps.length ∧ ps.map (·.cs) = ls.map strV ∧ (∀ p ∈ ps,p.n = p.cs.length) ∧ Sl w' C (partV ps) ∧ (∀ p ∈ ps,Sl w' p.A p.cs) ∧ Fr [] w w'
theorem strV_one (l:List (List UInt8)):∀ u ∈ strV l,u.oneCell' = true:=by
  intro u hu
  obtain ⟨x,_,rfl⟩:=List.mem_map.1 hu
  rfl
def OneTx (w:World) (ts:List (List UInt8)) (m:Nat) (en:Ending) (w':World):Prop :=
  ∃ (A:Option Addr) (c:Nat),en = .returned (.slice A m c) ∧ ORow w' 9 1 A c m (strV ts) ∧ Fr [] w w'
theorem concat_one (w:World) (B:Option Addr) (d n m:Nat) (l:List (Nat × List (List UInt8))) (ts:List (List UInt8)) (hl:l.map (·.2) = [ts]) (hn:n = l.length) (hB:Sl w B (tvs m l)) (hb:∀ x ∈ l,Blk w x.1 9 (strV x.2).toArray) (hm:ts.length = m) (h6:m ≤ 1000000) :
    Calls Tryz.prog 75 #[.slice B n d] w (OneTx w ts m):=by
  match l,hl,hn,hB,hb with
  | [],hl,_,_,_ => simp at hl
  | _ :: _ :: _,hl,_,_,_ => simp at hl
  | [(R,t)],hl,hn,hB,hb =>
    simp only [List.map_cons,List.map_nil,List.cons.injEq,and_true] at hl
    subst hl
    have hbk:=hb (R,t) (List.mem_singleton.2 rfl)
    have hsl:Sl w (some ⟨R,0,none⟩) (strV t):=by
      have:=blk_sl hbk (strV t).length
      rwa [List.take_length] at this
    have h:=concat_S B d [⟨some ⟨R,0,none⟩,m,m,strV t⟩] w hB (fun p hp => by
      rw [List.mem_singleton] at hp
      subst hp
      exact ⟨by rw [strV_len,hm,Nat.mul_one],hsl,strV_one t⟩) (by simp [partN]; exact h6) (by simp)
    subst hn
    refine h.mono ?_
    rintro en w' ⟨A,c,he,ho,hf,_⟩
    have e1:partN [⟨some ⟨R,0,none⟩,m,m,strV t⟩] = m:=by simp [partN]
    have e2:partC [⟨some ⟨R,0,none⟩,m,m,strV t⟩] = strV t:=by simp [partC]
    rw [e1] at he ho
    rw [e2] at ho
    exact ⟨A,c,he,ho,hf⟩
def TkC (w:World) (ts:List (List UInt8)) (m:Nat) (en:Ending) (w':World):Prop :=
  ∃ (B:Option Addr) (n c:Nat),en = .returned (.slice B n c) ∧ (∀ w3,Fr [] w' w3 → Calls Tryz.prog 75 #[.slice B n c] w3 (OneTx w3 ts m)) ∧ Fr [] w w'
theorem TakeAns.tkc {w w':World} {ts:List (List UInt8)} {m:Nat} {en:Ending} (h:TakeAns w [ts] m en w') (hm:ts.length = m) (h6:m ≤ 1000000):TkC w ts m en w':=by
  obtain ⟨C,n,c,l,he,hn,hl,hs,hb,hf⟩:=h
  exact ⟨C,n,c,he,fun w3 hf3 => concat_one w3 C c n m l ts hl hn (hs.fr hf3 (.inr List.not_mem_nil)) (fun x hx => (hb x hx).fr hf3 (by simp)) hm h6,hf⟩
set_option maxRecDepth 100000 in
set_option maxHeartbeats 3200000 in
theorem vtexts_gen (w:World) (p:Option Addr) (tl:Bool) (eo top mm:Int) (g left h wid m k:Nat) (s:List UInt8) (rs:List RW) (xr:List (Nat × RV)) (hmm:(40 - (left:Int) < (wid:Int) ∧ mm = 40 - (left:Int)) ∨ (¬ 40 - (left:Int) < (wid:Int) ∧ mm = (wid:Nat)))
    (HRW:Hid (∀ w',Fr [] w w' → Calls Tryz.prog 18 #[.agg #[.int .i64 top,.int .i64 (left:Nat),.int .i64 (h:Nat),.int .i64 (wid:Nat)],.agg #[.pointer p,.bool tl,.int .i64 eo]] w' (IntsAns w' xr)))
    (HXR:Hid (∀ x ∈ xr,x.1 < k)) (HXL:Hid (xr.length ≤ 1000)) (hl0:left ≤ 2 ^ 50)
    (HTK:Hid (∀ w' (q:Nat),Fr [] w w' → q < k → Calls Tryz.prog 76 #[.agg #[.pointer p,.bool tl,.int .i64 eo],.pointer (some ⟨g,0,none⟩),.agg #[.int .i64 (q:Nat),.int .i64 (left:Nat),.int .i64 1,.int .i64 mm]] w' (TkC w' (textsP s (cellsOf rs q) left m) m))) :
    Calls Tryz.prog 24 #[.agg #[.int .i64 top,.int .i64 (left:Nat),.int .i64 (h:Nat),.int .i64 (wid:Nat)],.agg #[.pointer p,.bool tl,.int .i64 eo],.pointer (some ⟨g,0,none⟩)] w
      (TextsV w (xr.map fun x => textsP s (cellsOf rs x.1) left m)):=by
  have HW:Hid (∀ W0,W0 = (w.alloc (.cells #[.int .i64 top,.int .i64 (left:Nat),.int .i64 (h:Nat),.int .i64 (wid:Nat)] 40)).alloc (.cells #[.pointer p,.bool tl,.int .i64 eo] TGr) →
      Fr [] w W0 ∧ Blk W0 w.heap.size 40 #[.int .i64 top,.int .i64 (left:Nat),.int .i64 (h:Nat),.int .i64 (wid:Nat)] ∧ Blk W0 (w.heap.size + 1) TGr #[.pointer p,.bool tl,.int .i64 eo]):=by
    show ∀ _,_
    rintro W0 rfl
    have b1:=Blk.new (w.alloc (.cells #[.int .i64 top,.int .i64 (left:Nat),.int .i64 (h:Nat),.int .i64 (wid:Nat)] 40)) TGr #[.pointer p,.bool tl,.int .i64 eo]
    rw [World.size_alloc] at b1
    exact ⟨((Fr.refl [] w).alloc _).alloc _,(Blk.new w _ _).alloc _,b1⟩
  have z1:IntKind.i64.wrap (40 - (left:Int)) = 40 - (left:Int):=IntWalk.i64_in _ (by omega)
  clear hl0
  go_enter Tryz.func24,Tryz.ntmps24
  go_wp2_with fail
  obtain ⟨W0,hW0⟩:∃ W0,W0 = (w.alloc (.cells #[.int .i64 top,.int .i64 (left:Nat),.int .i64 (h:Nat),.int .i64 (wid:Nat)] 40)).alloc (.cells #[.pointer p,.bool tl,.int .i64 eo] TGr):=⟨_,rfl⟩
  obtain ⟨k1,k2,k3⟩:=HW.out W0 hW0
  rw [← hW0]
  obtain ⟨GB,hGB⟩:∃ GB,GB = w.heap.size + 1:=⟨_,rfl⟩
  obtain ⟨VB,hVB⟩:∃ VB,VB = w.heap.size:=⟨_,rfl⟩
  rw [← hGB] at k3 ⊢
  rw [← hVB] at k2 ⊢
  have HB0:Hid (Fr [] w W0 ∧ Blk W0 VB 40 #[.int .i64 top,.int .i64 (left:Nat),.int .i64 (h:Nat),.int .i64 (wid:Nat)] ∧ Blk W0 GB TGr #[.pointer p,.bool tl,.int .i64 eo]):=⟨k1,k2,k3⟩
  have HCEL:Hid (∀ w',Fr [] W0 w' → w'.cell? ⟨GB,0,none⟩ = some (.pointer p) ∧ w'.cell? ⟨GB,1,none⟩ = some (.bool tl) ∧ w'.cell? ⟨GB,2,none⟩ = some (.int .i64 eo) ∧ w'.cell? ⟨VB,1,none⟩ = some (.int .i64 (left:Nat)) ∧ w'.cell? ⟨VB,3,none⟩ = some (.int .i64 (wid:Nat))):=by
    show ∀ _,_
    intro w' hf
    have h1:=HB0.out.2.2.fr hf (by simp)
    have h2:=HB0.out.2.1.fr hf (by simp)
    exact ⟨h1.cell 0,h1.cell 1,h1.cell 2,h2.cell 1,h2.cell 3⟩
  clear hW0 k1 k2 k3 hGB hVB HW
  refine (HRW.out W0 HB0.out.1).mono ?_
  rintro en w2 ⟨C2,n2,c2,rfl,hn2,hs2,hf2⟩
  have HF2:=Lib.hid hf2
  have HS2:=Lib.hid hs2
  have HN2:Hid (n2 = xr.length):=hn2
  have hn26:(n2:Int) ≤ 1000:=by have:=HXL.out; omega
  clear hn2 hs2 hf2
  go_wp2_with fail
  go_loopw [15,7] (fun iv ov wr => ∃ (j:Nat) (C:Option Addr) (c n:Nat) (ps:List Part),iv = .int .i64 j ∧ ov = .slice C n c ∧ j ≤ n2 ∧ n = j ∧ Hid (TXs w2 wr C c n ps ∧ ps.map (·.cs) = (xr.take j).map (fun x => strV (textsP s (cellsOf rs x.1) left m)) ∧ ∀ p ∈ ps,p.n = p.cs.length)) (fun iv _ _ => n2 - (intOf iv).toNat)
  case atStart => exact ⟨0,none,0,0,[],rfl,rfl,Nat.zero_le _,rfl,⟨ORow.nil_ _ _ _,fun p hp => (by simp at hp),Fr.refl _ _,fun j hj => (by cases hj)⟩,rfl,fun p hp => (by simp at hp)⟩
  case round =>
    obtain ⟨j,C,c,n,ps,rfl,rfl,hj,rfl,HX⟩:=hrel
    by_cases hlt:n < n2
    · have hjl:n < xr.length:=by rw [← HN2.out]; exact hlt
      obtain ⟨ad,rfl,_,hcell⟩:=(HS2.out.fr HX.out.1.fr (.inr List.not_mem_nil)).at_ (k:=n) (u:=.int .i64 ((xr[n].1:Nat):Int)) (by unfold numI; rw [List.getElem?_map,List.getElem?_eq_getElem hjl]; rfl)
      obtain ⟨q,hq⟩:∃ q,q = xr[n].1:=⟨_,rfl⟩
      rw [← hq] at hcell
      have HQ:Hid (q < k):=by show _ < _; rw [hq]; exact HXR.out _ (List.getElem_mem hjl)
      have HTA:Hid ((xr.take (n + 1)).map (fun x => strV (textsP s (cellsOf rs x.1) left m)) = (xr.take n).map (fun x => strV (textsP s (cellsOf rs x.1) left m)) ++ [strV (textsP s (cellsOf rs q) left m)]):=by
        show _ = _
        rw [List.take_succ_eq_append_getElem hjl,List.map_append,hq]
        rfl
      have hj0:(0:Int) ≤ (n:Int):=by omega
      have hj1:(n:Int) < (n2:Int):=by omega
      have HFR:Hid (Fr [] W0 wr):=HF2.out.trans HX.out.1.fr
      obtain ⟨_,_,_,u1,u3⟩:=HCEL.out wr HFR.out
      clear hq hjl
      rcases hmm with ⟨z2,hmm⟩ | ⟨z2,hmm⟩
      all_goals subst hmm
      all_goals first
        | (obtain ⟨g0,g1,g2,v1,v3⟩:=HCEL.out _ (HFR.out.alloc (.cells #[.int .i64 (q:Nat),.int .i64 (left:Nat),.int .i64 1,.int .i64 (40 - (left:Int))] 137))
           go_wp2_with fail
           obtain ⟨wa,hwa⟩:∃ wa,wa = wr.alloc (.cells #[.int .i64 (q:Nat),.int .i64 (left:Nat),.int .i64 1,.int .i64 (40 - (left:Int))] 137):=⟨_,rfl⟩
           have HFA:Hid (Fr [] wr wa):=by show Fr _ _ _; rw [hwa]; exact (Fr.refl [] wr).alloc _
           rw [← hwa]
           clear hwa g0 g1 g2 v1 v3 u1 u3
           refine (HTK.out wa q ((HB0.out.1.trans HFR.out).trans HFA.out) HQ.out).mono ?_)
        | (obtain ⟨g0,g1,g2,v1,v3⟩:=HCEL.out _ (HFR.out.alloc (.cells #[.int .i64 (q:Nat),.int .i64 (left:Nat),.int .i64 1,.int .i64 (wid:Nat)] 137))
           go_wp2_with fail
           obtain ⟨wa,hwa⟩:∃ wa,wa = wr.alloc (.cells #[.int .i64 (q:Nat),.int .i64 (left:Nat),.int .i64 1,.int .i64 (wid:Nat)] 137):=⟨_,rfl⟩
           have HFA:Hid (Fr [] wr wa):=by show Fr _ _ _; rw [hwa]; exact (Fr.refl [] wr).alloc _
           rw [← hwa]
           clear hwa g0 g1 g2 v1 v3 u1 u3
           refine (HTK.out wa q ((HB0.out.1.trans HFR.out).trans HFA.out) HQ.out).mono ?_)
      all_goals
        rintro en w4 ⟨B4,n4,c4,rfl,hco,hf4⟩
        have HCO:=Lib.hid (hco w4 (Fr.refl _ _))
        have HF4:Hid (Fr [] wr w4):=HFA.out.trans hf4
        clear hco hf4
        go_wp2_with fail
        refine HCO.out.mono ?_
        rintro en w5 ⟨A5,c5,rfl,ho5,hf5⟩
        have HF5:Hid (Fr [] wr w5):=HF4.out.trans hf5
        have HO5:=Lib.hid ho5
        have HTX5:=Lib.hid (HX.out.1.fr0 HF5.out)
        clear ho5 hf5 HCO
        go_wp2_with (at_builtin; go_must (
          refine wpList_app _ rfl _ _ 56 128 rfl (Value.slice none 0 0) 1 24 Tryz.underlying56 infoTS rfl (by decide) C c n (partV ps) rfl (ORow.fr HTX5.out.own ((Fr.refl [] w5).alloc _) (.inr List.not_mem_nil)) _ 1 1 [.slice A5 m c5] rfl rfl (sl_new w5 _ _) (by simp [Value.oneCell']) (by simp only [maxLen]; omega) (by omega) ?_
          intro C6 c6 w6 hr6 hg6 hb6
          have HN6:Hid (TXs w2 w6 C6 c6 (n + 1) (ps ++ [⟨A5,m,c5,strV (textsP s (cellsOf rs q) left m)⟩])):=HTX5.out.app ((Fr.refl [] w5).alloc _) (ORow.fr HO5.out ((Fr.refl [] w5).alloc _) (.inr List.not_mem_nil)) hr6 hg6 hb6
          clear hr6 hg6 hb6))
        go_roundw
        case rel =>
          refine ⟨n + 1,C6,c6,n + 1,_,by go_num,by simp,by omega,rfl,HN6.out,?_,?_⟩
          · rw [HTA.out,List.map_append,HX.out.2.1]
            rfl
          · intro p hp
            rcases List.mem_append.1 hp with h | h
            · exact HX.out.2.2 p h
            · rw [List.mem_singleton] at h
              rw [h]
              show m = (strV _).length
              rw [strV_len,textsP_len]
        case measure => simp [intOf]; omega
    · obtain rfl:n = n2:=by omega
      have hps:ps.map (·.cs) = (xr.map fun x => textsP s (cellsOf rs x.1) left m).map strV:=by
        rw [HX.out.2.1,HN2.out,List.take_length,List.map_map]
        rfl
      have HEND:Hid (TextsV w (xr.map fun x => textsP s (cellsOf rs x.1) left m) (.returned (.slice C n c)) wr):=by
        have hl:=HX.out.1.own.1
        unfold partV at hl
        rw [List.length_map,Nat.mul_one] at hl
        exact ⟨C,n,c,ps,rfl,hl.symm,hps,HX.out.2.2,ORow.sl HX.out.1.own,fun p hp => ORow.sl (HX.out.1.b p hp),(HB0.out.1.trans HF2.out).trans HX.out.1.fr⟩
      clear hps
      go_wp2_with fail
      go_ret
      exact HEND.out
set_option maxRecDepth 100000 in
set_option maxHeartbeats 1600000 in
theorem vtexts_any (w:World) (p:Option Addr) (tl:Bool) (eo top:Int) (g left h m a k:Nat) (s:List UInt8) (rs:List RW) (ha:ArAt g s w) (ht:TreeAt TN [] w p (rs.map Prod.fst)) (hr:RowsAt [] w s.length rs) (hk:k = rs.length) (hk4:k ≤ 400) (hm:1 ≤ m) (hcm:left + m ≤ 40) (hA:BegAt k top a) (hh:h ≤ 1000000)
    (hp:∀ r ∈ rs,∀ c ∈ r.2,(plc c.sp).length ≤ 1000000) (hc:∀ r ∈ rs,r.2.length ≤ 1000000) (hl:s.length ≤ 1000000) :
    Calls Tryz.prog 24 #[.agg #[.int .i64 top,.int .i64 (left:Nat),.int .i64 (h:Nat),.int .i64 (m:Nat)],.agg #[.pointer p,.bool tl,.int .i64 eo],.pointer (some ⟨g,0,none⟩)] w
      (TextsV w ((rowsP (rs.map Prod.fst) a h).map fun x => textsP s (cellsOf rs x.1) left m)):=by
  have hxn:(rs.map Prod.fst).length = k:=by rw [List.length_map,hk]
  have HRW:Hid (∀ w',Fr [] w w' → Calls Tryz.prog 18 #[.agg #[.int .i64 top,.int .i64 (left:Nat),.int .i64 (h:Nat),.int .i64 (m:Nat)],.agg #[.pointer p,.bool tl,.int .i64 eo]] w' (IntsAns w' (rowsP (rs.map Prod.fst) a h))):=by
    show ∀ _,_
    intro w' hf
    exact rows_any w' p tl eo (rs.map Prod.fst) k a h top left m (ht.fr0 hf) hxn.symm (by omega) hA hh
  obtain ⟨xr,hxr⟩:∃ xr,xr = rowsP (rs.map Prod.fst) a h:=⟨_,rfl⟩
  have HXR:Hid (∀ x ∈ xr,x.1 < k):=by
    show ∀ _,_
    intro x hx
    rw [hxr] at hx
    unfold rowsP shownR at hx
    have h1:=(List.mem_filter.1 (List.mem_of_mem_take hx)).1
    unfold allR at h1
    obtain ⟨q,hq,rfl⟩:=List.mem_map.1 h1
    rw [List.mem_range'_1,hxn] at hq
    have:=hA.le
    show q < k
    omega
  have HXL:Hid (xr.length ≤ 1000):=by
    show _ ≤ _
    rw [hxr]
    unfold rowsP shownR
    have h1:((allR (rs.map Prod.fst) a (rs.map Prod.fst).length).filter fun x => !x.2.h).length ≤ (allR (rs.map Prod.fst) a (rs.map Prod.fst).length).length:=List.length_filter_le ..
    rw [allR_len] at h1
    rw [List.length_take]
    omega
  rw [← hxr] at HRW ⊢
  have HTK:Hid (∀ w' (q:Nat),Fr [] w w' → q < k → Calls Tryz.prog 76 #[.agg #[.pointer p,.bool tl,.int .i64 eo],.pointer (some ⟨g,0,none⟩),.agg #[.int .i64 (q:Nat),.int .i64 (left:Nat),.int .i64 1,.int .i64 (m:Nat)]] w' (TkC w' (textsP s (cellsOf rs q) left m) m)):=by
    show ∀ _,_
    intro w' q hf hq
    have:=block_take w' p tl eo g q left 1 m q (q + 1) k s rs (ha.fr0 hf) (ht.fr0 hf) (hr.grow hf fun k hk => .inl hk) hk (by omega) (by omega) (by omega) hm hcm (.inr (.inl ⟨rfl,by omega⟩)) (.inr (.inl ⟨by omega,by omega,by omega⟩)) hp hc hl
    have e:allR (rs.map Prod.fst) q (q + 1) = [(q,(rs.map Prod.fst).getD q RV.none)]:=by
      unfold allR
      rw [show q + 1 - q = 1 by omega]
      rfl
    rw [e] at this
    exact this.mono fun _ _ h => h.tkc (textsP_len _ _ _ _) (by omega)
  exact vtexts_gen w p tl eo top (m:Nat) g left h m m k s rs xr (.inr ⟨by omega,rfl⟩) HRW HXR HXL (by omega) HTK
end Go.Proofs.YtblafakafgediaaGreat
namespace Go.Proofs.YtblafakafgediaaGreat
open Go.RowKit Go.Proofs.Dm

theorem strV_at {w:World} {A:Option Addr} {l:List (List UInt8)} (h:Sl w A (strV l)) {j:Nat} (hj:j < l.length):∃ ad,A = some ad ∧ w.cell? (ad.add j) = some (.string ⟨l[j].toArray⟩):=by
  have hg:(strV l)[j]? = some (.string ⟨l[j].toArray⟩):=by
    unfold strV
    rw [List.getElem?_map,List.getElem?_eq_getElem hj]
    rfl
  obtain ⟨ad,hA,_,hc⟩:=h.at_ hg
  exact ⟨ad,hA,hc⟩
theorem partV_at {w:World} {A:Option Addr} {ps:List Part} (h:Sl w A (partV ps)) {j:Nat} (hj:j < ps.length):∃ ad,A = some ad ∧ w.cell? (ad.add j) = some (.slice ps[j].A ps[j].n ps[j].c):=by
  have hg:(partV ps)[j]? = some (.slice ps[j].A ps[j].n ps[j].c):=by
    unfold partV
    rw [List.getElem?_map,List.getElem?_eq_getElem hj]
    rfl
  obtain ⟨ad,hA,_,hc⟩:=h.at_ hg
  exact ⟨ad,hA,hc⟩
def TxAt (w:World) (A:Option Addr) (ps:List Part) (ls:List (List (List UInt8))):Prop :=
  Sl w A (partV ps) ∧ ps.map (·.cs) = ls.map strV ∧ ∀ p ∈ ps,p.n = p.cs.length ∧ Sl w p.A p.cs
theorem TxAt.fr0 {w w':World} {A:Option Addr} {ps:List Part} {ls:List (List (List UInt8))} (h:TxAt w A ps ls) (hf:Fr [] w w'):TxAt w' A ps ls :=
  ⟨h.1.fr hf (.inr List.not_mem_nil),h.2.1,fun p hp => ⟨(h.2.2 p hp).1,(h.2.2 p hp).2.fr hf (.inr List.not_mem_nil)⟩⟩
theorem TxAt.at_ {w:World} {A:Option Addr} {ps:List Part} {ls:List (List (List UInt8))} (h:TxAt w A ps ls) {j:Nat} (hj:j < ls.length) :
    ∃ (ad:Addr) (B:Option Addr) (c:Nat),A = some ad ∧ w.cell? (ad.add j) = some (.slice B ls[j].length c) ∧ Sl w B (strV ls[j]):=by
  have hl:ps.length = ls.length:=by have:=congrArg List.length h.2.1; rwa [List.length_map,List.length_map] at this
  obtain ⟨ad,hA,hc⟩:=partV_at h.1 (j:=j) (by omega)
  have hcs:ps[j].cs = strV ls[j]:=by
    have h1:(ps.map (·.cs))[j]? = (ls.map strV)[j]?:=by rw [h.2.1]
    rw [List.getElem?_map,List.getElem?_map,List.getElem?_eq_getElem (by omega),List.getElem?_eq_getElem hj] at h1
    injection h1
  obtain ⟨q1,q2⟩:=h.2.2 ps[j] (List.getElem_mem (by omega))
  rw [hcs] at q1 q2
  rw [strV_len] at q1
  exact ⟨ad,ps[j].A,ps[j].c,hA,by rw [hc,q1],q2⟩
set_option maxRecDepth 100000 in
set_option maxHeartbeats 1600000 in
theorem sameT_yes (w:World) (A B:Option Addr) (n c d:Nat) (ps qs:List Part) (ls:List (List (List UInt8))) (hA:TxAt w A ps ls) (hB:TxAt w B qs ls) (hn:n = ls.length) (h6:n ≤ 1000000) (hl6:∀ l ∈ ls,l.length ≤ 1000000) :
    Calls Tryz.prog 23 #[.slice A n c,.slice B n d] w fun e w' => e = .returned (.bool true) ∧ Fr [] w w':=by
  have HA:=Lib.hid hA
  have HB:=Lib.hid hB
  have HN:=Lib.hid hn
  have HL:=Lib.hid hl6
  have h61:(n:Int) ≤ 1000000:=by omega
  clear hA hB hn h6 hl6
  go_enter Tryz.func23,Tryz.ntmps23
  go_wp2_with fail
  go_loopg [14] n (fun gk iv wr => ∃ j:Nat,gk + j = n ∧ iv = .int .i64 j ∧ Hid (Fr [] w wr))
  case atStart => exact ⟨0,by omega,rfl,Fr.refl _ _⟩
  case round =>
    obtain ⟨j,hj,rfl,HF⟩:=hrel
    obtain ⟨wo,rfl⟩:∃ wo,wo = wr:=⟨_,rfl⟩
    by_cases hlt:j < n
    · have hjl:j < ls.length:=by rw [← HN.out]; exact hlt
      obtain ⟨ad,A1,c1,rfl,hca,hsa⟩:=(HA.out.fr0 HF.out).at_ hjl
      obtain ⟨bd,B1,d1,rfl,hcb,hsb⟩:=(HB.out.fr0 HF.out).at_ hjl
      obtain ⟨t,ht⟩:∃ t,t = ls[j]:=⟨_,rfl⟩
      rw [← ht] at hca hsa hcb hsb
      obtain ⟨m,hm⟩:∃ m,m = t.length:=⟨_,rfl⟩
      rw [← hm] at hca hcb
      have hm6:(m:Int) ≤ 1000000:=by have:=HL.out t (by rw [ht]; exact List.getElem_mem hjl); omega
      have HM:=Lib.hid hm
      have HSA:=Lib.hid hsa
      have HSB:=Lib.hid hsb
      have hj0:(0:Int) ≤ (j:Int):=by omega
      have hj1:(j:Int) < (n:Int):=by omega
      have hmm:((m:Int) != (m:Int)) = false:=by simp
      have HCA:Hid (∀ w',Fr [] wo w' → w'.cell? (ad.add j) = some (.slice A1 m c1) ∧ w'.cell? (bd.add j) = some (.slice B1 m d1)):=by
        show ∀ _,_
        intro w' hf
        exact ⟨(hf.cell (World.block_lt_of_cell? _ _ hca) List.not_mem_nil).trans hca,(hf.cell (World.block_lt_of_cell? _ _ hcb) List.not_mem_nil).trans hcb⟩
      clear ht hm hjl hsa hsb
      go_wp2_with fail
      go_quiet (fail)
      obtain ⟨w2,hw2⟩:∃ w2,w2 = wo.drewN nq:=⟨_,rfl⟩
      rw [← hw2]
      have HF2:Hid (Fr [] wo w2):=by show Fr _ _ _; rw [hw2]; exact (Fr.refl [] wo).drewN nq
      clear hw2 hca hcb
      obtain ⟨ca,cb⟩:=HCA.out w2 HF2.out
      go_wp2_with fail
      go_loopg [33] m (fun gk iv wr => ∃ i:Nat,gk + i = m ∧ iv = .int .i64 i ∧ Hid (Fr [] w2 wr))
      case atStart => exact ⟨0,by omega,rfl,Fr.refl _ _⟩
      case round =>
        obtain ⟨i,hi,rfl,HG⟩:=hrel
        clear ca cb
        obtain ⟨ca,cb⟩:=HCA.out wr (HF2.out.trans HG.out)
        by_cases hlt2:i < m
        · have hil:i < t.length:=by rw [← HM.out]; exact hlt2
          obtain ⟨ae,rfl,hxa⟩:=strV_at (HSA.out.fr (HF2.out.trans HG.out) (.inr List.not_mem_nil)) hil
          obtain ⟨be,rfl,hxb⟩:=strV_at (HSB.out.fr (HF2.out.trans HG.out) (.inr List.not_mem_nil)) hil
          obtain ⟨x,hx⟩:∃ x:ByteArray,x = ⟨t[i].toArray⟩:=⟨_,rfl⟩
          rw [← hx] at hxa hxb
          have hi0:(0:Int) ≤ (i:Int):=by omega
          have hi1:(i:Int) < (m:Int):=by omega
          clear hx hil
          go_wp2_with fail
          go_quiet (fail)
          have HG2:Hid (Fr [] w2 (wr.drewN nq)):=HG.out.trans ((Fr.refl [] wr).drewN nq)
          go_wp2_with fail
          go_roundg (m - (i + 1))
          case rel => exact ⟨i + 1,by omega,by go_num,HG2.out⟩
          case measure => omega
        · obtain rfl:i = m:=by omega
          have HF3:Hid (Fr [] w wr):=(HF.out.trans HF2.out).trans HG.out
          go_wp2_with fail
          go_roundg (n - (j + 1))
          case rel => exact ⟨j + 1,by omega,by go_num,HF3.out⟩
          case measure => omega
    · obtain rfl:j = n:=by omega
      go_wp2_with fail
      go_ret
      exact ⟨rfl,HF.out⟩
end Go.Proofs.YtblafakafgediaaGreat
namespace Go.Proofs.YtblafakafgediaaGreat
open Go.RowKit Go.Proofs.Dm

def ClampI (v:Int) (most r:Int):Prop:=(v < 1 ∧ r = 1) ∨ (1 ≤ v ∧ v ≤ most ∧ v = r) ∨ (most < v ∧ r = most)
set_option maxHeartbeats 1600000 in
theorem viewnew_any (w:World) (h x hv xv:Int) (hh:ClampI h 400 hv) (hx:ClampI x 40 xv) :
    Calls Tryz.prog 66 #[.int .i64 h,.int .i64 x] w fun e w' => e = .returned (.agg #[.int .i64 0,.int .i64 0,.int .i64 hv,.int .i64 xv]) ∧ Fr [] w w':=by
  have HF:Hid (∀ (u0 u1 u2 u3:Value) (o:Obj),Fr [] w (((((w.alloc o).setCell ⟨w.heap.size,0,none⟩ u0).setCell ⟨w.heap.size,1,none⟩ u1).setCell ⟨w.heap.size,2,none⟩ u2).setCell ⟨w.heap.size,3,none⟩ u3)):=by
    show ∀ _,_
    intro u0 u1 u2 u3 o
    have hy:w.heap.size < w.heap.size → some w.heap.size ∈ ([]:List (Option Nat)):=fun h => absurd h (by omega)
    exact (((((Fr.refl [] w).alloc o).setB hy _ _).setB hy _ _).setB hy _ _).setB hy _ _
  rcases hh with ⟨h1,rfl⟩ | ⟨h1,h2,rfl⟩ | ⟨h1,rfl⟩
  · rcases hx with ⟨x1,rfl⟩ | ⟨x1,x2,rfl⟩ | ⟨x1,rfl⟩
    · have p1:h < 1:=by omega
      have q1:x < 1:=by omega
      go_enter Tryz.func66,Tryz.ntmps66
      go_wp2_with fail
      refine bodyPost_ret (v:=.agg #[.int .i64 0,.int .i64 0,.int .i64 1,.int .i64 1]) (by simp [results,Tryz.results66,go_sem, *]) rfl ?_
      exact ⟨rfl,by first | exact (Fr.refl [] w).alloc _ | exact HF.out _ _ _ _ _⟩
    · have p1:h < 1:=by omega
      have q1:¬ x < 1:=by omega
      have q2:¬ (40:Int) < x:=by omega
      go_enter Tryz.func66,Tryz.ntmps66
      go_wp2_with fail
      refine bodyPost_ret (v:=.agg #[.int .i64 0,.int .i64 0,.int .i64 1,.int .i64 x]) (by simp [results,Tryz.results66,go_sem, *]) rfl ?_
      exact ⟨rfl,by first | exact (Fr.refl [] w).alloc _ | exact HF.out _ _ _ _ _⟩
    · have p1:h < 1:=by omega
      have q1:¬ x < 1:=by omega
      have q2:(40:Int) < x:=by omega
      go_enter Tryz.func66,Tryz.ntmps66
      go_wp2_with fail
      refine bodyPost_ret (v:=.agg #[.int .i64 0,.int .i64 0,.int .i64 1,.int .i64 40]) (by simp [results,Tryz.results66,go_sem, *]) rfl ?_
      exact ⟨rfl,by first | exact (Fr.refl [] w).alloc _ | exact HF.out _ _ _ _ _⟩
  · rcases hx with ⟨x1,rfl⟩ | ⟨x1,x2,rfl⟩ | ⟨x1,rfl⟩
    · have p1:¬ h < 1:=by omega
      have p2:¬ (400:Int) < h:=by omega
      have q1:x < 1:=by omega
      go_enter Tryz.func66,Tryz.ntmps66
      go_wp2_with fail
      refine bodyPost_ret (v:=.agg #[.int .i64 0,.int .i64 0,.int .i64 h,.int .i64 1]) (by simp [results,Tryz.results66,go_sem, *]) rfl ?_
      exact ⟨rfl,by first | exact (Fr.refl [] w).alloc _ | exact HF.out _ _ _ _ _⟩
    · have p1:¬ h < 1:=by omega
      have p2:¬ (400:Int) < h:=by omega
      have q1:¬ x < 1:=by omega
      have q2:¬ (40:Int) < x:=by omega
      go_enter Tryz.func66,Tryz.ntmps66
      go_wp2_with fail
      refine bodyPost_ret (v:=.agg #[.int .i64 0,.int .i64 0,.int .i64 h,.int .i64 x]) (by simp [results,Tryz.results66,go_sem, *]) rfl ?_
      exact ⟨rfl,by first | exact (Fr.refl [] w).alloc _ | exact HF.out _ _ _ _ _⟩
    · have p1:¬ h < 1:=by omega
      have p2:¬ (400:Int) < h:=by omega
      have q1:¬ x < 1:=by omega
      have q2:(40:Int) < x:=by omega
      go_enter Tryz.func66,Tryz.ntmps66
      go_wp2_with fail
      refine bodyPost_ret (v:=.agg #[.int .i64 0,.int .i64 0,.int .i64 h,.int .i64 40]) (by simp [results,Tryz.results66,go_sem, *]) rfl ?_
      exact ⟨rfl,by first | exact (Fr.refl [] w).alloc _ | exact HF.out _ _ _ _ _⟩
  · rcases hx with ⟨x1,rfl⟩ | ⟨x1,x2,rfl⟩ | ⟨x1,rfl⟩
    · have p1:¬ h < 1:=by omega
      have p2:(400:Int) < h:=by omega
      have q1:x < 1:=by omega
      go_enter Tryz.func66,Tryz.ntmps66
      go_wp2_with fail
      refine bodyPost_ret (v:=.agg #[.int .i64 0,.int .i64 0,.int .i64 400,.int .i64 1]) (by simp [results,Tryz.results66,go_sem, *]) rfl ?_
      exact ⟨rfl,by first | exact (Fr.refl [] w).alloc _ | exact HF.out _ _ _ _ _⟩
    · have p1:¬ h < 1:=by omega
      have p2:(400:Int) < h:=by omega
      have q1:¬ x < 1:=by omega
      have q2:¬ (40:Int) < x:=by omega
      go_enter Tryz.func66,Tryz.ntmps66
      go_wp2_with fail
      refine bodyPost_ret (v:=.agg #[.int .i64 0,.int .i64 0,.int .i64 400,.int .i64 x]) (by simp [results,Tryz.results66,go_sem, *]) rfl ?_
      exact ⟨rfl,by first | exact (Fr.refl [] w).alloc _ | exact HF.out _ _ _ _ _⟩
    · have p1:¬ h < 1:=by omega
      have p2:(400:Int) < h:=by omega
      have q1:¬ x < 1:=by omega
      have q2:(40:Int) < x:=by omega
      go_enter Tryz.func66,Tryz.ntmps66
      go_wp2_with fail
      refine bodyPost_ret (v:=.agg #[.int .i64 0,.int .i64 0,.int .i64 400,.int .i64 40]) (by simp [results,Tryz.results66,go_sem, *]) rfl ?_
      exact ⟨rfl,by first | exact (Fr.refl [] w).alloc _ | exact HF.out _ _ _ _ _⟩
end Go.Proofs.YtblafakafgediaaGreat
