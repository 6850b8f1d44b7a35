import Derived.Test.YteohomdiklkbfaaGreatA35
namespace Go.Proofs.YteohomdiklkbfaaGreat
open Go.RowKit Go.Shelf Go.Proofs.Dm
attribute [local go_sem] Oper.semAt_some

def prevP (xs:List RV) (b:Nat):Int:=(((downR xs b 0).find? fun x => !x.2.h).map fun x => (x.1:Int)).getD (-1)
theorem prevP_no (xs:List RV) (b:Nat) (h:∀ x ∈ downR xs b 0,x.2.h = true):prevP xs b = -1:=by
  unfold prevP
  rw [List.find?_eq_none.2 fun x hx => by rw [h x hx]; simp]
  rfl
theorem prevP_yes (xs:List RV) (b:Nat) (pre:List (Nat × RV)) (x:Nat × RV) (hp:pre ++ [x] <+: downR xs b 0) (h:∀ y ∈ pre,y.2.h = true) (hx:x.2.h = false):prevP xs b = x.1:=by
  obtain ⟨t,ht⟩:=hp
  unfold prevP
  rw [← ht,List.append_assoc,List.find?_append,List.find?_eq_none.2 fun y hy => by rw [h y hy]; simp]
  simp [hx]
set_option maxRecDepth 100000 in
set_option maxHeartbeats 1600000 in
theorem mabove_any (w:World) (p:Option Addr) (tl:Bool) (eo:Int) (xs:List RV) (n b:Nat) (r r1:Int) (ht:TreeAt TN [] w p xs) (hn:n = xs.length) (hn7:n ≤ 700) (hr1:r1 = r + 1) (hB:EndAt n 0 r1 b) (hw1:IntKind.i64.wrap (r + 1) = r + 1) :
    Calls Tryz.prog 35 #[.agg #[.pointer p,.bool tl,.int .i64 eo],.int .i64 r] w fun en w' => en = .returned (.int .i64 (prevP xs b)) ∧ Fr [] w w':=by
  rw [← hr1] at hw1
  have hw2:IntKind.i64.wrap (r + 1) = r1:=by rw [← hr1]; exact hw1
  have HRG:Hid (∀ w',Fr [] w w' → Calls Tryz.prog 64 #[.agg #[.pointer p],.int .i64 0,.int .i64 r1] w' (FuncNewB w' p 0 b)):=by
    show ∀ _,_
    intro w' hf
    exact back_gen [] p xs w' 0 r1 0 b (ht.fr0 hf) (by omega) (by unfold BegAt; omega) (by rw [← hn]; exact hB)
  have hbn:b ≤ n:=(hB.le (Nat.zero_le _)).2
  have HW:Hid (∀ W0,W0 = (w.alloc (.cells #[.pointer p,.bool tl,.int .i64 eo] TGr)).alloc (.cells #[.int .i64 0] 3) →
      Fr [] w W0 ∧ Blk W0 w.heap.size TGr #[.pointer p,.bool tl,.int .i64 eo] ∧ Blk W0 (w.heap.size + 1) 3 #[.int .i64 0]):=by
    show ∀ _,_
    rintro W0 rfl
    have b1:=Blk.new (w.alloc (.cells #[.pointer p,.bool tl,.int .i64 eo] TGr)) 3 #[.int .i64 0]
    simp only [World.size_alloc] at b1
    exact ⟨((Fr.refl [] w).alloc _).alloc _,(Blk.new w _ _).alloc _,b1⟩
  have HIN:Hid (TreeAt TN [] w p xs):=ht
  have HN:Hid (n = xs.length ∧ n ≤ 700 ∧ b ≤ n):=⟨hn,hn7,hbn⟩
  clear ht hn hn7 hB hbn hr1 hw1
  refine callsIn_wide.1 (callsIn_of_wp_marks (n:=3) Tryz.func35 rfl trivial (wpIn_wide.2 ?_))
  simp only [Tryz.ntmps35,List.size_toArray,List.length_cons,List.length_nil,Nat.reduceAdd,Nat.reduceSub,Array.replicate_succ,Array.replicate_zero,List.push_toArray,List.append_toArray,List.nil_append,List.cons_append]
  have g0:((w.alloc (.cells #[.pointer p,.bool tl,.int .i64 eo] TGr)).alloc (.cells #[.int .i64 0] 3)).cell? ⟨w.heap.size,0,none⟩ = some (.pointer p):=(HW.out _ rfl).2.1.cell 0
  go_wp2_with fail
  obtain ⟨W0,hW0⟩:∃ W0,W0 = (w.alloc (.cells #[.pointer p,.bool tl,.int .i64 eo] TGr)).alloc (.cells #[.int .i64 0] 3):=⟨_,rfl⟩
  obtain ⟨k1,k2,k3⟩:=HW.out W0 hW0
  rw [← hW0]
  obtain ⟨OB,hOB⟩:∃ OB,OB = w.heap.size + 1:=⟨_,rfl⟩
  obtain ⟨GB,hGB⟩:∃ GB,GB = w.heap.size:=⟨_,rfl⟩
  rw [← hOB] at k3 ⊢
  rw [← hGB] at k2 ⊢
  have HB0:Hid (Fr [] w W0 ∧ Blk W0 GB TGr #[.pointer p,.bool tl,.int .i64 eo] ∧ Blk W0 OB 3 #[.int .i64 0]):=⟨k1,k2,k3⟩
  have HNB:Hid (GB = w.heap.size ∧ OB = w.heap.size + 1):=⟨hGB,hOB⟩
  clear hW0 k1 k2 k3 hGB hOB HW g0
  refine (HRG.out W0 HB0.out.1).mono ?_
  rintro e w5 ⟨bi,bj,bt,rfl,hbi,hbj,hbt,hf5,hx1,hx2,hx3⟩
  have HF5:=Lib.hid hf5
  have HBB:Hid (w5.cell? ⟨bi,0,none⟩ = some (.int .i64 (0:Nat)) ∧ w5.cell? ⟨bj,0,none⟩ = some (.int .i64 (b:Nat)) ∧ w5.cell? ⟨bt,0,none⟩ = some (.pointer p)):=⟨hbi,hbj,hbt⟩
  have HBX:Hid (W0.heap.size ≤ bi ∧ W0.heap.size ≤ bj ∧ W0.heap.size ≤ bt):=⟨hx1,hx2,hx3⟩
  clear hbi hbj hbt hf5 hx1 hx2 hx3
  go_wp2_with fail
  have HTR:Hid (TreeAt TN [some OB] w5 p xs):=by
    have:=HIN.out
    refine this.grow (E':=[some OB]) (HB0.out.1.trans HF5.out) fun k hk => ?_
    rw [List.mem_singleton] at hk
    injection hk with hk
    exact .inr (by have:=HNB.out; omega)
  have HWI0:Hid (WI w5 w5 OB 0):=⟨HB0.out.2.2.fr HF5.out (by simp),Fr.refl _ _,(HB0.out.2.2.fr HF5.out (by simp)).lt⟩
  rw [← wpIn_wide (n:=3)]
  refine range_law (E:=[some OB]) (F:=Fence.wide) rfl (by omega) (gf:=103) rfl trivial (enters_of Tryz.func103 (by kernel_rfl) rfl)
    (back_stops (3 - 1) bi bj bt 0 b w5 p xs (Nat.zero_le _) (by rw [← HN.out.1]; exact HN.out.2.2) (by have:=HN.out; omega) HTR.out HBB.out.1 HBB.out.2.1 HBB.out.2.2 ?hne) (Fr.refl _ _) (fun _ => rfl)
    (fun pre W => Hid (WI w5 W OB 0 ∧ ∀ x ∈ pre,x.2.h = true)) (fun c _ W => c = .ret ∧ Hid (WI w5 W OB (prevP xs b))) ?hI ?hIx ?h0
    (fun x a₁ W => ∃ rb,a₁ = { tmps:=#[.agg #[.pointer p,.bool tl,.int .i64 eo],.int .i64 r,.pointer (some ⟨GB,0,none⟩),undef,.pointer (some ⟨OB,0,none⟩),.int .i64 (x.1:Nat),.pointer (some ⟨rb,0,none⟩),.pointer (some ⟨GB,0,none⟩),.agg #[.pointer p],.int .i64 r,.int .i64 r1,.func (.func 103) #[] #[.pointer (some ⟨bi,0,none⟩),.pointer (some ⟨bj,0,none⟩),.pointer (some ⟨bt,0,none⟩)],.int .i64 (x.1:Nat),x.2.val,undef,undef,undef],defers:=[] } ∧ Blk W rb TRow #[.slice x.2.A x.2.n x.2.c,.int .i64 x.2.e,.bool x.2.h]) ?hAx ?assign ?body ?done ?stop
  case hne =>
    have key:∀ (x:Nat),W0.heap.size ≤ x → some x ∉ [some OB]:=fun x hx e => by
      rw [List.mem_singleton] at e
      injection e with e
      have:=HB0.out.2.2.lt
      omega
    exact ⟨key bi HBX.out.1,key bj HBX.out.2.1,key bt HBX.out.2.2⟩
  case hI =>
    rintro pre W W' h hc
    exact ⟨h.out.1.ch hc,h.out.2⟩
  case hIx =>
    rintro c pre W W' ⟨h1,h2⟩ hc
    exact ⟨h1,h2.out.ch hc⟩
  case h0 => exact ⟨HWI0.out,fun x hx => by simp at hx⟩
  case hAx =>
    rintro x a₁ W l o o' hl ho ⟨rb,rfl,hb⟩
    refine ⟨rb,rfl,?_⟩
    unfold Blk at hb ⊢
    rw [World.putObj_heap_other]
    · exact hb
    · intro e; subst e; rw [hb] at hl; injection hl with hl; subst hl; cases ho
  case assign =>
    intro l x W K hK
    obtain ⟨xq,⟨rA,rn,rc,re,rh⟩⟩:=x
    simp only [encR,RV.val]
    gi_wp2
    refine hK _ _ ((Fr.refl [] W).alloc _) ⟨W.heap.size,rfl,Blk.new W TRow _⟩
  case body =>
    rintro l pre x a₁ W HI hpx ⟨rb,rfl,hb⟩
    obtain ⟨xq,⟨rA,rn,rc,re,rh⟩⟩:=x
    simp only [RV.val] at hb ⊢
    have b0:W.cell? ⟨rb,0,none⟩ = some (.slice rA rn rc):=hb.cell 0
    have b1:W.cell? ⟨rb,1,none⟩ = some (.int .i64 re):=hb.cell 1
    have b2:W.cell? ⟨rb,2,none⟩ = some (.bool rh):=hb.cell 2
    have HNP:Hid (rh = false → prevP xs b = (xq:Nat)):=by
      show _ → _
      intro h
      exact prevP_yes xs b pre _ hpx HI.out.2 h
    clear hb hpx
    gi_wp2
    refine ⟨trivial,(CallsIn.inRound l (callsIn_wide.2 (shown_any W rA rn rc re rh))).mono ?_⟩
    rintro en w8 ⟨rfl,hf8⟩
    have HW8:=Lib.hid (HI.out.1.fr0 hf8)
    have HF8:=Lib.hid hf8
    have o0:w8.cell? ⟨OB,0,none⟩ = some (.int .i64 0):=HW8.out.box.cell 0
    have oz:=HW8.out.box.frozen 0
    have ol:=HW8.out.box.lt
    clear hf8 b0 b1 b2
    cases rh with
    | true =>
      gi_wp2
      refine ⟨KeepsI.of_fr HF8.out,HW8.out,fun y hy => ?_⟩
      rcases List.mem_append.1 hy with h | h
      · exact HI.out.2 y h
      · rw [List.mem_singleton] at h; rw [h]
    | false =>
      gi_wp2
      have hfs:Fr [some OB] w8 (w8.setCell ⟨OB,0,none⟩ (.int .i64 (xq:Nat))):=(Fr.refl _ _).setB (fun _ => by simp) 0 _
      refine ⟨(KeepsI.of_fr HF8.out).trans (HW8.out.keeps hfs rfl (List.mem_singleton.2 rfl)),rfl,?_⟩
      show WI _ _ _ _
      rw [HNP.out (by first | trivial | rfl)]
      exact HW8.out.put _
  case done =>
    rintro D W hD HI hK
    have HNO:Hid (prevP xs b = -1):=prevP_no xs b fun x hx => HI.out.2 x hx
    have o0:W.cell? ⟨OB,0,none⟩ = some (.int .i64 0):=HI.out.1.box.cell 0
    have oz:=HI.out.1.box.frozen 0
    have ol:=HI.out.1.box.lt
    have HDD:=Lib.hid hD
    have HK0:=Lib.hid hK
    clear hD hK
    go_wp2_with fail
    obtain ⟨W9,hW9⟩:∃ W9,W9 = W.setCell ⟨OB,0,none⟩ (.int .i64 (-1)):=⟨_,rfl⟩
    rw [← hW9]
    have HWD:Hid (WI w5 W9 OB (-1)):=by show WI _ _ _ _; rw [hW9]; exact HI.out.1.put (-1)
    have HKD:Hid (W9.heap[D]? = some (.deferred (some []))):=by
      show _ = _
      rw [hW9]
      refine (Below.heap_setCell W ⟨OB,0,none⟩ _ D ?_).trans HK0.out
      have:=HI.out.1.ob
      have:=HDD.out
      show D ≠ OB
      omega
    clear hW9 o0 oz ol
    refine ⟨by simp,.inl ⟨_,_,rfl,run_takeDeferred HKD.out,?_⟩⟩
    have hc:=HWD.out.ch (ChI.put (o':=.deferred none) HKD.out rfl HDD.out)
    obtain ⟨W10,hW10⟩:∃ W10,W10 = World.putObj W9 D (.deferred none):=⟨_,rfl⟩
    rw [← hW10] at hc ⊢
    have l0:W10.cell? ⟨OB,0,none⟩ = some (.int .i64 (-1)):=hc.box.cell 0
    clear hW10
    refine ⟨.int .i64 (-1),by simp [results,Tryz.results35,go_sem, *],by rw [HNO.out],(HB0.out.1.trans HF5.out).seq hc.fr fun x hx => ?_⟩
    rw [List.mem_singleton] at hx
    exact .inr (.inr ⟨OB,by have:=HNB.out; omega,hx⟩)
  case stop =>
    rintro D c pre W hD ⟨rfl,HI⟩ hK
    have HDD:=Lib.hid hD
    have HKD:=Lib.hid hK
    have HWD:=HI
    clear hD hK
    rw [wpIn_wide]
    go_wp2_with fail
    refine ⟨by simp,.inl ⟨_,_,rfl,run_takeDeferred HKD.out,?_⟩⟩
    have hc:=HWD.out.ch (ChI.put (o':=.deferred none) HKD.out rfl HDD.out)
    obtain ⟨W10,hW10⟩:∃ W10,W10 = World.putObj W D (.deferred none):=⟨_,rfl⟩
    rw [← hW10] at hc ⊢
    have l0:W10.cell? ⟨OB,0,none⟩ = some (.int .i64 (prevP xs b)):=hc.box.cell 0
    clear hW10
    refine ⟨.int .i64 (prevP xs b),by simp [results,Tryz.results35,go_sem, *],rfl,(HB0.out.1.trans HF5.out).seq hc.fr fun x hx => ?_⟩
    rw [List.mem_singleton] at hx
    exact .inr (.inr ⟨OB,by have:=HNB.out; omega,hx⟩)
end Go.Proofs.YteohomdiklkbfaaGreat
namespace Go.Proofs.YteohomdiklkbfaaGreat
open Go.RowKit Go.Shelf Go.Proofs.Dm
attribute [local go_sem] Oper.semAt_some

end Go.Proofs.YteohomdiklkbfaaGreat
namespace Go.Proofs.YteohomdiklkbfaaGreat
open Go.RowKit Go.Proofs.Dm

def settP (xs:List RV) (a b:Nat):Int:=if 0 ≤ nextP xs a then nextP xs a else max (prevP xs b) 0
structure RSu (W0:World) (PB k:Nat) (v m mn mx:Int) (G:Value) (f:Nat → Bool) (u0 u1 u2 u3 u4 u5 u6 u7:Value) (w:World):Prop where
  o8:f 8 = true → f 1 = true ∧ f 2 = true ∧ f 3 = true
  f0:f 8 = false → Fr [] W0 w
  f1:f 8 = true → ∃ w1,Fr [] W0 w1 ∧ w = w1.setCell ⟨PB,k,none⟩ (.int .i64 mx)
  s0:f 0 = true → u0 = .pointer (some ⟨PB,k,none⟩)
  s1:f 1 = true → u1 = .int .i64 v
  s2:f 2 = true → u2 = G
  s3:f 3 = true → u3 = .int .i64 m
  s4:f 4 = true → u4 = .int .i64 (m - 1)
  s5:f 5 = true → u5 = .int .i64 mn
  s6:f 6 = true → u6 = .int .i64 mx
  s7:f 7 = true → u7 = .pointer (some ⟨PB,k,none⟩)
section
variable {W0 w w2:World} {PB k:Nat} {v m mn mx:Int} {G:Value} {f:Nat → Bool} {u0 u1 u2 u3 u4 u5 u6 u7:Value}
theorem RSu.p0 (h:RSu W0 PB k v m mn mx G f u0 u1 u2 u3 u4 u5 u6 u7 w):RSu W0 PB k v m mn mx G (addB f 0) (.pointer (some ⟨PB,k,none⟩)) u1 u2 u3 u4 u5 u6 u7 w:=by
  exact ⟨(fun hh => have q:=h.o8 ((addB_ne (by decide)).symm.trans hh); ⟨addB_of _ q.1,addB_of _ q.2.1,addB_of _ q.2.2⟩),
    (kpB h.f0),
    (kpB h.f1),
    (fun _ => rfl),
    (kpB h.s1),
    (kpB h.s2),
    (kpB h.s3),
    (kpB h.s4),
    (kpB h.s5),
    (kpB h.s6),
    (kpB h.s7)⟩
theorem RSu.p1 (h:RSu W0 PB k v m mn mx G f u0 u1 u2 u3 u4 u5 u6 u7 w):RSu W0 PB k v m mn mx G (addB f 1) u0 (.int .i64 v) u2 u3 u4 u5 u6 u7 w:=by
  exact ⟨(fun hh => have q:=h.o8 ((addB_ne (by decide)).symm.trans hh); ⟨addB_of _ q.1,addB_of _ q.2.1,addB_of _ q.2.2⟩),
    (kpB h.f0),
    (kpB h.f1),
    (kpB h.s0),
    (fun _ => rfl),
    (kpB h.s2),
    (kpB h.s3),
    (kpB h.s4),
    (kpB h.s5),
    (kpB h.s6),
    (kpB h.s7)⟩
theorem RSu.p2 (h:RSu W0 PB k v m mn mx G f u0 u1 u2 u3 u4 u5 u6 u7 w):RSu W0 PB k v m mn mx G (addB f 2) u0 u1 (G) u3 u4 u5 u6 u7 w:=by
  exact ⟨(fun hh => have q:=h.o8 ((addB_ne (by decide)).symm.trans hh); ⟨addB_of _ q.1,addB_of _ q.2.1,addB_of _ q.2.2⟩),
    (kpB h.f0),
    (kpB h.f1),
    (kpB h.s0),
    (kpB h.s1),
    (fun _ => rfl),
    (kpB h.s3),
    (kpB h.s4),
    (kpB h.s5),
    (kpB h.s6),
    (kpB h.s7)⟩
theorem RSu.p3 (hf:Fr [] w w2) (h8:f 8 = false) (h:RSu W0 PB k v m mn mx G f u0 u1 u2 u3 u4 u5 u6 u7 w):RSu W0 PB k v m mn mx G (addB f 3) u0 u1 u2 (.int .i64 m) u4 u5 u6 u7 w2:=by
  exact ⟨(fun hh => have q:=h.o8 ((addB_ne (by decide)).symm.trans hh); ⟨addB_of _ q.1,addB_of _ q.2.1,addB_of _ q.2.2⟩),
    (fun hh => (h.f0 ((addB_ne (by decide)).symm.trans hh)).trans hf),
    (fun hh => absurd ((addB_ne (by decide)).symm.trans hh) (by rw [h8]; simp)),
    (kpB h.s0),
    (kpB h.s1),
    (kpB h.s2),
    (fun _ => rfl),
    (kpB h.s4),
    (kpB h.s5),
    (kpB h.s6),
    (kpB h.s7)⟩
theorem RSu.p4 (h:RSu W0 PB k v m mn mx G f u0 u1 u2 u3 u4 u5 u6 u7 w):RSu W0 PB k v m mn mx G (addB f 4) u0 u1 u2 u3 (.int .i64 (m - 1)) u5 u6 u7 w:=by
  exact ⟨(fun hh => have q:=h.o8 ((addB_ne (by decide)).symm.trans hh); ⟨addB_of _ q.1,addB_of _ q.2.1,addB_of _ q.2.2⟩),
    (kpB h.f0),
    (kpB h.f1),
    (kpB h.s0),
    (kpB h.s1),
    (kpB h.s2),
    (kpB h.s3),
    (fun _ => rfl),
    (kpB h.s5),
    (kpB h.s6),
    (kpB h.s7)⟩
theorem RSu.p5 (h:RSu W0 PB k v m mn mx G f u0 u1 u2 u3 u4 u5 u6 u7 w):RSu W0 PB k v m mn mx G (addB f 5) u0 u1 u2 u3 u4 (.int .i64 mn) u6 u7 w:=by
  exact ⟨(fun hh => have q:=h.o8 ((addB_ne (by decide)).symm.trans hh); ⟨addB_of _ q.1,addB_of _ q.2.1,addB_of _ q.2.2⟩),
    (kpB h.f0),
    (kpB h.f1),
    (kpB h.s0),
    (kpB h.s1),
    (kpB h.s2),
    (kpB h.s3),
    (kpB h.s4),
    (fun _ => rfl),
    (kpB h.s6),
    (kpB h.s7)⟩
theorem RSu.p6 (h:RSu W0 PB k v m mn mx G f u0 u1 u2 u3 u4 u5 u6 u7 w):RSu W0 PB k v m mn mx G (addB f 6) u0 u1 u2 u3 u4 u5 (.int .i64 mx) u7 w:=by
  exact ⟨(fun hh => have q:=h.o8 ((addB_ne (by decide)).symm.trans hh); ⟨addB_of _ q.1,addB_of _ q.2.1,addB_of _ q.2.2⟩),
    (kpB h.f0),
    (kpB h.f1),
    (kpB h.s0),
    (kpB h.s1),
    (kpB h.s2),
    (kpB h.s3),
    (kpB h.s4),
    (kpB h.s5),
    (fun _ => rfl),
    (kpB h.s7)⟩
theorem RSu.p7 (h:RSu W0 PB k v m mn mx G f u0 u1 u2 u3 u4 u5 u6 u7 w):RSu W0 PB k v m mn mx G (addB f 7) u0 u1 u2 u3 u4 u5 u6 (.pointer (some ⟨PB,k,none⟩)) w:=by
  exact ⟨(fun hh => have q:=h.o8 ((addB_ne (by decide)).symm.trans hh); ⟨addB_of _ q.1,addB_of _ q.2.1,addB_of _ q.2.2⟩),
    (kpB h.f0),
    (kpB h.f1),
    (kpB h.s0),
    (kpB h.s1),
    (kpB h.s2),
    (kpB h.s3),
    (kpB h.s4),
    (kpB h.s5),
    (kpB h.s6),
    (fun _ => rfl)⟩
theorem RSu.p8 (h8:f 8 = false) (d1:f 1 = true) (d2:f 2 = true) (d3:f 3 = true) (h:RSu W0 PB k v m mn mx G f u0 u1 u2 u3 u4 u5 u6 u7 w):RSu W0 PB k v m mn mx G (addB f 8) u0 u1 u2 u3 u4 u5 u6 u7 (w.setCell ⟨PB,k,none⟩ (.int .i64 mx)):=by
  exact ⟨(fun _ => ⟨addB_of _ d1,addB_of _ d2,addB_of _ d3⟩),
    (fun hh => by rw [addB_self] at hh; cases hh),
    (fun _ => ⟨w,h.f0 h8,rfl⟩),
    (kpB h.s0),
    (kpB h.s1),
    (kpB h.s2),
    (kpB h.s3),
    (kpB h.s4),
    (kpB h.s5),
    (kpB h.s6),
    (kpB h.s7)⟩
theorem RSu.no8 (h:RSu W0 PB k v m mn mx G f u0 u1 u2 u3 u4 u5 u6 u7 w) (hh:f 1 = false ∨ f 2 = false ∨ f 3 = false):f 8 = false:=by
  cases h8:f 8 with
  | false => rfl
  | true =>
    obtain ⟨q1,q2,q3⟩:=h.o8 h8
    rcases hh with e | e | e
    · rw [q1] at e; cases e
    · rw [q2] at e; cases e
    · rw [q3] at e; cases e
end
set_option maxRecDepth 100000 in
set_option maxHeartbeats 1600000 in
theorem settle_any (w:World) (p:Option Addr) (tl:Bool) (eo:Int) (xs:List RV) (n m a b c:Nat) (pr pc:Int) (ht:TreeAt TN [] w p xs) (hn:n = xs.length) (hn7:n ≤ 700) (hc:∀ r ∈ xs,r.n ≤ 1000) (hm:m = widthP xs) (ha:(a:Int) = max (min pr ((n:Int) - 1)) 0) (hb:b = min (a + 1) n) (hcc:(c:Int) = max (min pc ((m:Int) - 1)) 0) :
    Calls Tryz.prog 15 #[.agg #[.pointer p,.bool tl,.int .i64 eo],.agg #[.int .i64 pr,.int .i64 pc]] w fun en w' => en = .returned (.agg #[.int .i64 (settP xs a b),.int .i64 (c:Nat)]) ∧ Fr [] w w':=by
  have HLN:Hid (∀ w',Fr [] w w' → Calls Tryz.prog 27 #[.agg #[.pointer p,.bool tl,.int .i64 eo]] w' fun en w'' => en = .returned (.int .i64 (n:Nat)) ∧ Fr [] w' w''):=by
    show ∀ _,_
    intro w' hf
    have:=glen_any [] p xs tl eo w' (ht.fr0 hf)
    rw [← hn] at this
    exact this
  have HWD:Hid (∀ w',Fr [] w w' → Calls Tryz.prog 19 #[.agg #[.pointer p,.bool tl,.int .i64 eo]] w' fun en w'' => en = .returned (.int .i64 (m:Nat)) ∧ Fr [] w' w''):=by
    show ∀ _,_
    intro w' hf
    rw [hm]
    exact gwidth_any w' p tl eo n xs (ht.fr0 hf) hn hn7 hc
  have HBL:Hid (∀ w',Fr [] w w' → Calls Tryz.prog 34 #[.agg #[.pointer p,.bool tl,.int .i64 eo],.int .i64 (a:Nat)] w' fun en w'' => en = .returned (.int .i64 (nextP xs a)) ∧ Fr [] w' w''):=by
    show ∀ _,_
    intro w' hf
    by_cases h0:n = 0
    · exact below_any w' p tl eo xs n a (a:Nat) (ht.fr0 hf) hn hn7 (.inr (.inl ⟨rfl,by omega⟩))
    · exact below_any w' p tl eo xs n a (a:Nat) (ht.fr0 hf) hn hn7 (.inr (.inl ⟨rfl,by omega⟩))
  have HAB:Hid (∀ w',Fr [] w w' → Calls Tryz.prog 35 #[.agg #[.pointer p,.bool tl,.int .i64 eo],.int .i64 (a:Nat)] w' fun en w'' => en = .returned (.int .i64 (prevP xs b)) ∧ Fr [] w' w''):=by
    show ∀ _,_
    intro w' hf
    exact mabove_any w' p tl eo xs n b (a:Nat) ((a:Int) + 1) (ht.fr0 hf) hn hn7 rfl (by unfold EndAt; omega) (IntWalk.i64_in _ (by omega))
  obtain ⟨W1,hW1⟩:∃ W1,W1 = ((w.alloc (.cells #[.pointer p,.bool tl,.int .i64 eo] TGr)).alloc (.cells #[.int .i64 pr,.int .i64 pc] 43)).alloc (.cells #[.int .i64 0,.int .i64 0] 43):=⟨_,rfl⟩
  have HW:Hid (Fr [] w W1 ∧ Blk W1 w.heap.size TGr #[.pointer p,.bool tl,.int .i64 eo] ∧ Blk W1 (w.heap.size + 1) 43 #[.int .i64 pr,.int .i64 pc] ∧ Blk W1 (w.heap.size + 1 + 1) 43 #[.int .i64 0,.int .i64 0]):=by
    have b1:=Blk.new (w.alloc (.cells #[.pointer p,.bool tl,.int .i64 eo] TGr)) 43 #[.int .i64 pr,.int .i64 pc]
    have b2:=Blk.new ((w.alloc (.cells #[.pointer p,.bool tl,.int .i64 eo] TGr)).alloc (.cells #[.int .i64 pr,.int .i64 pc] 43)) 43 #[.int .i64 0,.int .i64 0]
    have b3:=b1.alloc (.cells #[.int .i64 0,.int .i64 0] 43)
    simp only [World.size_alloc] at b2 b3
    rw [← hW1] at b2 b3
    exact ⟨by rw [hW1]; exact (((Fr.refl [] w).alloc _).alloc _).alloc _,by rw [hW1]; exact ((Blk.new w TGr _).alloc _).alloc _,b3,b2⟩
  have HW1:=Lib.hid hW1
  have hm6:(m:Int) ≤ 1000:=by
    have key:∀ (l:List Nat) (a:Nat),a ≤ 1000 → (∀ x ∈ l,x ≤ 1000) → l.foldl max a ≤ 1000:=by
      intro l
      induction l with
      | nil => intro a ha _; exact ha
      | cons x l ih => intro a ha hl; exact ih _ (Nat.max_le.2 ⟨ha,hl x (List.mem_cons_self ..)⟩) fun y hy => hl y (List.mem_cons_of_mem _ hy)
    have h1:widthP xs ≤ 1000:=key _ 0 (by omega) fun x hx => by
      obtain ⟨r,hr,rfl⟩:=List.mem_map.1 hx
      exact hc r hr
    omega
  have hn6:(n:Int) ≤ 700:=by omega
  obtain ⟨cmn,hcmn⟩:∃ cmn,(if (m:Int) - 1 < pc then (m:Int) - 1 else pc) = cmn:=⟨_,rfl⟩
  obtain ⟨rmn,hrmn⟩:∃ rmn,(if (n:Int) - 1 < pr then (n:Int) - 1 else pr) = rmn:=⟨_,rfl⟩
  have Hcmn:=Lib.hid hcmn
  have Hrmn:=Lib.hid hrmn
  obtain ⟨cmx,hcmx0⟩:∃ cmx:Int,cmx = (c:Nat):=⟨_,rfl⟩
  obtain ⟨rmx,hrmx0⟩:∃ rmx:Int,rmx = (a:Nat):=⟨_,rfl⟩
  have Hcmx:Hid ((if cmn < 0 then 0 else cmn) = cmx):=by
    show _ = _
    rw [hcmx0,← hcmn,hcc]
    split <;> split at * <;> omega
  have Hrmx:Hid ((if rmn < 0 then 0 else rmn) = rmx):=by
    show _ = _
    rw [hrmx0,← hrmn,ha]
    split <;> split at * <;> omega
  have x5:IntKind.i64.wrap ((m:Int) - 1) = (m:Int) - 1:=IntWalk.i64_in _ (by omega)
  have x6:IntKind.i64.wrap ((n:Int) - 1) = (n:Int) - 1:=IntWalk.i64_in _ (by omega)
  have HXX:Hid (cmx = (c:Nat) ∧ rmx = (a:Nat)):=⟨hcmx0,hrmx0⟩
  rw [← hcmx0]
  rw [← hrmx0] at HBL HAB
  obtain ⟨GB,hGB⟩:∃ GB,GB = w.heap.size:=⟨_,rfl⟩
  obtain ⟨PB,hPB⟩:∃ PB,PB = w.heap.size + 1:=⟨_,rfl⟩
  obtain ⟨L,hL⟩:∃ L,L = w.heap.size + 1 + 1:=⟨_,rfl⟩
  have HNB:Hid (GB = w.heap.size ∧ PB = w.heap.size + 1 ∧ L = w.heap.size + 1 + 1):=⟨hGB,hPB,hL⟩
  rw [← hL] at HW
  rw [← hPB] at HW
  rw [← hGB] at HW
  clear ht hn hn7 hc hm ha hb hcc hW1 hcmn hrmn hcmx0 hrmx0 hm6 hn6
  go_enter Tryz.func15,Tryz.ntmps15
  go_wp2_with fail
  rw [← HW1.out,← hL,← hPB,← hGB]
  clear hGB hPB hL
  obtain ⟨W0,hW0⟩:∃ W0,W0 = W1:=⟨_,rfl⟩
  have HQ:Hid (Fr [] w W0 ∧ Blk W0 GB TGr #[.pointer p,.bool tl,.int .i64 eo] ∧ Blk W0 PB 43 #[.int .i64 pr,.int .i64 pc] ∧ Blk W0 L 43 #[.int .i64 0,.int .i64 0]):=by rw [hW0]; exact HW.out
  rw [← hW0]
  clear hW0 HW HW1
  have HCEL:Hid (∀ w',Fr [] W0 w' → w'.cell? ⟨GB,0,none⟩ = some (.pointer p) ∧ w'.cell? ⟨GB,1,none⟩ = some (.bool tl) ∧ w'.cell? ⟨GB,2,none⟩ = some (.int .i64 eo) ∧ w'.cell? ⟨PB,0,none⟩ = some (.int .i64 pr) ∧ w'.cell? ⟨PB,1,none⟩ = some (.int .i64 pc) ∧ w'.frozen? ⟨PB,0,none⟩ = false ∧ w'.frozen? ⟨PB,1,none⟩ = false ∧ PB < w'.heap.size):=by
    show ∀ _,_
    intro w' hf
    have h1:=HQ.out.2.1.fr hf (by simp)
    have h2:=HQ.out.2.2.1.fr hf (by simp)
    exact ⟨h1.cell 0,h1.cell 1,h1.cell 2,h2.cell 0,h2.cell 1,h2.frozen 0,h2.frozen 1,h2.lt⟩
  refine wp_region_inv (by kernel_rfl) (fun f a w' => ∃ u0 u1 u2 u3 u4 u5 u6 u7,a = { tmps:=#[.agg #[.pointer p,.bool tl,.int .i64 eo],.agg #[.int .i64 pr,.int .i64 pc],.pointer (some ⟨GB,0,none⟩),.pointer (some ⟨PB,0,none⟩),.pointer (some ⟨L,0,none⟩),undef,u0,u1,u2,u3,u4,u5,u6,u7,undef,undef,undef,undef,undef,undef,undef,undef,undef,undef,undef,undef,undef,undef,undef,undef,undef,undef,undef,undef,undef,undef,undef,undef,undef,undef],defers:=[] } ∧ Hid (RSu W0 PB 1 pc (m:Nat) cmn cmx (.agg #[.pointer p,.bool tl,.int .i64 eo]) f u0 u1 u2 u3 u4 u5 u6 u7 w')) (by kernel_rfl) ?_ ?_ ?_
  · refine ⟨_,_,_,_,_,_,_,_,rfl,?_⟩
    exact (⟨fun h => (by cases h),fun _ => (Fr.refl _ _).drew,fun h => (by cases h),fun h => (by cases h),fun h => (by cases h),fun h => (by cases h),fun h => (by cases h),fun h => (by cases h),fun h => (by cases h),fun h => (by cases h),fun h => (by cases h)⟩:RSu W0 PB 1 pc (m:Nat) cmn cmx _ (fun _ => false) _ _ _ _ _ _ _ _ _)
  · simp only [EachOp]
    refine ⟨?_,?_,?_,?_,?_,?_,?_,?_,?_,trivial⟩
    · rintro f a w' hfi hdep ⟨u0,u1,u2,u3,u4,u5,u6,u7,rfl,HI⟩ K hK
      go_simp
      exact hK _ _ ⟨_,_,_,_,_,_,_,_,rfl,HI.out.p0⟩
    · rintro f a w' hfi hdep ⟨u0,u1,u2,u3,u4,u5,u6,u7,rfl,HI⟩ K hK
      have d0:f 0 = true:=hdep { on:=0,ground:=.data } (by simp) rfl
      have e0:=HI.out.s0 d0
      subst e0
      have h8:=HI.out.no8 (.inl hfi)
      obtain ⟨c0,c1,c2,c3,c4,z0,z1,ll⟩:=HCEL.out w' (HI.out.f0 h8)
      go_simp
      exact hK _ _ ⟨_,_,_,_,_,_,_,_,rfl,HI.out.p1⟩
    · rintro f a w' hfi hdep ⟨u0,u1,u2,u3,u4,u5,u6,u7,rfl,HI⟩ K hK
      have h8:=HI.out.no8 (.inr (.inl hfi))
      obtain ⟨c0,c1,c2,c3,c4,z0,z1,ll⟩:=HCEL.out w' (HI.out.f0 h8)
      go_simp
      exact hK _ _ ⟨_,_,_,_,_,_,_,_,rfl,HI.out.p2⟩
    · rintro f a w' hfi hdep ⟨u0,u1,u2,u3,u4,u5,u6,u7,rfl,HI⟩ K hK
      have d2:f 2 = true:=hdep { on:=2,ground:=.data } (by simp) rfl
      have e2:=HI.out.s2 d2
      subst e2
      have h8:=HI.out.no8 (.inr (.inr hfi))
      refine step_call _ (by rfl) 19 #[.agg #[.pointer p,.bool tl,.int .i64 eo]] (by go_simp) _ (HWD.out _ (HQ.out.1.trans (HI.out.f0 h8))) (by rintro e w' ⟨he,_⟩; exact ⟨_,he⟩) ?_
      rintro v4 w4 ⟨hv4,hf4⟩
      injection hv4 with hv4
      subst hv4
      try go_simp
      exact hK _ _ ⟨_,_,_,_,_,_,_,_,rfl,HI.out.p3 hf4 h8⟩
    · rintro f a w' hfi hdep ⟨u0,u1,u2,u3,u4,u5,u6,u7,rfl,HI⟩ K hK
      have d3:f 3 = true:=hdep { on:=3,ground:=.data } (by simp) rfl
      have e3:=HI.out.s3 d3
      subst e3
      go_simp
      exact hK _ _ ⟨_,_,_,_,_,_,_,_,rfl,HI.out.p4⟩
    · rintro f a w' hfi hdep ⟨u0,u1,u2,u3,u4,u5,u6,u7,rfl,HI⟩ K hK
      have d1:f 1 = true:=hdep { on:=1,ground:=.data } (by simp) rfl
      have e1:=HI.out.s1 d1
      subst e1
      have d4:f 4 = true:=hdep { on:=4,ground:=.data } (by simp) rfl
      have e4:=HI.out.s4 d4
      subst e4
      go_simp
      rw [Hcmn.out]
      exact hK _ _ ⟨_,_,_,_,_,_,_,_,rfl,HI.out.p5⟩
    · rintro f a w' hfi hdep ⟨u0,u1,u2,u3,u4,u5,u6,u7,rfl,HI⟩ K hK
      have d5:f 5 = true:=hdep { on:=5,ground:=.data } (by simp) rfl
      have e5:=HI.out.s5 d5
      subst e5
      go_simp
      try rw [Hcmx.out]
      exact hK _ _ ⟨_,_,_,_,_,_,_,_,rfl,HI.out.p6⟩
    · rintro f a w' hfi hdep ⟨u0,u1,u2,u3,u4,u5,u6,u7,rfl,HI⟩ K hK
      go_simp
      exact hK _ _ ⟨_,_,_,_,_,_,_,_,rfl,HI.out.p7⟩
    · rintro f a w' hfi hdep ⟨u0,u1,u2,u3,u4,u5,u6,u7,rfl,HI⟩ K hK
      have d7:f 7 = true:=hdep { on:=7,ground:=.data } (by simp) rfl
      have e7:=HI.out.s7 d7
      subst e7
      have d6:f 6 = true:=hdep { on:=6,ground:=.data } (by simp) rfl
      have e6:=HI.out.s6 d6
      subst e6
      have d1:f 1 = true:=hdep { on:=1,ground:=.phase } (by simp) rfl
      have d2:f 2 = true:=hdep { on:=2,ground:=.phase } (by simp) rfl
      have d3:f 3 = true:=hdep { on:=3,ground:=.phase } (by simp) rfl
      obtain ⟨c0,c1,c2,c3,c4,z0,z1,ll⟩:=HCEL.out w' (HI.out.f0 hfi)
      go_simp
      exact hK _ _ ⟨_,_,_,_,_,_,_,_,rfl,HI.out.p8 hfi d1 d2 d3⟩
  rintro f a w' hall ⟨u0,u1,u2,u3,u4,u5,u6,u7,rfl,HI⟩
  obtain ⟨w1,hf1,rfl⟩:=HI.out.f1 (hall 8 (by decide))
  have e0:=HI.out.s0 (hall 0 (by decide))
  have e1:=HI.out.s1 (hall 1 (by decide))
  have e2:=HI.out.s2 (hall 2 (by decide))
  have e3:=HI.out.s3 (hall 3 (by decide))
  have e4:=HI.out.s4 (hall 4 (by decide))
  have e5:=HI.out.s5 (hall 5 (by decide))
  have e6:=HI.out.s6 (hall 6 (by decide))
  have e7:=HI.out.s7 (hall 7 (by decide))
  subst e0 e1 e2 e3 e4 e5 e6 e7
  dsimp only
  have HS1:Hid (Fr [] w (w1.setCell ⟨PB,1,none⟩ (.int .i64 cmx)) ∧ Blk (w1.setCell ⟨PB,1,none⟩ (.int .i64 cmx)) GB TGr #[.pointer p,.bool tl,.int .i64 eo] ∧ Blk (w1.setCell ⟨PB,1,none⟩ (.int .i64 cmx)) PB 43 #[.int .i64 pr,.int .i64 cmx] ∧ Blk (w1.setCell ⟨PB,1,none⟩ (.int .i64 cmx)) L 43 #[.int .i64 0,.int .i64 0]):=by
    have h3:=HNB.out
    refine ⟨(HQ.out.1.trans hf1).setB (fun h => absurd h (by omega)) _ _,(HQ.out.2.1.fr hf1 (by simp)).far (fun e => by have e:GB = PB:=e; omega) _,?_,(HQ.out.2.2.2.fr hf1 (by simp)).far (fun e => by have e:L = PB:=e; omega) _⟩
    have:=(HQ.out.2.2.1.fr hf1 (by simp)).set_ 1 (.int .i64 cmx)
    simpa using this
  generalize w1.setCell ⟨PB,1,none⟩ (.int .i64 cmx) = W2 at HS1 ⊢
  clear hf1 HI hall HCEL
  obtain ⟨a0,a1,a2⟩:W2.cell? ⟨GB,0,none⟩ = some (.pointer p) ∧ W2.cell? ⟨GB,1,none⟩ = some (.bool tl) ∧ W2.cell? ⟨GB,2,none⟩ = some (.int .i64 eo):=⟨HS1.out.2.1.cell 0,HS1.out.2.1.cell 1,HS1.out.2.1.cell 2⟩
  clear a0 a1 a2
  go_wp2_with fail
  obtain ⟨W0,hW0⟩:∃ W0,W0 = W2:=⟨_,rfl⟩
  have HQ2:Hid (Fr [] w W0 ∧ Blk W0 GB TGr #[.pointer p,.bool tl,.int .i64 eo] ∧ Blk W0 PB 43 #[.int .i64 pr,.int .i64 cmx] ∧ Blk W0 L 43 #[.int .i64 0,.int .i64 0]):=by rw [hW0]; exact HS1.out
  rw [← hW0]
  clear hW0 HS1
  have HCEL:Hid (∀ w',Fr [] W0 w' → w'.cell? ⟨GB,0,none⟩ = some (.pointer p) ∧ w'.cell? ⟨GB,1,none⟩ = some (.bool tl) ∧ w'.cell? ⟨GB,2,none⟩ = some (.int .i64 eo) ∧ w'.cell? ⟨PB,0,none⟩ = some (.int .i64 pr) ∧ w'.cell? ⟨PB,1,none⟩ = some (.int .i64 cmx) ∧ w'.frozen? ⟨PB,0,none⟩ = false ∧ w'.frozen? ⟨PB,1,none⟩ = false ∧ PB < w'.heap.size):=by
    show ∀ _,_
    intro w' hf
    have h1:=HQ2.out.2.1.fr hf (by simp)
    have h2:=HQ2.out.2.2.1.fr hf (by simp)
    exact ⟨h1.cell 0,h1.cell 1,h1.cell 2,h2.cell 0,h2.cell 1,h2.frozen 0,h2.frozen 1,h2.lt⟩
  refine wp_region_inv (by kernel_rfl) (fun f a w' => ∃ u0 u1 u2 u3 u4 u5 u6 u7,a = { tmps:=#[.agg #[.pointer p,.bool tl,.int .i64 eo],.agg #[.int .i64 pr,.int .i64 pc],.pointer (some ⟨GB,0,none⟩),.pointer (some ⟨PB,0,none⟩),.pointer (some ⟨L,0,none⟩),undef,.pointer (some ⟨PB,1,none⟩),.int .i64 pc,.agg #[.pointer p,.bool tl,.int .i64 eo],.int .i64 (m:Nat),.int .i64 ((m:Int) - 1),.int .i64 cmn,.int .i64 cmx,.pointer (some ⟨PB,1,none⟩),u0,u1,u2,u3,u4,u5,u6,u7,undef,undef,undef,undef,undef,undef,undef,undef,undef,undef,undef,undef,undef,undef,undef,undef,undef,undef],defers:=[] } ∧ Hid (RSu W0 PB 0 pr (n:Nat) rmn rmx (.agg #[.pointer p,.bool tl,.int .i64 eo]) f u0 u1 u2 u3 u4 u5 u6 u7 w')) (by kernel_rfl) ?_ ?_ ?_
  · refine ⟨_,_,_,_,_,_,_,_,rfl,?_⟩
    exact (⟨fun h => (by cases h),fun _ => (Fr.refl _ _).drew,fun h => (by cases h),fun h => (by cases h),fun h => (by cases h),fun h => (by cases h),fun h => (by cases h),fun h => (by cases h),fun h => (by cases h),fun h => (by cases h),fun h => (by cases h)⟩:RSu W0 PB 0 pr (n:Nat) rmn rmx _ (fun _ => false) _ _ _ _ _ _ _ _ _)
  · simp only [EachOp]
    refine ⟨?_,?_,?_,?_,?_,?_,?_,?_,?_,trivial⟩
    · rintro f a w' hfi hdep ⟨u0,u1,u2,u3,u4,u5,u6,u7,rfl,HI⟩ K hK
      go_simp
      exact hK _ _ ⟨_,_,_,_,_,_,_,_,rfl,HI.out.p0⟩
    · rintro f a w' hfi hdep ⟨u0,u1,u2,u3,u4,u5,u6,u7,rfl,HI⟩ K hK
      have d0:f 0 = true:=hdep { on:=0,ground:=.data } (by simp) rfl
      have e0:=HI.out.s0 d0
      subst e0
      have h8:=HI.out.no8 (.inl hfi)
      obtain ⟨c0,c1,c2,c3,c4,z0,z1,ll⟩:=HCEL.out w' (HI.out.f0 h8)
      go_simp
      exact hK _ _ ⟨_,_,_,_,_,_,_,_,rfl,HI.out.p1⟩
    · rintro f a w' hfi hdep ⟨u0,u1,u2,u3,u4,u5,u6,u7,rfl,HI⟩ K hK
      have h8:=HI.out.no8 (.inr (.inl hfi))
      obtain ⟨c0,c1,c2,c3,c4,z0,z1,ll⟩:=HCEL.out w' (HI.out.f0 h8)
      go_simp
      exact hK _ _ ⟨_,_,_,_,_,_,_,_,rfl,HI.out.p2⟩
    · rintro f a w' hfi hdep ⟨u0,u1,u2,u3,u4,u5,u6,u7,rfl,HI⟩ K hK
      have d2:f 2 = true:=hdep { on:=2,ground:=.data } (by simp) rfl
      have e2:=HI.out.s2 d2
      subst e2
      have h8:=HI.out.no8 (.inr (.inr hfi))
      refine step_call _ (by rfl) 27 #[.agg #[.pointer p,.bool tl,.int .i64 eo]] (by go_simp) _ (HLN.out _ (HQ2.out.1.trans (HI.out.f0 h8))) (by rintro e w' ⟨he,_⟩; exact ⟨_,he⟩) ?_
      rintro v4 w4 ⟨hv4,hf4⟩
      injection hv4 with hv4
      subst hv4
      try go_simp
      exact hK _ _ ⟨_,_,_,_,_,_,_,_,rfl,HI.out.p3 hf4 h8⟩
    · rintro f a w' hfi hdep ⟨u0,u1,u2,u3,u4,u5,u6,u7,rfl,HI⟩ K hK
      have d3:f 3 = true:=hdep { on:=3,ground:=.data } (by simp) rfl
      have e3:=HI.out.s3 d3
      subst e3
      go_simp
      exact hK _ _ ⟨_,_,_,_,_,_,_,_,rfl,HI.out.p4⟩
    · rintro f a w' hfi hdep ⟨u0,u1,u2,u3,u4,u5,u6,u7,rfl,HI⟩ K hK
      have d1:f 1 = true:=hdep { on:=1,ground:=.data } (by simp) rfl
      have e1:=HI.out.s1 d1
      subst e1
      have d4:f 4 = true:=hdep { on:=4,ground:=.data } (by simp) rfl
      have e4:=HI.out.s4 d4
      subst e4
      go_simp
      rw [Hrmn.out]
      exact hK _ _ ⟨_,_,_,_,_,_,_,_,rfl,HI.out.p5⟩
    · rintro f a w' hfi hdep ⟨u0,u1,u2,u3,u4,u5,u6,u7,rfl,HI⟩ K hK
      have d5:f 5 = true:=hdep { on:=5,ground:=.data } (by simp) rfl
      have e5:=HI.out.s5 d5
      subst e5
      go_simp
      try rw [Hrmx.out]
      exact hK _ _ ⟨_,_,_,_,_,_,_,_,rfl,HI.out.p6⟩
    · rintro f a w' hfi hdep ⟨u0,u1,u2,u3,u4,u5,u6,u7,rfl,HI⟩ K hK
      go_simp
      exact hK _ _ ⟨_,_,_,_,_,_,_,_,rfl,HI.out.p7⟩
    · rintro f a w' hfi hdep ⟨u0,u1,u2,u3,u4,u5,u6,u7,rfl,HI⟩ K hK
      have d7:f 7 = true:=hdep { on:=7,ground:=.data } (by simp) rfl
      have e7:=HI.out.s7 d7
      subst e7
      have d6:f 6 = true:=hdep { on:=6,ground:=.data } (by simp) rfl
      have e6:=HI.out.s6 d6
      subst e6
      have d1:f 1 = true:=hdep { on:=1,ground:=.phase } (by simp) rfl
      have d2:f 2 = true:=hdep { on:=2,ground:=.phase } (by simp) rfl
      have d3:f 3 = true:=hdep { on:=3,ground:=.phase } (by simp) rfl
      obtain ⟨c0,c1,c2,c3,c4,z0,z1,ll⟩:=HCEL.out w' (HI.out.f0 hfi)
      go_simp
      exact hK _ _ ⟨_,_,_,_,_,_,_,_,rfl,HI.out.p8 hfi d1 d2 d3⟩
  rintro f a w' hall ⟨u0,u1,u2,u3,u4,u5,u6,u7,rfl,HI⟩
  obtain ⟨w1,hf1,rfl⟩:=HI.out.f1 (hall 8 (by decide))
  have e0:=HI.out.s0 (hall 0 (by decide))
  have e1:=HI.out.s1 (hall 1 (by decide))
  have e2:=HI.out.s2 (hall 2 (by decide))
  have e3:=HI.out.s3 (hall 3 (by decide))
  have e4:=HI.out.s4 (hall 4 (by decide))
  have e5:=HI.out.s5 (hall 5 (by decide))
  have e6:=HI.out.s6 (hall 6 (by decide))
  have e7:=HI.out.s7 (hall 7 (by decide))
  subst e0 e1 e2 e3 e4 e5 e6 e7
  dsimp only
  have HS2:Hid (Fr [] w (w1.setCell ⟨PB,0,none⟩ (.int .i64 rmx)) ∧ Blk (w1.setCell ⟨PB,0,none⟩ (.int .i64 rmx)) GB TGr #[.pointer p,.bool tl,.int .i64 eo] ∧ Blk (w1.setCell ⟨PB,0,none⟩ (.int .i64 rmx)) PB 43 #[.int .i64 rmx,.int .i64 cmx] ∧ Blk (w1.setCell ⟨PB,0,none⟩ (.int .i64 rmx)) L 43 #[.int .i64 0,.int .i64 0]):=by
    have h3:=HNB.out
    refine ⟨(HQ2.out.1.trans hf1).setB (fun h => absurd h (by omega)) _ _,(HQ2.out.2.1.fr hf1 (by simp)).far (fun e => by have e:GB = PB:=e; omega) _,?_,(HQ2.out.2.2.2.fr hf1 (by simp)).far (fun e => by have e:L = PB:=e; omega) _⟩
    have:=(HQ2.out.2.2.1.fr hf1 (by simp)).set_ 0 (.int .i64 rmx)
    simpa using this
  generalize w1.setCell ⟨PB,0,none⟩ (.int .i64 rmx) = W3 at HS2 ⊢
  clear hf1 HI hall HCEL
  have g0:W3.cell? ⟨GB,0,none⟩ = some (.pointer p):=HS2.out.2.1.cell 0
  have g1:W3.cell? ⟨GB,1,none⟩ = some (.bool tl):=HS2.out.2.1.cell 1
  have g2:W3.cell? ⟨GB,2,none⟩ = some (.int .i64 eo):=HS2.out.2.1.cell 2
  have q0:W3.cell? ⟨PB,0,none⟩ = some (.int .i64 rmx):=HS2.out.2.2.1.cell 0
  go_wp2_with fail
  refine (HBL.out W3 HS2.out.1).mono ?_
  rintro en w4 ⟨rfl,hf4⟩
  have HF4:=Lib.hid (HS2.out.1.trans hf4)
  have HCE4:Hid (∀ w',Fr [] w4 w' → w'.cell? ⟨GB,0,none⟩ = some (.pointer p) ∧ w'.cell? ⟨GB,1,none⟩ = some (.bool tl) ∧ w'.cell? ⟨GB,2,none⟩ = some (.int .i64 eo) ∧ w'.cell? ⟨PB,0,none⟩ = some (.int .i64 rmx) ∧ w'.cell? ⟨PB,1,none⟩ = some (.int .i64 cmx) ∧ w'.cell? ⟨L,0,none⟩ = some (.int .i64 0) ∧ w'.cell? ⟨L,1,none⟩ = some (.int .i64 0) ∧ w'.frozen? ⟨L,0,none⟩ = false ∧ w'.frozen? ⟨L,1,none⟩ = false ∧ L < w'.heap.size):=by
    show ∀ _,_
    intro w' hf
    have h1:=(HS2.out.2.1.fr hf4 (by simp)).fr hf (by simp)
    have h2:=(HS2.out.2.2.1.fr hf4 (by simp)).fr hf (by simp)
    have h3:=(HS2.out.2.2.2.fr hf4 (by simp)).fr hf (by simp)
    exact ⟨h1.cell 0,h1.cell 1,h1.cell 2,h2.cell 0,h2.cell 1,h3.cell 0,h3.cell 1,h3.frozen 0,h3.frozen 1,h3.lt⟩
  clear hf4 g0 g1 g2 q0
  have hx:L < w.heap.size → some L ∈ ([]:List (Option Nat)):=fun h => absurd h (by have:=HNB.out; omega)
  have HHX:=Lib.hid hx
  clear hx
  have n1:¬ GB = L:=by have:=HNB.out; omega
  have n2:¬ PB = L:=by have:=HNB.out; omega
  have n3:¬ L = GB:=fun e => n1 e.symm
  have n4:¬ L = PB:=fun e => n2 e.symm
  obtain ⟨nx,hnx⟩:∃ nx,nx = nextP xs a:=⟨_,rfl⟩
  have HNX:=Lib.hid hnx
  rw [← hnx]
  clear hnx
  obtain ⟨g0,g1,g2,q0,q1,l0,l1,y0,y1,ll⟩:=HCE4.out w4 (Fr.refl _ _)
  by_cases h0:0 ≤ nx
  · have HSP:Hid (settP xs a b = nx):=by show settP _ _ _ = _; unfold settP; rw [← HNX.out,if_pos h0]
    clear g0 g1 g2 q0
    go_wp2_with fail
    refine bodyPost_ret (v:=.agg #[.int .i64 nx,.int .i64 cmx]) (by simp [results,Tryz.results15,go_sem, *]) rfl ?_
    rw [HSP.out]
    exact ⟨rfl,(HF4.out.setB HHX.out _ _).setB HHX.out _ _⟩
  · obtain ⟨pv,hpv⟩:∃ pv,pv = prevP xs b:=⟨_,rfl⟩
    have HSP:Hid (settP xs a b = if pv < 0 then 0 else pv):=by show settP _ _ _ = _; unfold settP; rw [← HNX.out,if_neg h0,← hpv]; split <;> omega
    rw [← hpv] at HAB
    clear hpv
    go_wp2_with fail
    go_region_held3 (fun w' => w'.cell? ⟨GB,0,none⟩ = some (.pointer p) ∧ w'.cell? ⟨GB,1,none⟩ = some (.bool tl) ∧ w'.cell? ⟨GB,2,none⟩ = some (.int .i64 eo) ∧ w'.cell? ⟨PB,0,none⟩ = some (.int .i64 rmx) ∧ w'.cell? ⟨PB,1,none⟩ = some (.int .i64 cmx)) (go_keep) ((first
      | (go_at_call 35; go_must (
           refine (HAB.out _ HF4.out.drew).mono ?_
           rintro e w5 ⟨rfl,hf5⟩
           have HF5:Hid (Fr [] w4 w5):=(Fr.refl [] w4).drew.trans hf5
           obtain ⟨c0,c1,c2,c3,c4,c5,c6,c7,c8,c9⟩:=HCE4.out w5 HF5.out
           clear hf5))))
    all_goals go_simp
    all_goals go_wp2
    all_goals (refine bodyPost_ret (v:=.agg #[.int .i64 (if pv < 0 then 0 else pv),.int .i64 cmx]) (by simp [results,Tryz.results15,go_sem, *] <;> (intro; omega)) rfl ?_)
    all_goals (rw [HSP.out])
    all_goals exact ⟨rfl,((HF4.out.trans HF5.out).setB HHX.out _ _).setB HHX.out _ _⟩
end Go.Proofs.YteohomdiklkbfaaGreat
