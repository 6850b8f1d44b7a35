import Derived.Test.YteohomdiklkbfaaGreatA18
import Derived.Test.YteohomdiklkbfaaGreatA13
import Derived.Test.YteohomdiklkbfaaGreatA17
import Derived.Test.YteohomdiklkbfaaGreatA12
import Derived.Test.YteohomdiklkbfaaGreatA28
import Derived.IntWalk
import Derived.Deep.LoopGhost
namespace Go.Proofs.YteohomdiklkbfaaGreat
open Go.RowKit Go.Proofs.Dm

set_option maxHeartbeats 800000 in
theorem gwith_yes (w:World) (p q:Option Addr) (tl:Bool) (eo:Int) :
    Calls Tryz.prog 50 #[.agg #[.pointer p,.bool tl,.int .i64 eo],.agg #[.pointer q],.bool true] w fun e w' => e = .returned (.tuple #[.agg #[.pointer q,.bool tl,.int .i64 eo],.int .i64 0]) ∧ Fr [] w w':=by
  go_enter Tryz.func50,Tryz.ntmps50
  go_wp2_with fail
  refine bodyPost_ret (v:=.tuple #[.agg #[.pointer q,.bool tl,.int .i64 eo],.int .i64 0]) (by simp [results,Tryz.results50,go_sem, *]) rfl ?_
  exact ⟨rfl,(((Fr.refl [] w).alloc _).alloc _).alloc _⟩
def GPutAns (E:List (Option Nat)) (w:World) (ys:List RV) (tl:Bool) (eo:Int) (en:Ending) (w':World):Prop :=
  ∃ p,en = .returned (.tuple #[.agg #[.pointer p,.bool tl,.int .i64 eo],.int .i64 0]) ∧ TreeAt TN E w' p ys ∧ Fr [] w w'
set_option maxRecDepth 100000 in
set_option maxHeartbeats 1600000 in
theorem gput_yes (E:List (Option Nat)) (w:World) (p:Option Addr) (tl:Bool) (eo:Int) (xs:List RV) (i:Nat) (x:RV) (ht:TreeAt TN E w p xs) (hE:Old E w) (hi:i < xs.length) (hn:xs.length ≤ 100000) :
    Calls Tryz.prog 28 #[.agg #[.pointer p,.bool tl,.int .i64 eo],.int .i64 (i:Nat),x.val] w (GPutAns E w (xs.set i x) tl eo):=by
  obtain ⟨xA,xn,xc,xe,xh⟩:=x
  show Calls Tryz.prog 28 #[.agg #[.pointer p,.bool tl,.int .i64 eo],.int .i64 (i:Nat),.agg #[.slice xA xn xc,.int .i64 xe,.bool xh]] w _
  obtain ⟨W1,hW1⟩:∃ W1,W1 = ((w.alloc (.cells #[.pointer p,.bool tl,.int .i64 eo] TGr)).alloc (.cells #[.slice xA xn xc,.int .i64 xe,.bool xh] TRow)).alloc (.cells #[.pointer none,.bool false,.int .i64 0] TGr):=⟨_,rfl⟩
  have HW:Hid (Fr [] w W1 ∧ Blk W1 w.heap.size TGr #[.pointer p,.bool tl,.int .i64 eo] ∧ Blk W1 (w.heap.size + 1) TRow #[.slice xA xn xc,.int .i64 xe,.bool xh] ∧ Blk W1 (w.heap.size + 1 + 1) TGr #[.pointer none,.bool false,.int .i64 0]):=by
    have b1:=(Blk.new (w.alloc (.cells #[.pointer p,.bool tl,.int .i64 eo] TGr)) TRow #[.slice xA xn xc,.int .i64 xe,.bool xh]).alloc (.cells #[.pointer none,.bool false,.int .i64 0] TGr)
    have b2:=Blk.new ((w.alloc (.cells #[.pointer p,.bool tl,.int .i64 eo] TGr)).alloc (.cells #[.slice xA xn xc,.int .i64 xe,.bool xh] TRow)) TGr #[.pointer none,.bool false,.int .i64 0]
    simp only [World.size_alloc] at b1 b2
    rw [← hW1] at b1 b2
    exact ⟨by rw [hW1]; exact (((Fr.refl [] w).alloc _).alloc _).alloc _,by rw [hW1]; exact ((Blk.new w _ _).alloc _).alloc _,b1,b2⟩
  obtain ⟨L,hL⟩:∃ L,L = w.heap.size + 1 + 1:=⟨_,rfl⟩
  obtain ⟨RB,hRB⟩:∃ RB,RB = w.heap.size + 1:=⟨_,rfl⟩
  obtain ⟨GB,hGB⟩:∃ GB,GB = w.heap.size:=⟨_,rfl⟩
  have HLN:Hid (L = w.heap.size + 1 + 1 ∧ RB = w.heap.size + 1 ∧ GB = w.heap.size):=⟨hL,hRB,hGB⟩
  rw [← hL,← hRB,← hGB] at HW
  have HST:Hid (∀ w1,Fr [] W1 w1 → Calls Tryz.prog 51 #[.agg #[.pointer p],.int .i64 (i:Nat),.agg #[.slice xA xn xc,.int .i64 xe,.bool xh]] w1 (TreeOk (some L :: E) w1 (xs.set i ⟨xA,xn,xc,xe,xh⟩) true)):=by
    show ∀ _,_
    intro w1 hf
    have hl:=(HW.out.2.2.2.fr hf (by simp)).lt
    refine tset_yes (some L :: E) p xs i ⟨xA,xn,xc,xe,xh⟩ w1 (ht.grow (HW.out.1.trans hf).of_nil fun k hk => ?_) (old_box1 hE (HW.out.1.trans hf) hl) hi hn
    rcases List.mem_cons.1 hk with h | h
    · injection h with h; exact .inr (by omega)
    · exact .inl h
  have HOUT:Hid (∀ w2 p u0 u1 u2,TreeAt TN (some L :: E) w2 p (xs.set i ⟨xA,xn,xc,xe,xh⟩) → TreeAt TN E (((w2.setCell ⟨L,0,none⟩ u0).setCell ⟨L,1,none⟩ u1).setCell ⟨L,2,none⟩ u2) p (xs.set i ⟨xA,xn,xc,xe,xh⟩)):=by
    show ∀ _,_
    intro w2 p u0 u1 u2 ht2
    have hm:L < w2.heap.size → some L ∈ (some L :: E):=fun _ => List.mem_cons_self ..
    exact ht2.grow ((((Fr.refl _ w2).setB hm 0 u0).setB hm 1 u1).setB hm 2 u2) fun k hk => .inl (List.mem_cons_of_mem _ hk)
  have HCEL:Hid (∀ w',Fr [] W1 w' → w'.cell? ⟨GB,0,none⟩ = some (.pointer p) ∧ w'.cell? ⟨GB,1,none⟩ = some (.bool tl) ∧ w'.cell? ⟨GB,2,none⟩ = some (.int .i64 eo) ∧ w'.cell? ⟨RB,0,none⟩ = some (.slice xA xn xc) ∧ w'.cell? ⟨RB,1,none⟩ = some (.int .i64 xe) ∧ w'.cell? ⟨RB,2,none⟩ = some (.bool xh) ∧ w'.cell? ⟨L,0,none⟩ = some (.pointer none) ∧ w'.cell? ⟨L,1,none⟩ = some (.bool false) ∧ w'.cell? ⟨L,2,none⟩ = some (.int .i64 0) ∧ w'.frozen? ⟨L,0,none⟩ = false ∧ w'.frozen? ⟨L,1,none⟩ = false ∧ w'.frozen? ⟨L,2,none⟩ = false ∧ L < w'.heap.size):=by
    show ∀ _,_
    intro w' hf
    have h1:=HW.out.2.1.fr hf (by simp)
    have h2:=HW.out.2.2.1.fr hf (by simp)
    have h3:=HW.out.2.2.2.fr hf (by simp)
    exact ⟨h1.cell 0,h1.cell 1,h1.cell 2,h2.cell 0,h2.cell 1,h2.cell 2,h3.cell 0,h3.cell 1,h3.cell 2,h3.frozen 0,h3.frozen 1,h3.frozen 2,h3.lt⟩
  obtain ⟨ys,hys⟩:∃ ys,ys = xs.set i ⟨xA,xn,xc,xe,xh⟩:=⟨_,rfl⟩
  rw [← hys] at HST HOUT ⊢
  have HW1:=Lib.hid hW1
  have n1:¬ L = GB:=by omega
  have n2:¬ L = RB:=by omega
  have n3:¬ GB = L:=by omega
  have n4:¬ RB = L:=by omega
  clear ht hE hi hn hys hW1
  go_enter Tryz.func28,Tryz.ntmps28
  go_wp2_with fail
  rw [← HW1.out,← hL,← hRB,← hGB]
  clear hL hRB hGB
  obtain ⟨c0,c1,c2,c3,c4,c5,c6,c7,c8,c9,c10,c11,c12⟩:=HCEL.out _ (Fr.refl _ _)
  go_region_held3 (fun w' => w'.cell? ⟨GB,0,none⟩ = some (.pointer p) ∧ w'.cell? ⟨GB,1,none⟩ = some (.bool tl) ∧ w'.cell? ⟨GB,2,none⟩ = some (.int .i64 eo) ∧ w'.cell? ⟨RB,0,none⟩ = some (.slice xA xn xc) ∧ w'.cell? ⟨RB,1,none⟩ = some (.int .i64 xe) ∧ w'.cell? ⟨RB,2,none⟩ = some (.bool xh)) (go_keep) ((first
    | (go_at_call 51; go_must (
         refine (HST.out _ (Fr.refl [] W1).drew).mono ?_
         rintro e w2 ⟨p2,rfl,ht2,hf2⟩
         have HF2:=Lib.hid ((Fr.refl [] W1).drew.trans hf2)
         have HT2:=Lib.hid ht2
         obtain ⟨d0,d1,d2,d3,d4,d5,d6,d7,d8,d9,d10,d11,d12⟩:=HCEL.out w2 HF2.out
         clear ht2 hf2))
    | (go_at_call 50; go_must (
         refine (gwith_yes w2 p p2 tl eo).mono ?_
         rintro e w3 ⟨rfl,hf3⟩
         have HF3:=Lib.hid (HF2.out.trans hf3)
         have HT3:=Lib.hid (HT2.out.fr0 hf3)
         obtain ⟨f0,f1,f2,f3,f4,f5,f6,f7,f8,f9,f10,f11,f12⟩:=HCEL.out w3 HF3.out
         clear hf3))))
  all_goals go_simp
  all_goals go_wp2
  all_goals (refine bodyPost_ret (v:=.tuple #[.agg #[.pointer p2,.bool tl,.int .i64 eo],.int .i64 0]) (by simp [results,Tryz.results28,go_sem, *]) rfl ⟨p2,rfl,HOUT.out _ _ _ _ _ HT3.out,?_⟩)
  all_goals (have hx:L < w.heap.size → some L ∈ ([]:List (Option Nat)):=fun h => absurd h (by have:=HLN.out; omega))
  all_goals exact (((HW.out.1.trans HF3.out).setB hx 0 _).setB hx 1 _).setB hx 2 _
def HideAns (E:List (Option Nat)) (w:World) (N:Nat) (cs:List CV) (n:Nat) (e:Int) (en:Ending) (w':World):Prop :=
  ∃ (A:Option Addr) (c:Nat),en = .returned (.agg #[.slice A n c,.int .i64 e,.bool true]) ∧ n ≤ c ∧ Kp E w' (RowAt N A cs) ∧ Fr [] w w'
set_option maxRecDepth 100000 in
set_option maxHeartbeats 800000 in
theorem rhide_yes (E:List (Option Nat)) (w:World) (A:Option Addr) (n c N:Nat) (e:Int) (h:Bool) (cs:List CV) (hE:Old E w) (hk:Kp E w (RowAt N A cs)) (hn:n = cs.length) (hn6:n ≤ 100000) :
    Calls Tryz.prog 29 #[.agg #[.slice A n c,.int .i64 e,.bool h],.bool true] w (HideAns E w N cs n e):=by
  obtain ⟨W1,hW1⟩:∃ W1,W1 = (w.alloc (.cells #[.slice A n c,.int .i64 e,.bool h] TRow)).alloc (.cells #[.slice none 0 0,.int .i64 0,.bool false] TRow):=⟨_,rfl⟩
  have HW:Hid (Fr [] w W1 ∧ Blk W1 w.heap.size TRow #[.slice A n c,.int .i64 e,.bool h] ∧ Blk W1 (w.heap.size + 1) TRow #[.slice none 0 0,.int .i64 0,.bool false]):=by
    have b1:=Blk.new (w.alloc (.cells #[.slice A n c,.int .i64 e,.bool h] TRow)) TRow #[.slice none 0 0,.int .i64 0,.bool false]
    simp only [World.size_alloc] at b1
    rw [← hW1] at b1
    exact ⟨by rw [hW1]; exact ((Fr.refl [] w).alloc _).alloc _,by rw [hW1]; exact (Blk.new w _ _).alloc _,b1⟩
  have HCL:Hid (Calls Tryz.prog 52 #[.slice A n c] W1 (NewRow W1 126 5 n (cvc cs))):=by
    show Calls _ _ _ _ _
    exact clone_C A n c (cvc cs) W1 (hk.now.1.fr HW.out.1 (.inr List.not_mem_nil)) (by rw [cvc_len,hn]) (cvc_one cs) (by omega)
  obtain ⟨L,hL⟩:∃ L,L = w.heap.size + 1:=⟨_,rfl⟩
  obtain ⟨RB,hRB⟩:∃ RB,RB = w.heap.size:=⟨_,rfl⟩
  have HLN:Hid (L = w.heap.size + 1 ∧ RB = w.heap.size):=⟨hL,hRB⟩
  rw [← hL,← hRB] at HW
  have HK:Hid (Kp E w (RowAt N A cs) ∧ Old E w):=⟨hk,hE⟩
  have HW1:=Lib.hid hW1
  have n1:¬ L = RB:=by omega
  have n2:¬ RB = L:=by omega
  clear hk hE hn hW1
  go_enter Tryz.func29,Tryz.ntmps29
  go_wp2_with fail
  rw [← HW1.out,← hL,← hRB]
  have hb:=HW.out.2.1
  have c0:W1.cell? ⟨RB,0,none⟩ = some (.slice A n c):=hb.cell 0
  clear hL hRB hb
  go_wp2_with fail
  refine HCL.out.mono ?_
  rintro en w2 ⟨A2,c2,rfl,hr2,hf2,hb2⟩
  have hv:=HW.out.2.1.fr hf2 (by simp)
  have hl:=HW.out.2.2.fr hf2 (by simp)
  have a0:w2.cell? ⟨RB,0,none⟩ = some (.slice A n c):=hv.cell 0
  have a1:w2.cell? ⟨RB,1,none⟩ = some (.int .i64 e):=hv.cell 1
  have a2:w2.cell? ⟨RB,2,none⟩ = some (.bool h):=hv.cell 2
  have z0:=hv.frozen 0
  have z2:=hv.frozen 2
  have lv:=hv.lt
  have l0:w2.cell? ⟨L,0,none⟩ = some (.slice none 0 0):=hl.cell 0
  have l1:w2.cell? ⟨L,1,none⟩ = some (.int .i64 0):=hl.cell 1
  have l2:w2.cell? ⟨L,2,none⟩ = some (.bool false):=hl.cell 2
  have y0:=hl.frozen 0
  have y1:=hl.frozen 1
  have y2:=hl.frozen 2
  have ll:=hl.lt
  have HEND:Hid (∀ W,W = ((((w2.setCell ⟨RB,0,none⟩ (.slice A2 n c2)).setCell ⟨RB,2,none⟩ (.bool true)).setCell ⟨L,0,none⟩ (.slice A2 n c2)).setCell ⟨L,1,none⟩ (.int .i64 e)).setCell ⟨L,2,none⟩ (.bool true) → HideAns E w N cs n e (.returned (.agg #[.slice A2 n c2,.int .i64 e,.bool true])) W):=by
    show ∀ _,_
    rintro W rfl
    have hs:=HW.out.1.size
    have hx:RB < w.heap.size → some RB ∈ ([]:List (Option Nat)):=fun h => absurd h (by have:=HLN.out; omega)
    have hy:L < w.heap.size → some L ∈ ([]:List (Option Nat)):=fun h => absurd h (by have:=HLN.out; omega)
    have hfin:Fr [] w (((((w2.setCell ⟨RB,0,none⟩ (.slice A2 n c2)).setCell ⟨RB,2,none⟩ (.bool true)).setCell ⟨L,0,none⟩ (.slice A2 n c2)).setCell ⟨L,1,none⟩ (.int .i64 e)).setCell ⟨L,2,none⟩ (.bool true)):=(((((HW.out.1.trans hf2).setB hx _ _).setB hx _ _).setB hy _ _).setB hy _ _).setB hy _ _
    refine ⟨A2,c2,rfl,ORow.cap hr2,?_,hfin⟩
    have hx2:RB < w2.heap.size → some RB ∈ [some RB,some L]:=fun _ => by simp
    have hy2:L < w2.heap.size → some L ∈ [some RB,some L]:=fun _ => by simp
    have hf3:Fr [some RB,some L] w2 (((((w2.setCell ⟨RB,0,none⟩ (.slice A2 n c2)).setCell ⟨RB,2,none⟩ (.bool true)).setCell ⟨L,0,none⟩ (.slice A2 n c2)).setCell ⟨L,1,none⟩ (.int .i64 e)).setCell ⟨L,2,none⟩ (.bool true)):=(((((Fr.refl _ w2).setB hx2 _ _).setB hx2 _ _).setB hy2 _ _).setB hy2 _ _).setB hy2 _ _
    have hs3:Sl (((((w2.setCell ⟨RB,0,none⟩ (.slice A2 n c2)).setCell ⟨RB,2,none⟩ (.bool true)).setCell ⟨L,0,none⟩ (.slice A2 n c2)).setCell ⟨L,1,none⟩ (.int .i64 e)).setCell ⟨L,2,none⟩ (.bool true)) A2 (cvc cs):=by
      refine (ORow.sl hr2).fr hf3 ?_
      cases hB:bk A2 with
      | none => exact .inl rfl
      | some j =>
        refine .inr fun e => ?_
        have h5:=hb2 j hB
        have h6:=HW.out.2.1.lt
        have h7:=HW.out.2.2.lt
        simp only [List.mem_cons,List.not_mem_nil,or_false,Option.some.injEq] at e
        omega
    have hkeep:=HK.out.1.fr0 hfin
    intro w'' hf''
    refine ⟨hs3.fr hf'' ?_,(hkeep w'' hf'').2⟩
    cases hB:bk A2 with
    | none => exact .inl rfl
    | some j =>
      refine .inr fun e => ?_
      have h5:=hb2 j hB
      have h6:=HK.out.2 j e
      omega
  clear hv hl hr2 hf2 hb2 HK HW HCL HLN
  go_wp2_with fail
  refine bodyPost_ret (v:=.agg #[.slice A2 n c2,.int .i64 e,.bool true]) (by simp [results,Tryz.results29,go_sem, *]) rfl ?_
  exact HEND.out _ rfl
end Go.Proofs.YteohomdiklkbfaaGreat
namespace Go.Proofs.YteohomdiklkbfaaGreat
open Go.RowKit Go.Proofs.Dm

set_option maxHeartbeats 800000 in
theorem dhas_yes (w:World) (B:Option Addr) (m d i:Nat) (t:Bool) (e:Int) (hi:i < m) (hm:m ≤ 100000) :
    Calls Tryz.prog 48 #[.agg #[.slice B m d,.bool t,.int .i64 e],.int .i64 (i:Nat)] w fun en w' => en = .returned (.bool true) ∧ Fr [] w w':=by
  have x1:(0:Int) ≤ (i:Int):=by omega
  have x2:(i:Int) < (m:Int):=by omega
  have HF:Hid (Fr [] w (w.alloc (.cells #[.slice B m d,.bool t,.int .i64 e] TD11))):=(Fr.refl [] w).alloc _
  clear hi hm
  go_enter Tryz.func48,Tryz.ntmps48
  go_wp2_with fail
  go_ret
  exact ⟨rfl,HF.out⟩
set_option maxHeartbeats 800000 in
theorem dpwith_any (w:World) (B C:Option Addr) (m d n c:Nat) (t:Bool) (e:Int) :
    Calls Tryz.prog 53 #[.agg #[.slice B m d,.bool t,.int .i64 e],.slice C n c] w fun en w' => en = .returned (.agg #[.slice C n c,.bool t,.int .i64 e]) ∧ Fr [] w w':=by
  have HF:Hid (∀ o1 o2:Obj,Fr [] w ((w.alloc o1).alloc o2)):=fun o1 o2 => ((Fr.refl [] w).alloc _).alloc _
  go_enter Tryz.func53,Tryz.ntmps53
  go_wp2_with fail
  refine bodyPost_ret (v:=.agg #[.slice C n c,.bool t,.int .i64 e]) (by simp [results,Tryz.results53,go_sem, *]) rfl ?_
  exact ⟨rfl,HF.out _ _⟩
structure DPt (W1 w:World) (ys:List RD) (C:Option Addr) (c j:Nat):Prop where
  own:ORow w TD8 3 C c j (rdc (ys.take j))
  fr:Fr [] W1 w
  nw:∀ k,bk C = some k → W1.heap.size ≤ k
theorem DPt.next {W1 w wa w5:World} {ys:List RD} {C C2:Option Addr} {c c2 j:Nat} {y:RD} (h:DPt W1 w ys C c j) (hy:ys[j]? = some y) (ha:Fr [] w wa) (hr:ORow w5 TD8 3 C2 c2 (j + 1) (rdc (ys.take j) ++ y.cells)) (hg:Fr [bk C] wa w5) (hb:bk C2 = bk C ∨ bk C2 = some wa.heap.size):DPt W1 w5 ys C2 c2 (j + 1):=by
  have hjl:j < ys.length:=by
    rcases Nat.lt_or_ge j ys.length with h | h
    · exact h
    · rw [List.getElem?_eq_none h] at hy; cases hy
  have hlj:ys[j] = y:=by rw [List.getElem?_eq_getElem hjl] at hy; injection hy
  have hs:=h.fr.size
  have hsa:=ha.size
  refine ⟨?_,(h.fr.trans ha).seq hg fun x hx => ?_,fun k hk => ?_⟩
  · rw [List.take_succ_eq_append_getElem hjl,hlj,rdc_app]
    have:rdc [y] = y.cells:=by simp [rdc]
    rw [this]
    exact hr
  · rw [List.mem_singleton] at hx
    subst hx
    cases hB:bk C with
    | none => exact .inr (.inl rfl)
    | some k => exact .inr (.inr ⟨k,h.nw k hB,rfl⟩)
  · rcases hb with e | e
    · exact h.nw k (e ▸ hk)
    · rw [e] at hk; injection hk with hk; omega
def DPutAns (w:World) (ys:List RD) (t:Bool) (e:Int) (en:Ending) (w':World):Prop :=
  ∃ (C:Option Addr) (c:Nat),en = .returned (.tuple #[.agg #[.slice C ys.length c,.bool t,.int .i64 e],.int .i64 0]) ∧ ORow w' TD8 3 C c ys.length (rdc ys) ∧ (∀ k,bk C = some k → w.heap.size ≤ k) ∧ Fr [] w w'
set_option maxRecDepth 100000 in
set_option maxHeartbeats 3200000 in
theorem dput_yes (w:World) (B:Option Addr) (m d i:Nat) (t:Bool) (e:Int) (xs:List RD) (y:RD) (hB:Sl w B (rdc xs)) (hm:m = xs.length) (hi:i < m) (hm6:m ≤ 100000) :
    Calls Tryz.prog 30 #[.agg #[.slice B m d,.bool t,.int .i64 e],.int .i64 (i:Nat),.agg #[.slice y.B y.m y.d,.int .i64 y.e,.bool y.h]] w (DPutAns w (xs.set i y) t e):=by
  obtain ⟨W1,hW1⟩:∃ W1,W1 = ((w.alloc (.cells #[.slice B m d,.bool t,.int .i64 e] TD11)).alloc (.cells #[.slice y.B y.m y.d,.int .i64 y.e,.bool y.h] TD8)).alloc (.cells #[.slice none 0 0,.bool false,.int .i64 0] TD11):=⟨_,rfl⟩
  have HW:Hid (Fr [] w W1 ∧ Blk W1 w.heap.size TD11 #[.slice B m d,.bool t,.int .i64 e] ∧ Blk W1 (w.heap.size + 1) TD8 #[.slice y.B y.m y.d,.int .i64 y.e,.bool y.h] ∧ Blk W1 (w.heap.size + 1 + 1) TD11 #[.slice none 0 0,.bool false,.int .i64 0]):=by
    have b1:=(Blk.new (w.alloc (.cells #[.slice B m d,.bool t,.int .i64 e] TD11)) TD8 #[.slice y.B y.m y.d,.int .i64 y.e,.bool y.h]).alloc (.cells #[.slice none 0 0,.bool false,.int .i64 0] TD11)
    have b2:=Blk.new ((w.alloc (.cells #[.slice B m d,.bool t,.int .i64 e] TD11)).alloc (.cells #[.slice y.B y.m y.d,.int .i64 y.e,.bool y.h] TD8)) TD11 #[.slice none 0 0,.bool false,.int .i64 0]
    simp only [World.size_alloc] at b1 b2
    rw [← hW1] at b1 b2
    exact ⟨by rw [hW1]; exact (((Fr.refl [] w).alloc _).alloc _).alloc _,by rw [hW1]; exact ((Blk.new w _ _).alloc _).alloc _,b1,b2⟩
  obtain ⟨ys,hys⟩:∃ ys,ys = xs.set i y:=⟨_,rfl⟩
  have HYS:Hid (ys.length = m ∧ ys[i]? = some y ∧ ∀ j,j ≠ i → ys[j]? = xs[j]?):=by
    refine ⟨by rw [hys,List.length_set,hm],?_,fun j hj => ?_⟩
    · rw [hys,List.getElem?_set_self (by omega)]
    · rw [hys,List.getElem?_set_ne (fun e => hj e.symm)]
  rw [← hys]
  clear hys
  obtain ⟨yB,ym,yd,ycs,ye,yh⟩:=y
  simp only at HW hW1 ⊢
  obtain ⟨L,hL⟩:∃ L,L = w.heap.size + 1 + 1:=⟨_,rfl⟩
  obtain ⟨RB,hRB⟩:∃ RB,RB = w.heap.size + 1:=⟨_,rfl⟩
  obtain ⟨GB,hGB⟩:∃ GB,GB = w.heap.size:=⟨_,rfl⟩
  have HLN:Hid (L = w.heap.size + 1 + 1 ∧ RB = w.heap.size + 1 ∧ GB = w.heap.size):=⟨hL,hRB,hGB⟩
  rw [← hL,← hRB,← hGB] at HW
  have HCEL:Hid (∀ w',Fr [] W1 w' → w'.cell? ⟨GB,0,none⟩ = some (.slice B m d) ∧ w'.cell? ⟨GB,1,none⟩ = some (.bool t) ∧ w'.cell? ⟨GB,2,none⟩ = some (.int .i64 e) ∧ w'.cell? ⟨RB,0,none⟩ = some (.slice yB ym yd) ∧ w'.cell? ⟨RB,1,none⟩ = some (.int .i64 ye) ∧ w'.cell? ⟨RB,2,none⟩ = some (.bool yh) ∧ w'.cell? ⟨L,0,none⟩ = some (.slice none 0 0) ∧ w'.cell? ⟨L,1,none⟩ = some (.bool false) ∧ w'.cell? ⟨L,2,none⟩ = some (.int .i64 0) ∧ w'.frozen? ⟨L,0,none⟩ = false ∧ w'.frozen? ⟨L,1,none⟩ = false ∧ w'.frozen? ⟨L,2,none⟩ = false ∧ L < w'.heap.size):=by
    show ∀ _,_
    intro w' hf
    have h1:=HW.out.2.1.fr hf (by simp)
    have h2:=HW.out.2.2.1.fr hf (by simp)
    have h3:=HW.out.2.2.2.fr hf (by simp)
    exact ⟨h1.cell 0,h1.cell 1,h1.cell 2,h2.cell 0,h2.cell 1,h2.cell 2,h3.cell 0,h3.cell 1,h3.cell 2,h3.frozen 0,h3.frozen 1,h3.frozen 2,h3.lt⟩
  have HB:=Lib.hid hB
  have HM:Hid (m = xs.length ∧ i < m ∧ m ≤ 100000):=⟨hm,hi,hm6⟩
  have HHS:=Lib.hid (dhas_yes W1 B m d i t e hi hm6)
  have HW1:=Lib.hid hW1
  have hm7:(m:Int) ≤ 100000:=by omega
  clear hB hm hi hm6 hW1
  go_enter Tryz.func30,Tryz.ntmps30
  go_wp2_with fail
  rw [← HW1.out,← hL,← hRB,← hGB]
  obtain ⟨c0,c1,c2,c3,c4,c5,c6,c7,c8,c9,c10,c11,c12⟩:=HCEL.out W1 (Fr.refl _ _)
  clear hL hRB hGB c3 c4 c5 c6 c7 c8 c9 c10 c11 c12
  go_wp2_with fail
  refine HHS.out.mono ?_
  rintro en w2 ⟨rfl,hf2⟩
  have HF2:=Lib.hid hf2
  clear hf2 c0 c1 c2
  obtain ⟨c0,c1,c2,c3,c4,c5,c6,c7,c8,c9,c10,c11,c12⟩:=HCEL.out w2 HF2.out
  have HD0:Hid (DPt W1 w2 ys none 0 0):=⟨by simpa [rdc] using ORow.nil_ w2 TD8 3,HF2.out,fun k hk => (by cases hk)⟩
  clear c1 c2 c3 c4 c5 c6 c7 c8 c9 c10 c11 c12
  go_wp2_with fail
  go_loopg [8,19] m (fun k lv iv wr => ∃ (j c:Nat) (C:Option Addr),k + j = m ∧ lv = .slice C j c ∧ iv = .int .i64 j ∧ Hid (DPt W1 wr ys C c j))
  case atStart => exact ⟨0,0,none,by omega,rfl,rfl,HD0.out⟩
  case round =>
    clear HD0 c0
    obtain ⟨j,c,C,hj,rfl,rfl,HD⟩:=hrel
    by_cases hlt:j < m
    · obtain ⟨bd,rfl,e0,e1⟩:=sl_elem (f:=RD.cells) (sz:=3) (fun _ => rfl) (HB.out.fr (HW.out.1.trans HD.out.fr) (.inr List.not_mem_nil)) (j:=j) (by have:=HM.out; omega) (by omega)
      obtain ⟨x,hx⟩:∃ x,x = xs[j]'(by have:=HM.out; omega):=⟨_,rfl⟩
      rw [← hx] at e0 e1
      have HXJ:Hid (xs[j]? = some x):=by show _ = _; rw [hx,List.getElem?_eq_getElem]
      obtain ⟨xB,xm,xd,xcs,xe,xh⟩:=x
      have a0:wr.cell? (bd.add (j * 3)) = some (.slice xB xm xd):=e0 _ rfl
      have a1:wr.cell? ⟨(bd.add (j * 3)).block,(bd.add (j * 3)).off + 1,none⟩ = some (.int .i64 xe):=e1 0 _ rfl
      have a2:wr.cell? ⟨(bd.add (j * 3)).block,(bd.add (j * 3)).off + 2,none⟩ = some (.bool xh):=e1 1 _ rfl
      obtain ⟨c0,c1,c2,c3,c4,c5,c6,c7,c8,c9,c10,c11,c12⟩:=HCEL.out (wr.alloc (.cells #[.slice xB xm xd,.int .i64 xe,.bool xh] TD8)) (HD.out.fr.alloc _)
      have hj0:(0:Int) ≤ (j:Int):=by omega
      have hj1:(j:Int) < (m:Int):=by omega
      have HJ6:Hid (j ≤ 100000):=by show _ ≤ _; omega
      have HLT:Hid (j < m):=hlt
      clear hx e0 e1 c0 c1 c2 c6 c7 c8 c9 c10 c11 c12
      by_cases hji:j = i
      · subst hji
        have HYJ:=Lib.hid HYS.out.2.1
        clear hlt
        go_wp2_with (at_builtin; go_must (
          refine wpList_app _ rfl _ _ 33 TD8 rfl (Value.agg #[.slice none 0 0,.int .i64 0,.bool false]) 3 40 Tryz.underlying33 infoD8 rfl (by decide) C c j (rdc (ys.take j)) rfl (ORow.fr HD.out.own (((Fr.refl [] wr).alloc _).alloc _) (.inr List.not_mem_nil)) _ 1 1 [.slice yB ym yd,.int .i64 ye,.bool yh] rfl rfl (sl_d8 wr _ _) (by simp [Value.oneCell']) (by have:=HJ6.out; simp only [maxLen]; omega) (by have:=HJ6.out; omega) ?_
          intro C2 c2 w5 hr2 hg2 hb2
          have HX5:=Lib.hid (HD.out.next HYJ.out (((Fr.refl [] wr).alloc _).alloc _) hr2 hg2 hb2)
          clear hr2 hg2 hb2))
        go_roundg (m - (j + 1))
        case rel => exact ⟨j + 1,c2,C2,by have:=HLT.out; omega,rfl,by go_num,HX5.out⟩
        case measure => have:=HLT.out; omega
      · have hji2:¬ (j:Int) = (i:Int):=by omega
        have hji3:((j:Int) == (i:Int)) = false:=by simpa using hji2
        have HYJ:Hid (ys[j]? = some ⟨xB,xm,xd,xcs,xe,xh⟩):=by show _ = _; rw [HYS.out.2.2 j hji]; exact HXJ.out
        clear hlt hji
        go_wp2_with (at_builtin; go_must (
          refine wpList_app _ rfl _ _ 33 TD8 rfl (Value.agg #[.slice none 0 0,.int .i64 0,.bool false]) 3 40 Tryz.underlying33 infoD8 rfl (by decide) C c j (rdc (ys.take j)) rfl (ORow.fr HD.out.own (((Fr.refl [] wr).alloc _).alloc _) (.inr List.not_mem_nil)) _ 1 1 [.slice xB xm xd,.int .i64 xe,.bool xh] rfl rfl (sl_d8 wr _ _) (by simp [Value.oneCell']) (by have:=HJ6.out; simp only [maxLen]; omega) (by have:=HJ6.out; omega) ?_
          intro C2 c2 w5 hr2 hg2 hb2
          have HX5:=Lib.hid (HD.out.next HYJ.out (((Fr.refl [] wr).alloc _).alloc _) hr2 hg2 hb2)
          clear hr2 hg2 hb2))
        go_roundg (m - (j + 1))
        case rel => exact ⟨j + 1,c2,C2,by have:=HLT.out; omega,rfl,by go_num,HX5.out⟩
        case measure => have:=HLT.out; omega
    · obtain rfl:j = m:=by omega
      have HDE:Hid (ORow wr TD8 3 C c ys.length (rdc ys)):=by
        have h1:=HD.out.own
        rw [List.take_of_length_le (by have:=HYS.out.1; omega)] at h1
        rw [HYS.out.1]
        exact h1
      obtain ⟨c0,c1,c2,c3,c4,c5,c6,c7,c8,c9,c10,c11,c12⟩:=HCEL.out wr HD.out.fr
      clear hlt hj c3 c4 c5
      go_wp2_with fail
      refine (dpwith_any wr B C j d j c t e).mono ?_
      rintro en w5 ⟨rfl,hf5⟩
      have HF5:=Lib.hid hf5
      clear hf5 c0 c1 c2 c6 c7 c8 c9 c10 c11 c12
      obtain ⟨c0,c1,c2,c3,c4,c5,c6,c7,c8,c9,c10,c11,c12⟩:=HCEL.out w5 (HD.out.fr.trans HF5.out)
      clear c0 c1 c2 c3 c4 c5
      go_wp2_with fail
      refine bodyPost_ret (v:=.tuple #[.agg #[.slice C j c,.bool t,.int .i64 e],.int .i64 0]) (by simp [results,Tryz.results30,go_sem, *]) rfl ?_
      have hx:L < w.heap.size → some L ∈ ([]:List (Option Nat)):=fun h => absurd h (by have:=HLN.out; omega)
      have hy:L < w5.heap.size → some L ∈ [some L]:=fun _ => by simp
      refine ⟨C,c,by rw [HYS.out.1],?_,fun k hk => Nat.le_trans HW.out.1.size (HD.out.nw k hk),((((HW.out.1.trans HD.out.fr).trans HF5.out).setB hx 0 _).setB hx 1 _).setB hx 2 _⟩
      refine ORow.fr (ORow.fr HDE.out HF5.out (.inr List.not_mem_nil)) ((((Fr.refl [some L] w5).setB hy 0 _).setB hy 1 _).setB hy 2 _) ?_
      cases hB:bk C with
      | none => exact .inl rfl
      | some k =>
        refine .inr fun e => ?_
        rw [List.mem_singleton] at e
        injection e with e
        have h1:=HD.out.nw k hB
        have h2:=HW.out.2.2.2.lt
        omega
end Go.Proofs.YteohomdiklkbfaaGreat
