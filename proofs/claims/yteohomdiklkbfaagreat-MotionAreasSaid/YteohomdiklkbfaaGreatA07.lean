import Derived.Test.YteohomdiklkbfaaGreatA06
import Derived.StillTailTactics
import Derived.Deep.RegionHeld3
namespace Go.Proofs.YteohomdiklkbfaaGreat
open Go.RowKit Go.Proofs.Dm

abbrev TTx:TypeId:=122
def TextAt (w:World) (p:Nat) (B:Option Addr) (d:Nat) (sp:List (Nat × Nat)) (q:Nat):Prop:=Blk w p TTx #[.slice B sp.length d,.int .i64 (q:Nat)] ∧ ORow w TSp 2 B d sp.length (spc sp) ∧ bk B ≠ some p
def WithAns (w:World) (p N:Nat) (B:Option Addr) (sp:List (Nat × Nat)) (q f m:Nat) (e:Ending) (w':World):Prop :=
  ∃ (B':Option Addr) (d':Nat) (sp':List (Nat × Nat)),e = .returned (.tuple #[]) ∧ TextAt w' p B' d' sp' (q + m) ∧ plc sp' = plc sp ++ List.range' f m ∧ (∀ x ∈ sp',1 ≤ x.2 ∧ x.1 + x.2 ≤ N) ∧ sp'.length ≤ sp.length + 1 ∧ Fr [some p,bk B] w w' ∧ (bk B' = bk B ∨ ∃ j,bk B' = some j ∧ w.heap.size ≤ j)
theorem TextAt.fr0 {w w':World} {p d q:Nat} {B:Option Addr} {sp:List (Nat × Nat)} (h:TextAt w p B d sp q) (hf:Fr [] w w'):TextAt w' p B d sp q:=⟨h.1.fr hf (by simp),ORow.fr h.2.1 hf (.inr List.not_mem_nil),h.2.2⟩
theorem text_push {w wa w2:World} {p d d2 q:Nat} {B B2:Option Addr} {sp:List (Nat × Nat)} {x:Nat × Nat} (h:TextAt w p B d sp q) (hfa:Fr [] w wa) (hr:ORow w2 TSp 2 B2 d2 (sp.length + 1) (spc sp ++ sp2 x)) (hg:Fr [bk B] wa w2) (hb:bk B2 = bk B ∨ bk B2 = some wa.heap.size) :
    TextAt (w2.setCell ⟨p,0,none⟩ (.slice B2 (sp.length + 1) d2)) p B2 d2 (sp ++ [x]) q ∧ Fr [some p,bk B] w (w2.setCell ⟨p,0,none⟩ (.slice B2 (sp.length + 1) d2)) ∧ (bk B2 = bk B ∨ ∃ j,bk B2 = some j ∧ w.heap.size ≤ j):=by
  obtain ⟨h1,h2,h3⟩:=h
  have hsz:=hfa.size
  have hpl:=h1.lt
  have hblk:Blk w2 p TTx #[.slice B sp.length d,.int .i64 (q:Nat)]:=(h1.fr hfa (by simp)).fr hg (by rw [List.mem_singleton]; exact fun e => h3 e.symm)
  have hne:bk B2 ≠ some p:=by
    rcases hb with hb | hb
    · rw [hb]; exact h3
    · rw [hb]; intro e; injection e with e; omega
  have hset:Fr [some p] w2 (w2.setCell ⟨p,0,none⟩ (.slice B2 (sp.length + 1) d2)):=(Fr.refl _ w2).setB (by simp) 0 _
  refine ⟨⟨by rw [List.length_append]; exact hblk.set_ 0 _,?_,hne⟩,?_,?_⟩
  · rw [spc_app,List.length_append]
    refine ORow.fr ?_ hset ?_
    · simpa [spc] using hr
    · cases hb2:bk B2 with
      | none => exact .inl rfl
      | some j => exact .inr (by rw [List.mem_singleton,← hb2]; exact hne)
  · exact (hfa.of_nil.trans (hg.weaken fun i _ hi => by rw [List.mem_singleton] at hi; rw [hi]; exact List.mem_cons_of_mem _ (List.mem_singleton.2 rfl))).trans (hset.weaken fun i _ hi => by rw [List.mem_singleton] at hi; rw [hi]; exact List.mem_cons_self ..)
  · rcases hb with hb | hb
    · exact .inl hb
    · exact .inr ⟨_,hb,hsz⟩
theorem text_cells {w wa w2:World} {p d q:Nat} {B:Option Addr} {sp:List (Nat × Nat)} (h:TextAt w p B d sp q) (hfa:Fr [] w wa) (hg:Fr [bk B] wa w2):w2.cell? ⟨p,0,none⟩ = some (.slice B sp.length d) ∧ w2.frozen? ⟨p,0,none⟩ = false ∧ p < w2.heap.size:=by
  have hblk:Blk w2 p TTx #[.slice B sp.length d,.int .i64 (q:Nat)]:=(h.1.fr hfa (by simp)).fr hg (by rw [List.mem_singleton]; exact fun e => h.2.2 e.symm)
  exact ⟨hblk.cell 0,hblk.frozen 0,hblk.lt⟩
theorem text_add {w:World} {p d q b f m:Nat} {B:Option Addr} {sp:List (Nat × Nat)} (h:TextAt w p B d sp q) (hb:Blk w b TSp #[.int .i64 (f:Nat),.int .i64 (m:Nat)]) (hp:p < b) (r:Nat) :
    TextAt (w.setCell ⟨p,1,none⟩ (.int .i64 (r:Nat))).drew p B d sp r ∧ Fr [some p] w (w.setCell ⟨p,1,none⟩ (.int .i64 (r:Nat))).drew ∧ Blk (w.setCell ⟨p,1,none⟩ (.int .i64 (r:Nat))).drew b TSp #[.int .i64 (f:Nat),.int .i64 (m:Nat)]:=by
  have hf:Fr [some p] w (w.setCell ⟨p,1,none⟩ (.int .i64 (r:Nat))).drew:=((Fr.refl [some p] w).setB (by simp) 1 _).drew
  refine ⟨⟨(h.1.set_ 1 _).drew,ORow.fr h.2.1 hf ?_,h.2.2⟩,hf,hb.fr hf (by rw [List.mem_singleton]; intro e; injection e with e; omega)⟩
  cases hB:bk B with
  | none => exact .inl rfl
  | some j => exact .inr (by rw [List.mem_singleton,← hB]; exact h.2.2)
set_option maxRecDepth 100000 in
set_option maxHeartbeats 800000 in
theorem with_first (w:World) (p N d q f m:Nat) (B:Option Addr) (h:TextAt w p B d [] q) (hm:1 ≤ m) (hN:f + m ≤ N) (hn:N ≤ 1000000) (hq:q + m ≤ 1000000) :
    Calls Tryz.prog 133 #[.pointer (some ⟨p,0,none⟩),.agg #[.int .i64 (f:Nat),.int .i64 (m:Nat)]] w (WithAns w p N B [] q f m):=by
  obtain ⟨r,hr⟩:∃ r,r = q + m:=⟨_,rfl⟩
  have hr1:(q:Int) + (m:Int) = (r:Int):=by omega
  have hr2:(r:Int) ≤ 1000000:=by omega
  have hm1:¬ (m:Int) < 1:=by omega
  have hf1:(f:Int) ≤ 1000000:=by omega
  have hm2:(m:Int) ≤ 1000000:=by omega
  have HP:=Lib.hid h
  have HE:Hid (r = q + m ∧ 1 ≤ m ∧ f + m ≤ N):=⟨hr,hm,hN⟩
  clear h hr hm hN hq
  have HHX:Hid (Blk (w.alloc (.cells #[.int .i64 (f:Nat),.int .i64 (m:Nat)] TSp)) w.heap.size TSp #[.int .i64 (f:Nat),.int .i64 (m:Nat)] ∧ Fr [] w (w.alloc (.cells #[.int .i64 (f:Nat),.int .i64 (m:Nat)] TSp))):=⟨Blk.new w TSp _,(Fr.refl [] w).alloc _⟩
  go_enter Tryz.func133,Tryz.ntmps133
  go_wp2_with fail
  obtain ⟨wa,hwa⟩:∃ wa,wa = w.alloc (.cells #[.int .i64 (f:Nat),.int .i64 (m:Nat)] TSp):=⟨_,rfl⟩
  rw [← hwa] at HHX ⊢
  clear hwa
  obtain ⟨hbx,hwf⟩:=HHX.out
  have HPA:=Lib.hid (HP.out.fr0 hwf)
  have x0:wa.cell? ⟨w.heap.size,0,none⟩ = some (.int .i64 (f:Nat)):=hbx.cell 0
  have x1:wa.cell? ⟨w.heap.size,1,none⟩ = some (.int .i64 (m:Nat)):=hbx.cell 1
  have c1:wa.cell? ⟨p,1,none⟩ = some (.int .i64 (q:Nat)):=HPA.out.1.cell 1
  have c0:wa.cell? ⟨p,0,none⟩ = some (.slice B 0 d):=HPA.out.1.cell 0
  have z1:=HPA.out.1.frozen 1
  have hpa:=HPA.out.1.lt
  clear hbx hwf
  go_still_tail 9,(by kernel_rfl)
  go_wp2_with fail
  have hset:TextAt (wa.setCell ⟨p,1,none⟩ (.int .i64 (r:Nat))).drew p B d [] r ∧ Fr [some p] wa (wa.setCell ⟨p,1,none⟩ (.int .i64 (r:Nat))).drew ∧ Blk (wa.setCell ⟨p,1,none⟩ (.int .i64 (r:Nat))).drew w.heap.size TSp #[.int .i64 (f:Nat),.int .i64 (m:Nat)]:=text_add HPA.out HHX.out.1 HP.out.1.lt r
  obtain ⟨wb,hwb⟩:∃ wb,wb = (wa.setCell ⟨p,1,none⟩ (.int .i64 (r:Nat))).drew:=⟨_,rfl⟩
  rw [← hwb] at hset ⊢
  clear hwb x0 x1 c0 c1 z1 hpa
  obtain ⟨htx,hfp,hbx⟩:=hset
  have HPB:Hid (TextAt wb p B d [] r ∧ Fr [some p] w wb):=⟨htx,HHX.out.2.of_nil.trans hfp⟩
  have x0:wb.cell? ⟨w.heap.size,0,none⟩ = some (.int .i64 (f:Nat)):=hbx.cell 0
  have x1:wb.cell? ⟨w.heap.size,1,none⟩ = some (.int .i64 (m:Nat)):=hbx.cell 1
  have HBX:=Lib.hid hbx
  clear htx hfp hbx
  have cb:wb.cell? ⟨p,0,none⟩ = some (.slice B 0 d):=HPB.out.1.1.cell 0
  have HEND:Hid (∀ (B':Option Addr) (d':Nat) (w':World),TextAt w' p B' d' [(f,m)] r → Fr [some p,bk B] w w' → (bk B' = bk B ∨ ∃ j,bk B' = some j ∧ w.heap.size ≤ j) → WithAns w p N B [] q f m (.returned (.tuple #[])) w'):=by
    show ∀ _,_
    intro B' d' w' q1 q2 q3
    obtain ⟨rfl,hm,hN⟩:=HE.out
    refine ⟨B',d',[(f,m)],rfl,q1,by rw [plc_one]; rfl,fun x hx => ?_,by simp,q2,q3⟩
    rw [List.mem_singleton] at hx
    subst hx
    exact ⟨hm,hN⟩
  have q1:(wb.alloc (.cells #[.int .i64 (f:Nat),.int .i64 (m:Nat)] TSp)).cell? ⟨p,0,none⟩ = some (.slice B 0 d):=(text_cells HPB.out.1 ((Fr.refl [] wb).alloc _) (Fr.refl _ _)).1
  go_region_law (
    (refine step_app _ (by rfl) _ _ 120 TSp (by rfl) (Value.agg #[.int .i64 0,.int .i64 0]) 2 16 Tryz.underlying120 infoSp rfl (by decide) B d 0 [] (by rfl) (ORow.fr HPB.out.1.2.1 (((Fr.refl [] wb).alloc _).drew) (.inr List.not_mem_nil)) _ 1 1 (sp2 (f,m)) (by rfl) rfl (sl_span wb (f,m) TSp) (spc_one [(f,m)]) (by simp only [maxLen]; omega) (by omega) ?_
     intro A2 c2 w2 hr2 hg2 hb2
     have HPU:=Lib.hid (text_push (x:=(f,m)) HPB.out.1 ((Fr.refl [] wb).alloc _).drew hr2 hg2 hb2)
     have k0:=(text_cells HPB.out.1 ((Fr.refl [] wb).alloc _).drew hg2).1
     have k1:=(text_cells HPB.out.1 ((Fr.refl [] wb).alloc _).drew hg2).2.1
     have k2:=(text_cells HPB.out.1 ((Fr.refl [] wb).alloc _).drew hg2).2.2))
  all_goals
    refine bodyPost_ret (results_none rfl _ _ _) rfl ?_
    refine HEND.out _ _ _ HPU.out.1 ((HPB.out.2.weaken fun i _ h => by rw [List.mem_singleton] at h; rw [h]; exact List.mem_cons_self ..).trans HPU.out.2.1) ?_
    rcases HPU.out.2.2 with h | ⟨j,hj,hle⟩
    · exact .inl h
    · exact .inr ⟨j,hj,Nat.le_trans HPB.out.2.size hle⟩
end Go.Proofs.YteohomdiklkbfaaGreat
