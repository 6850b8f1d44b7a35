import Derived.Test.YteohomdiklkbfaaGreatA07
import Derived.Deep.RegionLaw
import Derived.Deep.RegionHeld3
namespace Go.Proofs.YteohomdiklkbfaaGreat
open Go.RowKit Go.Proofs.Dm

theorem textjoin_ans {w wb W:World} {p N d a n f m q k c r:Nat} {ad:Addr} {sp:List (Nat × Nat)} (hg:∃ g,ad = ⟨g,0,none⟩) (hP:TextAt wb p (some ad) d (sp ++ [(a,n)]) r) (hfr:Fr [some p] w wb) (hW:Fr [] wb W)
    (hE:k = sp.length ∧ q = n + m ∧ r = c + m ∧ f = a + n ∧ f + m ≤ N ∧ ∀ x ∈ sp ++ [(a,n)],1 ≤ x.2 ∧ x.1 + x.2 ≤ N) :
    WithAns w p N (some ad) (sp ++ [(a,n)]) c f m (.returned (.tuple #[])) ((W.setCell (ad.add (k * 2)) (.int .i64 (a:Nat))).setCell ⟨(ad.add (k * 2)).block,(ad.add (k * 2)).off + 1,none⟩ (.int .i64 (q:Nat))).drew:=by
  obtain ⟨g,rfl⟩:=hg
  obtain ⟨hk,rfl,rfl,rfl,hN,hs⟩:=hE
  obtain ⟨r1,r2⟩:=join_set (q:=n + m) hk (ORow.fr hP.2.1 hW (.inr List.not_mem_nil))
  have hgp:some p ∉ [some g]:=fun h => by
    rw [List.mem_singleton] at h
    exact hP.2.2 h.symm
  have hb:=(hP.1.fr hW (by simp)).fr r2 hgp
  refine ⟨_,d,sp ++ [(a,n + m)],rfl,⟨?_,?_,hP.2.2⟩,?_,?_,?_,?_,.inl rfl⟩
  · have e:(sp ++ [(a,n + m)]).length = (sp ++ [(a,n)]).length:=by simp
    rw [e]
    exact hb.drew
  · exact ORow.fr r1 ((Fr.refl [] _).drew) (.inr List.not_mem_nil)
  · exact plc_join sp a n _
  · intro x hx
    rcases List.mem_append.1 hx with h | h
    · exact hs x (List.mem_append.2 (.inl h))
    · rw [List.mem_singleton] at h
      subst h
      have:=hs (a,n) (List.mem_append.2 (.inr (List.mem_singleton.2 rfl)))
      simp only at this ⊢
      omega
  · simp
  · exact ((hfr.weaken fun i _ h => by rw [List.mem_singleton] at h; rw [h]; exact List.mem_cons_self ..).trans (hW.of_nil.trans (r2.weaken fun i _ hi => by rw [List.mem_singleton] at hi; rw [hi]; exact List.mem_cons_of_mem _ (List.mem_singleton.2 rfl)))).drew
theorem textapart_ans {w wb W w2:World} {p N d2 a n f m k c r:Nat} {B B2:Option Addr} {sp:List (Nat × Nat)} (hfr:Fr [some p] w wb) (hW:Fr [] wb W)
    (hE:k = sp.length ∧ r = c + m ∧ 1 ≤ m ∧ f + m ≤ N ∧ ∀ x ∈ sp ++ [(a,n)],1 ≤ x.2 ∧ x.1 + x.2 ≤ N)
    (h:TextAt w2 p B2 d2 (sp ++ [(a,n)] ++ [(f,m)]) r ∧ Fr [some p,bk B] W w2 ∧ (bk B2 = bk B ∨ ∃ j,bk B2 = some j ∧ W.heap.size ≤ j)) :
    WithAns w p N B (sp ++ [(a,n)]) c f m (.returned (.tuple #[])) w2:=by
  obtain ⟨hk,rfl,hm,hN,hs⟩:=hE
  obtain ⟨h1,h2,h3⟩:=h
  have hf:Fr [some p,bk B] w wb:=hfr.weaken fun i _ h => by rw [List.mem_singleton] at h; rw [h]; exact List.mem_cons_self ..
  refine ⟨B2,d2,_,rfl,h1,by rw [plc_app _ [(f,m)],plc_one],fun x hx => ?_,by simp,(hf.trans hW.of_nil).trans h2,?_⟩
  · rcases List.mem_append.1 hx with h | h
    · exact hs x h
    · rw [List.mem_singleton] at h
      subst h
      exact ⟨hm,hN⟩
  · rcases h3 with h | ⟨j,hj,hle⟩
    · exact .inl h
    · exact .inr ⟨j,hj,Nat.le_trans (hfr.trans hW.of_nil).size hle⟩
set_option maxRecDepth 100000 in
set_option maxHeartbeats 1600000 in
theorem with_join (w:World) (p N d a n f m c:Nat) (ad:Addr) (sp:List (Nat × Nat)) (h:TextAt w p (some ad) d (sp ++ [(a,n)]) c) (hs:∀ x ∈ sp ++ [(a,n)],1 ≤ x.2 ∧ x.1 + x.2 ≤ N) (hf:f = a + n) (hm:1 ≤ m) (hN:f + m ≤ N) (hn:N ≤ 1000000) (hl:sp.length ≤ 1000000) (hq:c + m ≤ 1000000) (hg:∃ g,ad = ⟨g,0,none⟩) :
    Calls Tryz.prog 133 #[.pointer (some ⟨p,0,none⟩),.agg #[.int .i64 (f:Nat),.int .i64 (m:Nat)]] w (WithAns w p N (some ad) (sp ++ [(a,n)]) c f m):=by
  obtain ⟨q,hqq⟩:∃ q,q = n + m:=⟨_,rfl⟩
  obtain ⟨k,hk⟩:∃ k,k = sp.length:=⟨_,rfl⟩
  have hlen:(sp ++ [(a,n)]).length = k + 1:=by simp [hk]
  obtain ⟨r,hr⟩:∃ r,r = c + m:=⟨_,rfl⟩
  have hr1:(c:Int) + (m:Int) = (r:Int):=by omega
  have hr2:(r:Int) ≤ 1000000:=by omega
  have hm1:¬ (m:Int) < 1:=by omega
  have hf1:(f:Int) ≤ 1000000:=by omega
  have hm2:(m:Int) ≤ 1000000:=by omega
  have HJ:Hid (∀ w,Calls Tryz.prog 144 #[.agg #[.int .i64 (a:Nat),.int .i64 (n:Nat)],.agg #[.int .i64 (f:Nat),.int .i64 (m:Nat)]] w fun e w' => e = .returned (.tuple #[.agg #[.int .i64 (a:Nat),.int .i64 (q:Nat)],.bool true]) ∧ Fr [] w w'):=by
    show ∀ _,_
    intro w
    rw [hf,hqq]
    exact join_yes a n m w (by omega)
  have hk1:((k:Int) + 1) - 1 = (k:Int):=by omega
  have hk2:(k:Int) ≤ 1000000:=by omega
  have hk3:(k:Int) < (k:Int) + 1:=by omega
  have HP:=Lib.hid h
  have HLN:=Lib.hid hlen
  have HE:Hid (k = sp.length ∧ q = n + m ∧ r = c + m ∧ f = a + n ∧ f + m ≤ N ∧ ∀ x ∈ sp ++ [(a,n)],1 ≤ x.2 ∧ x.1 + x.2 ≤ N):=⟨hk,hqq,hr,hf,hN,hs⟩
  clear h hk hqq hr hs hf hm hN hl hq hlen
  have HHX:Hid (Blk (w.alloc (.cells #[.int .i64 (f:Nat),.int .i64 (m:Nat)] TSp)) w.heap.size TSp #[.int .i64 (f:Nat),.int .i64 (m:Nat)] ∧ Fr [] w (w.alloc (.cells #[.int .i64 (f:Nat),.int .i64 (m:Nat)] TSp))):=⟨Blk.new w TSp _,(Fr.refl [] w).alloc _⟩
  go_enter Tryz.func133,Tryz.ntmps133
  go_wp2_with fail
  obtain ⟨wa,hwa⟩:∃ wa,wa = w.alloc (.cells #[.int .i64 (f:Nat),.int .i64 (m:Nat)] TSp):=⟨_,rfl⟩
  rw [← hwa] at HHX ⊢
  clear hwa
  obtain ⟨hbx,hwf⟩:=HHX.out
  have HPA:=Lib.hid (HP.out.fr0 hwf)
  have x0:wa.cell? ⟨w.heap.size,0,none⟩ = some (.int .i64 (f:Nat)):=hbx.cell 0
  have x1:wa.cell? ⟨w.heap.size,1,none⟩ = some (.int .i64 (m:Nat)):=hbx.cell 1
  have c1:wa.cell? ⟨p,1,none⟩ = some (.int .i64 (c:Nat)):=HPA.out.1.cell 1
  have c0:wa.cell? ⟨p,0,none⟩ = some (.slice (some ad) (k + 1) d):=by rw [← HLN.out]; exact HPA.out.1.cell 0
  have z1:=HPA.out.1.frozen 1
  have hpa:=HPA.out.1.lt
  clear hbx hwf
  go_still_tail 9,(by kernel_rfl)
  go_wp2_with fail
  have hset:TextAt (wa.setCell ⟨p,1,none⟩ (.int .i64 (r:Nat))).drew p (some ad) d (sp ++ [(a,n)]) r ∧ Fr [some p] wa (wa.setCell ⟨p,1,none⟩ (.int .i64 (r:Nat))).drew ∧ Blk (wa.setCell ⟨p,1,none⟩ (.int .i64 (r:Nat))).drew w.heap.size TSp #[.int .i64 (f:Nat),.int .i64 (m:Nat)]:=text_add HPA.out HHX.out.1 HP.out.1.lt r
  obtain ⟨wb,hwb⟩:∃ wb,wb = (wa.setCell ⟨p,1,none⟩ (.int .i64 (r:Nat))).drew:=⟨_,rfl⟩
  rw [← hwb] at hset ⊢
  clear hwb x0 x1 c0 c1 z1 hpa
  obtain ⟨htx,hfp,hbx⟩:=hset
  have HPB:Hid (TextAt wb p (some ad) d (sp ++ [(a,n)]) r ∧ Fr [some p] w wb):=⟨htx,HHX.out.2.of_nil.trans hfp⟩
  have x0:wb.cell? ⟨w.heap.size,0,none⟩ = some (.int .i64 (f:Nat)):=hbx.cell 0
  have x1:wb.cell? ⟨w.heap.size,1,none⟩ = some (.int .i64 (m:Nat)):=hbx.cell 1
  have HBX:=Lib.hid hbx
  clear htx hfp hbx
  have HSL:Hid (Sl wb (some ad) (spc sp ++ sp2 (a,n))):=by
    have:=HPB.out.1.2.1.sl
    show Sl _ _ _
    rwa [spc_app,show spc [(a,n)] = sp2 (a,n) by simp [spc]] at this
  have e0:wb.cell? (ad.add (k * 2)) = some (.int .i64 (a:Nat)) ∧ wb.cell? ⟨(ad.add (k * 2)).block,(ad.add (k * 2)).off + 1,none⟩ = some (.int .i64 (n:Nat)):=by
    rcases HSL.out with h0 | ⟨ad',had,hc⟩
    · simp [sp2] at h0
    · injection had with had
      subst had
      have hk:=HE.out.1
      rw [← add_next hg]
      exact ⟨hc (k * 2) (.int .i64 (a:Nat)) (by rw [List.getElem?_append_right (by rw [spc_len,hk]; omega)]; simp [spc_len,hk,sp2]),hc (k * 2 + 1) (.int .i64 (n:Nat)) (by rw [List.getElem?_append_right (by rw [spc_len,hk]; omega)]; simp [spc_len,hk,sp2])⟩
  obtain ⟨e0,e1⟩:=e0
  have cb:wb.cell? ⟨p,0,none⟩ = some (.slice (some ad) (k + 1) d):=by rw [← HLN.out]; exact HPB.out.1.1.cell 0
  have HFZ:Hid (∀ v:World,Fr [] wb v → v.frozen? (ad.add (k * 2)) = false ∧ v.frozen? ⟨(ad.add (k * 2)).block,(ad.add (k * 2)).off + 1,none⟩ = false ∧ (ad.add (k * 2)).block ≠ p ∧ ∀ u u2,v.cell? ⟨(ad.add (k * 2)).block,(ad.add (k * 2)).off + 1,none⟩ = some u2 → (v.setCell (ad.add (k * 2)) u).cell? ⟨(ad.add (k * 2)).block,(ad.add (k * 2)).off + 1,none⟩ = some u2):=by
    show ∀ _,_
    intro v hv
    obtain ⟨g,rfl⟩:=hg
    obtain ⟨cur,hb⟩:=ORow.blk HPB.out.1.2.1
    have hb':=hb.fr hv (by simp)
    rw [add_lit]
    refine ⟨hb'.frozen _,hb'.frozen _,fun e => HPB.out.1.2.2 (by rw [← e]; rfl),fun u u2 hu => ?_⟩
    rw [hb'.cell] at hu
    rw [(hb'.set_ (k * 2) u).cell,← hu]
    exact Array.getElem?_setIfInBounds_ne (show k * 2 ≠ k * 2 + 1 by omega)
  have hall:∀ v:World,Fr [] wb v → v.cell? ⟨p,0,none⟩ = some (.slice (some ad) (k + 1) d) ∧ v.cell? (ad.add (k * 2)) = some (.int .i64 (a:Nat)) ∧ v.cell? ⟨(ad.add (k * 2)).block,(ad.add (k * 2)).off + 1,none⟩ = some (.int .i64 (n:Nat)) ∧ v.cell? ⟨w.heap.size,0,none⟩ = some (.int .i64 (f:Nat)) ∧ v.cell? ⟨w.heap.size,1,none⟩ = some (.int .i64 (m:Nat)):=by
    intro v hv
    have keb:∀ (q:Addr) (u:Value),wb.cell? q = some u → v.cell? q = some u:=fun q u hq => (hv.cell (World.block_lt_of_cell? wb q hq) (by simp)).trans hq
    exact ⟨keb _ _ cb,keb _ _ e0,keb _ _ e1,keb _ _ x0,keb _ _ x1⟩
  have HALL:=Lib.hid hall
  obtain ⟨c1,e2,e3,x2,x3⟩:=hall wb (Fr.refl _ _)
  have n1:=World.new_ne wb _ c1
  have n2:=World.new_ne wb _ e2
  have n3:=World.new_ne wb _ x2
  clear cb e0 e1 x0 x1 hall
  go_region_held3 (fun w' => w'.cell? ⟨p,0,none⟩ = some (.slice (some ad) (k + 1) d) ∧ w'.cell? (ad.add (k * 2)) = some (.int .i64 (a:Nat)) ∧ w'.cell? ⟨(ad.add (k * 2)).block,(ad.add (k * 2)).off + 1,none⟩ = some (.int .i64 (n:Nat)) ∧ w'.cell? ⟨w.heap.size,0,none⟩ = some (.int .i64 (f:Nat)) ∧ w'.cell? ⟨w.heap.size,1,none⟩ = some (.int .i64 (m:Nat))) (go_keep) ((go_at_call 144; go_must (
      refine (HJ.out _).mono ?_
      rintro e w2 ⟨rfl,hf2⟩
      first
        | have HF2:Hid (Fr [] wb w2):=((Fr.refl [] wb).drew).trans hf2
        | (have HF2:Hid (Fr [] wb w2):=(((Fr.refl [] wb).drew).alloc _).trans hf2
           have HB:Hid (Blk w2 wb.heap.size TSp #[.int .i64 0,.int .i64 0]):=(Blk.new wb.drew TSp #[.int .i64 0,.int .i64 0]).fr hf2 (by simp)
           have y0:=HB.out.cell 0
           have y1:=HB.out.cell 1
           have y2:=HB.out.frozen 0
           have y3:=HB.out.frozen 1)
      obtain ⟨c4,e4,e5,x4,x5⟩:=HALL.out w2 HF2.out
      have n4:=World.new_ne w2 _ c4
      have n5:=World.new_ne w2 _ e4
      have n6:=World.new_ne w2 _ x4)))
  all_goals
    first
      | (have F8:Fr [] wb ((w2.setCell ⟨wb.heap.size,0,none⟩ (.int .i64 (a:Nat))).setCell ⟨wb.heap.size,1,none⟩ (.int .i64 (q:Nat))):=(HF2.out.setB (fun h => absurd h (Nat.lt_irrefl _)) _ _).setB (fun h => absurd h (Nat.lt_irrefl _)) _ _
         have B8:Blk ((w2.setCell ⟨wb.heap.size,0,none⟩ (.int .i64 (a:Nat))).setCell ⟨wb.heap.size,1,none⟩ (.int .i64 (q:Nat))) wb.heap.size TSp #[.int .i64 (a:Nat),.int .i64 (q:Nat)]:=(HB.out.set_ 0 (.int .i64 (a:Nat))).set_ 1 (.int .i64 (q:Nat))
         have N8:wb.heap.size ≠ (ad.add (k * 2)).block:=n2
         revert F8 B8 N8
         generalize (w2.setCell ⟨wb.heap.size,0,none⟩ (.int .i64 (a:Nat))).setCell ⟨wb.heap.size,1,none⟩ (.int .i64 (q:Nat)) = W
         generalize wb.heap.size = y)
      | (have F8:Fr [] wb (w2.alloc (.cells #[.int .i64 (a:Nat),.int .i64 (q:Nat)] TSp)):=HF2.out.alloc _
         have B8:Blk (w2.alloc (.cells #[.int .i64 (a:Nat),.int .i64 (q:Nat)] TSp)) w2.heap.size TSp #[.int .i64 (a:Nat),.int .i64 (q:Nat)]:=Blk.new _ _ _
         have N8:w2.heap.size ≠ (ad.add (k * 2)).block:=n5
         revert F8 B8 N8
         generalize w2.alloc (.cells #[.int .i64 (a:Nat),.int .i64 (q:Nat)] TSp) = W
         generalize w2.heap.size = y)
    intro F8 B8 N8
    have N9:=N8.symm
    clear HF2
    obtain ⟨c8,e8,e9,x8,x9⟩:=HALL.out W F8
    obtain ⟨z8,z9,p8,s8⟩:=HFZ.out W F8
    have s9:=s8 (.int .i64 (a:Nat)) _ e9
    clear s8
    have y8:W.cell? ⟨y,0,none⟩ = some (.int .i64 (a:Nat)):=B8.cell 0
    have y9:W.cell? ⟨y,1,none⟩ = some (.int .i64 (q:Nat)):=B8.cell 1
    have HF8:=Lib.hid F8
    clear F8 B8
    go_wp2_with fail
    go_region_held3 (fun w' => w'.cell? ⟨p,0,none⟩ = some (.slice (some ad) (k + 1) d) ∧ w'.cell? ⟨y,0,none⟩ = some (.int .i64 (a:Nat)) ∧ w'.cell? ⟨y,1,none⟩ = some (.int .i64 (q:Nat))) (go_keep) (fail)
  all_goals
    go_wp2_with fail
    refine bodyPost_ret (results_none rfl _ _ _) rfl ?_
    exact textjoin_ans hg HPB.out.1 HPB.out.2 HF8.out HE.out
set_option maxRecDepth 100000 in
set_option maxHeartbeats 1600000 in
theorem with_apart (w:World) (p N d a n f m c:Nat) (ad:Addr) (sp:List (Nat × Nat)) (h:TextAt w p (some ad) d (sp ++ [(a,n)]) c) (hs:∀ x ∈ sp ++ [(a,n)],1 ≤ x.2 ∧ x.1 + x.2 ≤ N) (hne:f ≠ a + n) (hm:1 ≤ m) (hN:f + m ≤ N) (hn:N ≤ 1000000) (hl:sp.length ≤ 1000000) (hq:c + m ≤ 1000000) (hg:∃ g,ad = ⟨g,0,none⟩) :
    Calls Tryz.prog 133 #[.pointer (some ⟨p,0,none⟩),.agg #[.int .i64 (f:Nat),.int .i64 (m:Nat)]] w (WithAns w p N (some ad) (sp ++ [(a,n)]) c f m):=by
  obtain ⟨k,hk⟩:∃ k,k = sp.length:=⟨_,rfl⟩
  have hlen:(sp ++ [(a,n)]).length = k + 1:=by simp [hk]
  obtain ⟨r,hr⟩:∃ r,r = c + m:=⟨_,rfl⟩
  have hr1:(c:Int) + (m:Int) = (r:Int):=by omega
  have hr2:(r:Int) ≤ 1000000:=by omega
  have hm1:¬ (m:Int) < 1:=by omega
  have hf1:(f:Int) ≤ 1000000:=by omega
  have hm2:(m:Int) ≤ 1000000:=by omega
  have HJ:Hid (∀ w,Calls Tryz.prog 144 #[.agg #[.int .i64 (a:Nat),.int .i64 (n:Nat)],.agg #[.int .i64 (f:Nat),.int .i64 (m:Nat)]] w fun e w' => e = .returned (.tuple #[.agg #[.int .i64 0,.int .i64 0],.bool false]) ∧ Fr [] w w'):=by
    show ∀ _,_
    intro w
    have:=hs (a,n) (List.mem_append.2 (.inr (List.mem_singleton.2 rfl)))
    simp only at this
    exact join_no a n f m w (by omega) hne
  have hk1:((k:Int) + 1) - 1 = (k:Int):=by omega
  have hk2:(k:Int) ≤ 1000000:=by omega
  have hk3:(k:Int) < (k:Int) + 1:=by omega
  have HP:=Lib.hid h
  have HLN:=Lib.hid hlen
  have HE:Hid (k = sp.length ∧ r = c + m ∧ 1 ≤ m ∧ f + m ≤ N ∧ ∀ x ∈ sp ++ [(a,n)],1 ≤ x.2 ∧ x.1 + x.2 ≤ N):=⟨hk,hr,hm,hN,hs⟩
  clear h hk hr hs hne hm hN hl hq hlen
  have HHX:Hid (Blk (w.alloc (.cells #[.int .i64 (f:Nat),.int .i64 (m:Nat)] TSp)) w.heap.size TSp #[.int .i64 (f:Nat),.int .i64 (m:Nat)] ∧ Fr [] w (w.alloc (.cells #[.int .i64 (f:Nat),.int .i64 (m:Nat)] TSp))):=⟨Blk.new w TSp _,(Fr.refl [] w).alloc _⟩
  go_enter Tryz.func133,Tryz.ntmps133
  go_wp2_with fail
  obtain ⟨wa,hwa⟩:∃ wa,wa = w.alloc (.cells #[.int .i64 (f:Nat),.int .i64 (m:Nat)] TSp):=⟨_,rfl⟩
  rw [← hwa] at HHX ⊢
  clear hwa
  obtain ⟨hbx,hwf⟩:=HHX.out
  have HPA:=Lib.hid (HP.out.fr0 hwf)
  have x0:wa.cell? ⟨w.heap.size,0,none⟩ = some (.int .i64 (f:Nat)):=hbx.cell 0
  have x1:wa.cell? ⟨w.heap.size,1,none⟩ = some (.int .i64 (m:Nat)):=hbx.cell 1
  have c1:wa.cell? ⟨p,1,none⟩ = some (.int .i64 (c:Nat)):=HPA.out.1.cell 1
  have c0:wa.cell? ⟨p,0,none⟩ = some (.slice (some ad) (k + 1) d):=by rw [← HLN.out]; exact HPA.out.1.cell 0
  have z1:=HPA.out.1.frozen 1
  have hpa:=HPA.out.1.lt
  clear hbx hwf
  go_still_tail 9,(by kernel_rfl)
  go_wp2_with fail
  have hset:TextAt (wa.setCell ⟨p,1,none⟩ (.int .i64 (r:Nat))).drew p (some ad) d (sp ++ [(a,n)]) r ∧ Fr [some p] wa (wa.setCell ⟨p,1,none⟩ (.int .i64 (r:Nat))).drew ∧ Blk (wa.setCell ⟨p,1,none⟩ (.int .i64 (r:Nat))).drew w.heap.size TSp #[.int .i64 (f:Nat),.int .i64 (m:Nat)]:=text_add HPA.out HHX.out.1 HP.out.1.lt r
  obtain ⟨wb,hwb⟩:∃ wb,wb = (wa.setCell ⟨p,1,none⟩ (.int .i64 (r:Nat))).drew:=⟨_,rfl⟩
  rw [← hwb] at hset ⊢
  clear hwb x0 x1 c0 c1 z1 hpa
  obtain ⟨htx,hfp,hbx⟩:=hset
  have HPB:Hid (TextAt wb p (some ad) d (sp ++ [(a,n)]) r ∧ Fr [some p] w wb):=⟨htx,HHX.out.2.of_nil.trans hfp⟩
  have x0:wb.cell? ⟨w.heap.size,0,none⟩ = some (.int .i64 (f:Nat)):=hbx.cell 0
  have x1:wb.cell? ⟨w.heap.size,1,none⟩ = some (.int .i64 (m:Nat)):=hbx.cell 1
  have HBX:=Lib.hid hbx
  clear htx hfp hbx
  have HSL:Hid (Sl wb (some ad) (spc sp ++ sp2 (a,n))):=by
    have:=HPB.out.1.2.1.sl
    show Sl _ _ _
    rwa [spc_app,show spc [(a,n)] = sp2 (a,n) by simp [spc]] at this
  have e0:wb.cell? (ad.add (k * 2)) = some (.int .i64 (a:Nat)) ∧ wb.cell? ⟨(ad.add (k * 2)).block,(ad.add (k * 2)).off + 1,none⟩ = some (.int .i64 (n:Nat)):=by
    rcases HSL.out with h0 | ⟨ad',had,hc⟩
    · simp [sp2] at h0
    · injection had with had
      subst had
      have hk:=HE.out.1
      rw [← add_next hg]
      exact ⟨hc (k * 2) (.int .i64 (a:Nat)) (by rw [List.getElem?_append_right (by rw [spc_len,hk]; omega)]; simp [spc_len,hk,sp2]),hc (k * 2 + 1) (.int .i64 (n:Nat)) (by rw [List.getElem?_append_right (by rw [spc_len,hk]; omega)]; simp [spc_len,hk,sp2])⟩
  obtain ⟨e0,e1⟩:=e0
  have cb:wb.cell? ⟨p,0,none⟩ = some (.slice (some ad) (k + 1) d):=by rw [← HLN.out]; exact HPB.out.1.1.cell 0
  have HFZ:Hid (∀ v:World,Fr [] wb v → v.frozen? (ad.add (k * 2)) = false ∧ v.frozen? ⟨(ad.add (k * 2)).block,(ad.add (k * 2)).off + 1,none⟩ = false ∧ (ad.add (k * 2)).block ≠ p ∧ ∀ u u2,v.cell? ⟨(ad.add (k * 2)).block,(ad.add (k * 2)).off + 1,none⟩ = some u2 → (v.setCell (ad.add (k * 2)) u).cell? ⟨(ad.add (k * 2)).block,(ad.add (k * 2)).off + 1,none⟩ = some u2):=by
    show ∀ _,_
    intro v hv
    obtain ⟨g,rfl⟩:=hg
    obtain ⟨cur,hb⟩:=ORow.blk HPB.out.1.2.1
    have hb':=hb.fr hv (by simp)
    rw [add_lit]
    refine ⟨hb'.frozen _,hb'.frozen _,fun e => HPB.out.1.2.2 (by rw [← e]; rfl),fun u u2 hu => ?_⟩
    rw [hb'.cell] at hu
    rw [(hb'.set_ (k * 2) u).cell,← hu]
    exact Array.getElem?_setIfInBounds_ne (show k * 2 ≠ k * 2 + 1 by omega)
  have hall:∀ v:World,Fr [] wb v → v.cell? ⟨p,0,none⟩ = some (.slice (some ad) (k + 1) d) ∧ v.cell? (ad.add (k * 2)) = some (.int .i64 (a:Nat)) ∧ v.cell? ⟨(ad.add (k * 2)).block,(ad.add (k * 2)).off + 1,none⟩ = some (.int .i64 (n:Nat)) ∧ v.cell? ⟨w.heap.size,0,none⟩ = some (.int .i64 (f:Nat)) ∧ v.cell? ⟨w.heap.size,1,none⟩ = some (.int .i64 (m:Nat)):=by
    intro v hv
    have keb:∀ (q:Addr) (u:Value),wb.cell? q = some u → v.cell? q = some u:=fun q u hq => (hv.cell (World.block_lt_of_cell? wb q hq) (by simp)).trans hq
    exact ⟨keb _ _ cb,keb _ _ e0,keb _ _ e1,keb _ _ x0,keb _ _ x1⟩
  have HALL:=Lib.hid hall
  obtain ⟨c1,e2,e3,x2,x3⟩:=hall wb (Fr.refl _ _)
  have n1:=World.new_ne wb _ c1
  have n2:=World.new_ne wb _ e2
  have n3:=World.new_ne wb _ x2
  clear cb e0 e1 x0 x1 hall
  go_region_held3 (fun w' => w'.cell? ⟨p,0,none⟩ = some (.slice (some ad) (k + 1) d) ∧ w'.cell? (ad.add (k * 2)) = some (.int .i64 (a:Nat)) ∧ w'.cell? ⟨(ad.add (k * 2)).block,(ad.add (k * 2)).off + 1,none⟩ = some (.int .i64 (n:Nat)) ∧ w'.cell? ⟨w.heap.size,0,none⟩ = some (.int .i64 (f:Nat)) ∧ w'.cell? ⟨w.heap.size,1,none⟩ = some (.int .i64 (m:Nat))) (go_keep) ((go_at_call 144; go_must (
      refine (HJ.out _).mono ?_
      rintro e w2 ⟨rfl,hf2⟩
      first
        | have HF2:Hid (Fr [] wb w2):=((Fr.refl [] wb).drew).trans hf2
        | (have HF2:Hid (Fr [] wb w2):=(((Fr.refl [] wb).drew).alloc _).trans hf2
           have HB:Hid (Blk w2 wb.heap.size TSp #[.int .i64 0,.int .i64 0]):=(Blk.new wb.drew TSp #[.int .i64 0,.int .i64 0]).fr hf2 (by simp)
           have y0:=HB.out.cell 0
           have y1:=HB.out.cell 1
           have y2:=HB.out.frozen 0
           have y3:=HB.out.frozen 1)
      obtain ⟨c4,e4,e5,x4,x5⟩:=HALL.out w2 HF2.out
      have n4:=World.new_ne w2 _ c4
      have n5:=World.new_ne w2 _ e4
      have n6:=World.new_ne w2 _ x4)))
  all_goals
    first
      | (have F8:Fr [] wb ((w2.setCell ⟨wb.heap.size,0,none⟩ (.int .i64 0)).setCell ⟨wb.heap.size,1,none⟩ (.int .i64 0)):=(HF2.out.setB (fun h => absurd h (Nat.lt_irrefl _)) _ _).setB (fun h => absurd h (Nat.lt_irrefl _)) _ _
         have _hb:=HB.out
         revert F8
         generalize (w2.setCell ⟨wb.heap.size,0,none⟩ (.int .i64 0)).setCell ⟨wb.heap.size,1,none⟩ (.int .i64 0) = W)
      | (have F8:Fr [] wb (w2.alloc (.cells #[.int .i64 0,.int .i64 0] TSp)):=HF2.out.alloc _
         revert F8
         generalize w2.alloc (.cells #[.int .i64 0,.int .i64 0] TSp) = W)
    intro F8
    clear HF2
    obtain ⟨c8,e8,e9,x8,x9⟩:=HALL.out W F8
    have HF8:=Lib.hid F8
    have HPW:=Lib.hid (TextAt.fr0 HPB.out.1 F8)
    have q1:(W.alloc (.cells #[.int .i64 (f:Nat),.int .i64 (m:Nat)] TSp)).cell? ⟨p,0,none⟩ = some (.slice (some ad) (k + 1) d):=((F8.alloc _).cell (World.block_lt_of_cell? wb _ c1) (by simp)).trans c1
    clear F8
    have HPS:Hid (∀ wa w2 A2 c2,Fr [] W wa → ORow w2 TSp 2 A2 c2 (k + 1 + 1) (spc (sp ++ [(a,n)]) ++ sp2 (f,m)) → Fr [bk (some ad)] wa w2 → (bk A2 = bk (some ad) ∨ bk A2 = some wa.heap.size) →
        TextAt (w2.setCell ⟨p,0,none⟩ (.slice A2 (k + 1 + 1) c2)) p A2 c2 (sp ++ [(a,n)] ++ [(f,m)]) r ∧ Fr [some p,bk (some ad)] W (w2.setCell ⟨p,0,none⟩ (.slice A2 (k + 1 + 1) c2)) ∧ (bk A2 = bk (some ad) ∨ ∃ j,bk A2 = some j ∧ W.heap.size ≤ j)):=by
      show ∀ _,_
      intro wa w2 A2 c2 h1 h2 h3 h4
      have hkl:k + 1 = (sp ++ [(a,n)]).length:=by rw [List.length_append,HE.out.1]; rfl
      rw [hkl] at h2 ⊢
      exact text_push (x:=(f,m)) HPW.out h1 h2 h3 h4
    have HOW:Hid (ORow W TSp 2 (some ad) d (k + 1) (spc (sp ++ [(a,n)]))):=by
      have hkl:k + 1 = (sp ++ [(a,n)]).length:=by rw [List.length_append,HE.out.1]; rfl
      rw [hkl]
      exact HPW.out.2.1
    have HPC:Hid (∀ wa w2,Fr [] W wa → Fr [bk (some ad)] wa w2 → w2.cell? ⟨p,0,none⟩ = some (.slice (some ad) (k + 1) d) ∧ w2.frozen? ⟨p,0,none⟩ = false ∧ p < w2.heap.size):=by
      show ∀ _,_
      intro wa w2 h1 h2
      have hkl:k + 1 = (sp ++ [(a,n)]).length:=by rw [List.length_append,HE.out.1]; rfl
      rw [hkl]
      exact text_cells HPW.out h1 h2
    go_wp2_with fail
    go_region_law (
      (refine step_app _ (by rfl) _ _ 120 TSp (by rfl) (Value.agg #[.int .i64 0,.int .i64 0]) 2 16 Tryz.underlying120 infoSp rfl (by decide) (some ad) d (k + 1) (spc (sp ++ [(a,n)])) (by rfl) (ORow.fr HOW.out (((Fr.refl [] W).alloc _).drew) (.inr List.not_mem_nil)) _ 1 1 (sp2 (f,m)) (by rfl) rfl (sl_span W (f,m) TSp) (spc_one [(f,m)]) (by simp only [maxLen]; omega) (by omega) ?_
       intro A2 c2 w3 hr2 hg2 hb2
       have HPU:=Lib.hid (HPS.out _ _ _ _ ((Fr.refl [] W).alloc _).drew hr2 hg2 hb2)
       have k0:=(HPC.out _ _ ((Fr.refl [] W).alloc _).drew hg2).1
       have k1:=(HPC.out _ _ ((Fr.refl [] W).alloc _).drew hg2).2.1
       have k2:=(HPC.out _ _ ((Fr.refl [] W).alloc _).drew hg2).2.2))
  all_goals
    refine bodyPost_ret (results_none rfl _ _ _) rfl ?_
    exact textapart_ans HPB.out.2 HF8.out HE.out HPU.out
end Go.Proofs.YteohomdiklkbfaaGreat
namespace Go.Proofs.Dm
open Go.RowKit
theorem sl_elem {α:Type} {f:α → List Value} {sz:Nat} (hf:∀ x,(f x).length = sz) {w:World} {A:Option Addr} {xs:List α} (h:Sl w A (xs.flatMap f)) {j:Nat} (hj:j < xs.length) (hsz:0 < sz) :
    ∃ ad:Addr,A = some ad ∧ (∀ u,(f xs[j])[0]? = some u → w.cell? (ad.add (j * sz)) = some u) ∧ ∀ k u,(f xs[j])[k + 1]? = some u → w.cell? ⟨(ad.add (j * sz)).block,(ad.add (j * sz)).off + (k + 1),none⟩ = some u:=by
  have key:∀ k u,(f xs[j])[k]? = some u → (xs.flatMap f)[j * sz + k]? = some u:=fun k u hu => by
    rw [← List.getElem?_drop,← enc_drop hf,List.drop_eq_getElem_cons hj,List.flatMap_cons,List.getElem?_append_left]
    · exact hu
    · rcases Nat.lt_or_ge k (f xs[j]).length with h | h
      · exact h
      · rw [List.getElem?_eq_none h] at hu; cases hu
  have hadd:∀ (a:Addr) (i k:Nat),a.add (i + (k + 1)) = ⟨(a.add i).block,(a.add i).off + (k + 1),none⟩:=by
    intro a i k
    unfold Addr.add
    by_cases hi:i = 0 <;> simp [hi] <;> omega
  rcases h with h | ⟨ad,rfl,hc⟩
  · have h0:=key 0 ((f xs[j])[0]'(by rw [hf]; exact hsz)) (List.getElem?_eq_getElem _)
    rw [h] at h0; simp at h0
  · refine ⟨ad,rfl,fun u hu => by simpa using hc _ _ (key 0 u hu),fun k u hu => ?_⟩
    rw [← hadd]
    exact hc _ _ (key (k + 1) u hu)
end Go.Proofs.Dm
namespace Go.Proofs.YteohomdiklkbfaaGreat
open Go.RowKit Go.Proofs.Dm

theorem with_none (w:World) (p N d q f:Nat) (B:Option Addr) (sp:List (Nat × Nat)) (h:TextAt w p B d sp q) (hs:∀ x ∈ sp,1 ≤ x.2 ∧ x.1 + x.2 ≤ N) :
    Calls Tryz.prog 133 #[.pointer (some ⟨p,0,none⟩),.agg #[.int .i64 (f:Nat),.int .i64 (0:Nat)]] w (WithAns w p N B sp q f 0):=by
  have HEND:Hid (WithAns w p N B sp q f 0 (.returned (.tuple #[])) (w.alloc (.cells #[.int .i64 (f:Nat),.int .i64 (0:Nat)] TSp))) :=
    ⟨B,d,sp,rfl,h.fr0 ((Fr.refl [] w).alloc _),by simp,hs,by omega,(Fr.refl _ w).alloc _,.inl rfl⟩
  clear h hs
  go_enter Tryz.func133,Tryz.ntmps133
  go_wp2_with fail
  exact bodyPost_ret (results_none rfl _ _ _) rfl HEND.out
theorem with_any (w:World) (p N d q f m:Nat) (B:Option Addr) (sp:List (Nat × Nat)) (h:TextAt w p B d sp q) (hs:∀ x ∈ sp,1 ≤ x.2 ∧ x.1 + x.2 ≤ N) (hN:f + m ≤ N) (hn:N ≤ 1000000) (hl:sp.length ≤ 1000000) (hq:q + m ≤ 1000000) :
    Calls Tryz.prog 133 #[.pointer (some ⟨p,0,none⟩),.agg #[.int .i64 (f:Nat),.int .i64 (m:Nat)]] w (WithAns w p N B sp q f m):=by
  rcases Nat.eq_zero_or_pos m with rfl | hm
  · exact with_none w p N d q f B sp h hs
  · rcases List.eq_nil_or_concat sp with rfl | ⟨sp0,⟨a,n⟩,rfl⟩
    · exact with_first w p N d q f m B h hm hN hn hq
    · rw [List.concat_eq_append] at h hs hl ⊢
      obtain ⟨g,rfl⟩:=ORow.form_ h.2.1 (by simp)
      have hl':sp0.length ≤ 1000000:=by simp at hl; omega
      rcases Nat.decEq f (a + n) with he | he
      · exact with_apart w p N d a n f m q _ sp0 h hs he hm hN hn hl' hq ⟨g,rfl⟩
      · exact with_join w p N d a n f m q _ sp0 h hs he hm hN hn hl' hq ⟨g,rfl⟩
def TextAns (w:World) (N:Nat) (P:List Nat) (en:Ending) (w':World):Prop :=
  ∃ (B:Option Addr) (d m:Nat) (sp:List (Nat × Nat)) (q:Nat),en = .returned (.agg #[.slice B m d,.int .i64 (q:Nat)]) ∧ m = sp.length ∧ ORow w' TSp 2 B d sp.length (spc sp) ∧ plc sp = P ∧ q = P.length ∧ (∀ x ∈ sp,1 ≤ x.2 ∧ x.1 + x.2 ≤ N) ∧ sp.length ≤ q ∧ Fr [] w w' ∧ ∀ j,bk B = some j → w.heap.size ≤ j
theorem plc_len (sp:List (Nat × Nat)) (h:∀ x ∈ sp,1 ≤ x.2):sp.length ≤ (plc sp).length:=by
  induction sp with
  | nil => simp
  | cons x sp ih =>
    have h1:=h x (List.mem_cons_self ..)
    have h2:=ih fun y hy => h y (List.mem_cons_of_mem _ hy)
    rw [show plc (x :: sp) = List.range' x.1 x.2 ++ plc sp by simp [plc],List.length_append,List.length_range',List.length_cons]
    omega
structure OS (w0 w:World) (p N:Nat) (sps:List (Nat × Nat)) (j:Nat) (B:Option Addr) (d:Nat) (sp:List (Nat × Nat)) (q:Nat):Prop where
  t:TextAt w p B d sp q
  pl:plc sp = plc (sps.take j)
  q:q = (plc (sps.take j)).length
  bd:∀ x ∈ sp,1 ≤ x.2 ∧ x.1 + x.2 ≤ N
  ln:sp.length ≤ j
  fr:Fr [] w0 w
  pn:w0.heap.size ≤ p
  bn:∀ k,bk B = some k → w0.heap.size ≤ k
section
variable {w0 w w':World} {p N j d q:Nat} {B:Option Addr} {sps sp:List (Nat × Nat)}
theorem OS.fr0 (h:OS w0 w p N sps j B d sp q) (hf:Fr [] w w'):OS w0 w' p N sps j B d sp q:=⟨h.t.fr0 hf,h.pl,h.q,h.bd,h.ln,h.fr.trans hf,h.pn,h.bn⟩
theorem OS.step {e:Ending} {f m:Nat} (h:OS w0 w p N sps j B d sp q) (hj:j < sps.length) (hx:sps[j] = (f,m)) (ha:WithAns w p N B sp q f m e w') :
    e = .returned (.tuple #[]) ∧ ∃ B' d' sp' q',OS w0 w' p N sps (j + 1) B' d' sp' q':=by
  obtain ⟨B',d',sp',rfl,h1,h2,h3,h4,h5,h6⟩:=ha
  have ht:sps.take (j + 1) = sps.take j ++ [(f,m)]:=by rw [List.take_succ_eq_append_getElem hj,hx]
  have hp:plc (sps.take (j + 1)) = plc (sps.take j) ++ List.range' f m:=by rw [ht,plc_app,plc_one]
  refine ⟨rfl,B',d',sp',q + m,h1,by rw [hp,h2,h.pl],by rw [hp,List.length_append,List.length_range',← h.q],h3,by have:=h.ln; omega,?_,h.pn,?_⟩
  · refine h.fr.seq h5 fun x hx => ?_
    rcases List.mem_cons.1 hx with rfl | hx
    · exact .inr (.inr ⟨p,h.pn,rfl⟩)
    · rw [List.mem_singleton] at hx
      subst hx
      cases hb:bk B with
      | none => exact .inr (.inl rfl)
      | some j => exact .inr (.inr ⟨j,h.bn j hb,rfl⟩)
  · intro k hk
    rcases h6 with h6 | ⟨j,hj,hl⟩
    · exact h.bn k (h6 ▸ hk)
    · rw [hj] at hk; injection hk with hk; have:=h.fr.size; omega
theorem OS.fin {W1:World} {b n:Nat} (h:OS W1 w p N sps j B d sp q) (hj:sps.length ≤ j) (h0:Fr [] w0 W1) (hb:b < W1.heap.size) (hb0:w0.heap.size ≤ b) (hw:Fr [some b] w w') (hn:n = sp.length):TextAns w0 N (plc sps) (.returned (.agg #[.slice B n d,.int .i64 (q:Nat)])) w':=by
  subst hn
  have hpl:=h.pl
  have hq:=h.q
  have hs:=h0.size
  rw [List.take_of_length_le hj] at hpl hq
  refine ⟨B,d,sp.length,sp,q,rfl,rfl,ORow.fr h.t.2.1 hw ?_,hpl,hq,h.bd,by rw [hq,← hpl]; exact plc_len sp fun x hx => (h.bd x hx).1,(h0.trans h.fr).seq hw fun x hx => ?_,fun k hk => Nat.le_trans hs (h.bn k hk)⟩
  · cases hB:bk B with
    | none => exact .inl rfl
    | some j => exact .inr fun e => by rw [List.mem_singleton] at e; injection e with e; have:=h.bn j hB; omega
  · rw [List.mem_singleton] at hx
    exact .inr (.inr ⟨_,hb0,hx⟩)
end
set_option maxRecDepth 100000 in
set_option maxHeartbeats 1600000 in
theorem textof_any (w:World) (N n c:Nat) (A:Option Addr) (sps:List (Nat × Nat)) (hA:Sl w A (spc sps)) (hl:n = sps.length) (hs:∀ x ∈ sps,1 ≤ x.2 ∧ x.1 + x.2 ≤ N) (hN:N ≤ 1000000) (hp:(plc sps).length ≤ 1000000) :
    Calls Tryz.prog 121 #[.slice A n c] w (TextAns w N (plc sps)):=by
  have HA:=Lib.hid hA
  have HS:=Lib.hid hs
  have HN:=Lib.hid hN
  have HP:=Lib.hid hp
  have HL:=Lib.hid hl
  have hn1:(n:Int) ≤ 1000000:=by have:=plc_len sps fun x hx => (hs x hx).1; omega
  have HW:Hid (∀ W0,W0 = (w.alloc (.cells #[.slice none 0 0,.int .i64 0] TTx)).alloc (.cells #[.slice none 0 0,.int .i64 0] TTx) → ∃ W1,Fr [] w W1 ∧ Blk W1 w.heap.size TTx #[.slice none 0 0,.int .i64 0] ∧ OS W1 W0 (w.heap.size + 1) N sps 0 none 0 [] 0):=by
    show ∀ _,_
    rintro W0 rfl
    have b1:=Blk.new (w.alloc (.cells #[.slice none 0 0,.int .i64 0] TTx)) TTx #[.slice none 0 0,.int .i64 0]
    rw [show (w.alloc (.cells #[.slice none 0 0,.int .i64 0] TTx)).heap.size = w.heap.size + 1 by simp] at b1
    exact ⟨_,(Fr.refl [] w).alloc _,Blk.new w TTx _,⟨b1,ORow.nil_ _ _ _,by simp [bk]⟩,rfl,rfl,fun x hx => by simp at hx,Nat.le_refl _,(Fr.refl [] _).alloc _,by simp,fun k hk => by cases hk⟩
  clear hA hs hN hp hl
  go_enter Tryz.func121,Tryz.ntmps121
  go_wp2_with fail
  obtain ⟨W0,hW0⟩:∃ W0,W0 = (w.alloc (.cells #[.slice none 0 0,.int .i64 0] TTx)).alloc (.cells #[.slice none 0 0,.int .i64 0] TTx):=⟨_,rfl⟩
  obtain ⟨W1,HF1,HB1,hO⟩:=HW.out W0 hW0
  rw [← hW0]
  obtain ⟨p,hp⟩:∃ p,p = w.heap.size + 1:=⟨_,rfl⟩
  rw [← hp] at hO ⊢
  have HO:=Lib.hid hO
  have HW1:Hid (Fr [] w W1 ∧ Blk W1 w.heap.size TTx #[.slice none 0 0,.int .i64 0]):=⟨HF1,HB1⟩
  clear hW0 hp hO HF1 HB1 HW
  go_loopw [8] (fun iv wr => ∃ (j:Nat) (B:Option Addr) (d:Nat) (sp:List (Nat × Nat)) (q:Nat),iv = .int .i64 j ∧ j ≤ n ∧ Hid (OS W1 wr p N sps j B d sp q)) (fun iv _ => n - (intOf iv).toNat)
  case atStart => exact ⟨0,_,_,_,_,rfl,Nat.zero_le _,HO.out⟩
  case round =>
    clear HO
    obtain ⟨j,B,d,sp,q,rfl,hj,HO⟩:=hrel
    by_cases hlt:j < n
    · have hjl:j < sps.length:=by rw [← HL.out]; exact hlt
      obtain ⟨ad,rfl,e0,e1⟩:=sl_elem (f:=sp2) (sz:=2) (fun _ => rfl) (HA.out.fr (HW1.out.1.trans HO.out.fr) (.inr List.not_mem_nil)) hjl (by omega)
      obtain ⟨⟨f,m⟩,hfm⟩:∃ x,x = sps[j]:=⟨_,rfl⟩
      rw [← hfm] at e0 e1
      have e0':wr.cell? (ad.add (j * 2)) = some (.int .i64 (f:Nat)):=e0 _ rfl
      have e1':wr.cell? ⟨(ad.add (j * 2)).block,(ad.add (j * 2)).off + 1,none⟩ = some (.int .i64 (m:Nat)):=e1 0 _ rfl
      have HX:Hid (sps[j]? = some (f,m)):=by show _ = _; rw [List.getElem?_eq_getElem hjl,hfm]
      have HC:Hid (∀ w',Fr [] wr w' → Calls Tryz.prog 133 #[.pointer (some ⟨p,0,none⟩),.agg #[.int .i64 (f:Nat),.int .i64 (m:Nat)]] w' (fun e w'' => e = .returned (.tuple #[]) ∧ ∃ B' d' sp' q',OS W1 w'' p N sps (j + 1) B' d' sp' q')):=by
        show ∀ _,_
        intro w' hf
        have h:=HO.out.fr0 hf
        have hb:=HS.out _ (List.getElem_mem hjl)
        rw [← hfm] at hb
        have hq:q + m ≤ (plc sps).length:=by
          have e:=congrArg (fun l => (plc l).length) (List.take_append_drop (j + 1) sps)
          rw [List.take_succ_eq_append_getElem hjl,← hfm] at e
          simp only [plc_app,plc_one,List.length_append,List.length_range'] at e
          rw [h.q]; omega
        refine (with_any w' p N d q f m B sp h.t h.bd hb.2 HN.out (by have:=h.ln; have:=HP.out; omega) (by have:=HP.out; omega)).mono ?_
        intro e w'' ha
        exact h.step hjl hfm.symm ha
      clear e0 e1 hfm hjl
      go_wp2_with fail
      refine (HC.out _ ?_).mono ?_
      · exact (Fr.refl [] wr).alloc _
      rintro e w2 ⟨rfl,B',d',sp',q',h2⟩
      have HO2:=Lib.hid h2
      clear h2 HC
      go_wp2_with fail
      go_roundw
      case rel => exact ⟨j + 1,B',d',sp',q',by go_num,by omega,HO2.out⟩
      case measure => simp [intOf]; omega
    · obtain ⟨m,hm⟩:∃ m,m = sp.length:=⟨_,rfl⟩
      have HM:=Lib.hid hm
      have ct:=HO.out.t.1
      rw [← hm] at ct
      have r1:=HW1.out.2.fr HO.out.fr (by simp)
      have c0:wr.cell? ⟨p,0,none⟩ = some (.slice B m d):=ct.cell 0
      have c1:wr.cell? ⟨p,1,none⟩ = some (.int .i64 (q:Nat)):=ct.cell 1
      have d0:wr.cell? ⟨w.heap.size,0,none⟩ = some (.slice none 0 0):=r1.cell 0
      have d1:wr.cell? ⟨w.heap.size,1,none⟩ = some (.int .i64 0):=r1.cell 1
      have z0:=r1.frozen 0
      have z1:=r1.frozen 1
      have l1:=r1.lt
      have HEND:Hid (∀ w',Fr [some w.heap.size] wr w' → TextAns w N (plc sps) (.returned (.agg #[.slice B m d,.int .i64 (q:Nat)])) w'):=by
        show ∀ _,_
        intro w' hf
        exact HO.out.fin (by have:=HL.out; omega) HW1.out.1 HW1.out.2.lt (Nat.le_refl _) hf HM.out
      clear hm ct r1
      go_wp2_with fail
      refine bodyPost_ret (v:=.agg #[.slice B m d,.int .i64 (q:Nat)]) (by simp [results,Tryz.results121,go_sem, *]) rfl ?_
      exact HEND.out _ (((Fr.refl [some w.heap.size] wr).setB (fun _ => by simp) _ _).setB (fun _ => by simp) _ _)
end Go.Proofs.YteohomdiklkbfaaGreat
