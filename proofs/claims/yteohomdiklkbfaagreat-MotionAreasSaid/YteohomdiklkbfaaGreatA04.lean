import Derived.Test.YteohomdiklkbfaaGreatA03
import Derived.Deep.RegionLaw
import Derived.Deep.RegionHeld3
namespace Go.Proofs.YteohomdiklkbfaaGreat
open Go.RowKit Go.Proofs.Dm

theorem ORow.set_ {w:World} {e:TypeId} {sz c n g:Nat} {cs:List Value} (h:ORow w e sz (some ⟨g,0,none⟩) c n cs) (i:Nat) (u:Value):ORow (w.setCell ⟨g,i,none⟩ u) e sz (some ⟨g,0,none⟩) c n (cs.set i u):=by
  refine ⟨by rw [List.length_set]; exact h.1,?_⟩
  rcases h.2 with ⟨he,_⟩ | ⟨g',cap,cur,he,hb,hgg,h1,h2,h3,h4⟩
  · cases he
  · injection he with he _ hc
    injection he with he
    injection he with he _ _
    subst he
    subst hc
    exact .inr ⟨g,c,cur.setIfInBounds i u,rfl,hb,Blk.set_ hgg i u,h1,h2,by simp [h3],by rw [Array.toList_setIfInBounds,List.take_set,h4]⟩
theorem ORow.form_ {w:World} {e:TypeId} {sz c n:Nat} {A:Option Addr} {cs:List Value} (h:ORow w e sz A c n cs) (hn:0 < n):∃ g,A = some ⟨g,0,none⟩:=by
  rcases h.2 with ⟨_,h0⟩ | ⟨g,cap,cur,he,_⟩
  · omega
  · injection he with he _ _
    exact ⟨g,he⟩
theorem add_next {ad:Addr} (hg:∃ g,ad = ⟨g,0,none⟩) {i:Nat}:ad.add (i + 1) = ⟨(ad.add i).block,(ad.add i).off + 1,none⟩:=by
  obtain ⟨g,rfl⟩:=hg
  cases i <;> simp [Addr.add]
theorem add_lit (g i:Nat):(⟨g,0,none⟩:Addr).add i = ⟨g,i,none⟩:=by
  cases i <;> simp [Addr.add]
theorem ORow.blk {w:World} {e:TypeId} {sz c n g:Nat} {cs:List Value} (h:ORow w e sz (some ⟨g,0,none⟩) c n cs):∃ cur,Blk w g e cur:=by
  rcases h.2 with ⟨he,_⟩ | ⟨g',cap,cur,he,hb,hgg,_⟩
  · cases he
  · injection he with he _ _
    injection he with he
    injection he with he _ _
    subst he
    exact ⟨cur,hgg⟩
theorem join_set {W:World} {d k g a n q:Nat} {sp:List (Nat × Nat)} (hk:k = sp.length) (h:ORow W TSp 2 (some ⟨g,0,none⟩) d (sp ++ [(a,n)]).length (spc (sp ++ [(a,n)]))) :
    ORow ((W.setCell ((⟨g,0,none⟩:Addr).add (k * 2)) (.int .i64 (a:Nat))).setCell ⟨((⟨g,0,none⟩:Addr).add (k * 2)).block,((⟨g,0,none⟩:Addr).add (k * 2)).off + 1,none⟩ (.int .i64 (q:Nat))) TSp 2 (some ⟨g,0,none⟩) d (sp ++ [(a,q)]).length (spc (sp ++ [(a,q)])) ∧ Fr [some g] W ((W.setCell ((⟨g,0,none⟩:Addr).add (k * 2)) (.int .i64 (a:Nat))).setCell ⟨((⟨g,0,none⟩:Addr).add (k * 2)).block,((⟨g,0,none⟩:Addr).add (k * 2)).off + 1,none⟩ (.int .i64 (q:Nat))):=by
  rw [add_lit]
  refine ⟨?_,((Fr.refl _ W).setB (by simp) _ _).setB (by simp) _ _⟩
  have h2:=ORow.set_ (ORow.set_ h (k * 2) (.int .i64 (a:Nat))) (k * 2 + 1) (.int .i64 (q:Nat))
  have e1:(sp ++ [(a,q)]).length = (sp ++ [(a,n)]).length:=by simp
  have e2:spc (sp ++ [(a,q)]) = ((spc (sp ++ [(a,n)])).set (k * 2) (.int .i64 (a:Nat))).set (k * 2 + 1) (.int .i64 (q:Nat)):=by
    have hl:(spc sp).length = k * 2:=by rw [spc_len,hk]
    rw [spc_app,spc_app,List.set_append_right _ _ (by omega),List.set_append_right _ _ (by omega)]
    rw [hl,Nat.sub_self,show k * 2 + 1 - k * 2 = 1 by omega]
    rfl
  rw [e1,e2]
  exact h2
theorem plc_join (sp:List (Nat × Nat)) (a n m:Nat):plc (sp ++ [(a,n + m)]) = plc (sp ++ [(a,n)]) ++ List.range' (a + n) m:=by
  rw [plc_app,plc_app,plc_one,plc_one,List.append_assoc]
  congr 1
  rw [List.range'_append_1]
theorem join_ans {w wb W:World} {p N d a n f t m q k:Nat} {ad:Addr} {sp:List (Nat × Nat)} (hg:∃ g,ad = ⟨g,0,none⟩) (hP:PartsAt wb p (some ad) d (sp ++ [(a,n)])) (hfr:Fr [] w wb) (hW:Fr [] wb W)
    (hE:f = a + n ∧ m = t - f ∧ q = n + m ∧ k = sp.length ∧ ∀ x ∈ sp ++ [(a,n)],1 ≤ x.2 ∧ x.1 + x.2 ≤ N) (ht:f < t) (hN:t ≤ N) :
    AddAns w p N (some ad) (sp ++ [(a,n)]) f t (.returned (.tuple #[])) ((W.setCell (ad.add (k * 2)) (.int .i64 (a:Nat))).setCell ⟨(ad.add (k * 2)).block,(ad.add (k * 2)).off + 1,none⟩ (.int .i64 (q:Nat))).drew:=by
  obtain ⟨g,rfl⟩:=hg
  obtain ⟨rfl,rfl,rfl,hk,hs⟩:=hE
  obtain ⟨r1,r2⟩:=join_set (q:=n + (t - (a + n))) hk (ORow.fr hP.2.1 hW (.inr List.not_mem_nil))
  have hgp:some p ∉ [some g]:=fun h => by
    rw [List.mem_singleton] at h
    exact hP.2.2 h.symm
  have hb:=(hP.1.fr hW (by simp)).fr r2 hgp
  refine ⟨_,d,sp ++ [(a,n + (t - (a + n)))],rfl,⟨?_,?_,hP.2.2⟩,?_,?_,?_,?_,.inl rfl⟩
  · have e:(sp ++ [(a,n + (t - (a + n)))]).length = (sp ++ [(a,n)]).length:=by simp
    rw [e]
    exact hb.drew
  · exact ORow.fr r1 ((Fr.refl [] _).drew) (.inr List.not_mem_nil)
  · exact plc_join sp a n _
  · intro x hx
    rcases List.mem_append.1 hx with h | h
    · exact hs x (List.mem_append.2 (.inl h))
    · rw [List.mem_singleton] at h
      subst h
      have:=hs (a,n) (List.mem_append.2 (.inr (List.mem_singleton.2 rfl)))
      simp only at this ⊢
      omega
  · simp
  · exact ((hfr.trans hW).of_nil.trans (r2.weaken fun i _ hi => by rw [List.mem_singleton] at hi; rw [hi]; exact List.mem_cons_of_mem _ (List.mem_singleton.2 rfl))).drew
set_option maxRecDepth 100000 in
set_option maxHeartbeats 1600000 in
theorem add_join (w:World) (p N d a n t:Nat) (ad:Addr) (sp:List (Nat × Nat)) (h:PartsAt w p (some ad) d (sp ++ [(a,n)])) (hs:∀ x ∈ sp ++ [(a,n)],1 ≤ x.2 ∧ x.1 + x.2 ≤ N) (ht:a + n < t) (hN:t ≤ N) (hn:N ≤ 1000000) (hl:sp.length ≤ 1000000) (hg:∃ g,ad = ⟨g,0,none⟩) :
    Calls Tryz.prog 142 #[.pointer (some ⟨p,0,none⟩),.int .i64 ((a + n:Nat):Int),.int .i64 (t:Nat)] w (AddAns w p N (some ad) (sp ++ [(a,n)]) (a + n) t):=by
  obtain ⟨f,hf⟩:∃ f,f = a + n:=⟨_,rfl⟩
  obtain ⟨m,hm⟩:∃ m,m = t - f:=⟨_,rfl⟩
  obtain ⟨q,hq⟩:∃ q,q = n + m:=⟨_,rfl⟩
  obtain ⟨k,hk⟩:∃ k,k = sp.length:=⟨_,rfl⟩
  have hlen:(sp ++ [(a,n)]).length = k + 1:=by simp [hk]
  have c0:w.cell? ⟨p,0,none⟩ = some (.slice (some ad) (k + 1) d):=by rw [← hlen]; exact h.1.cell 0
  have hpl:=h.1.lt
  have HJ:Hid (∀ w,Calls Tryz.prog 144 #[.agg #[.int .i64 (a:Nat),.int .i64 (n:Nat)],.agg #[.int .i64 (f:Nat),.int .i64 (m:Nat)]] w fun e w' => e = .returned (.tuple #[.agg #[.int .i64 (a:Nat),.int .i64 (q:Nat)],.bool true]) ∧ Fr [] w w'):=by
    show ∀ _,_
    intro w
    rw [hf,hq]
    exact join_yes a n m w (by omega)
  have hsl:Sl w (some ad) (spc sp ++ sp2 (a,n)):=by
    have:=h.2.1.sl
    rwa [spc_app,show spc [(a,n)] = sp2 (a,n) by simp [spc]] at this
  have e0:w.cell? (ad.add (k * 2)) = some (.int .i64 (a:Nat)) ∧ w.cell? ⟨(ad.add (k * 2)).block,(ad.add (k * 2)).off + 1,none⟩ = some (.int .i64 (n:Nat)):=by
    rcases hsl with h0 | ⟨ad',had,hc⟩
    · simp [sp2] at h0
    · injection had with had
      subst had
      rw [← add_next hg]
      exact ⟨hc (k * 2) (.int .i64 (a:Nat)) (by rw [List.getElem?_append_right (by rw [spc_len,hk]; omega)]; simp [spc_len,hk,sp2]),hc (k * 2 + 1) (.int .i64 (n:Nat)) (by rw [List.getElem?_append_right (by rw [spc_len,hk]; omega)]; simp [spc_len,hk,sp2])⟩
  obtain ⟨e0,e1⟩:=e0
  have hf0:f < t:=by omega
  have h1:¬ (t:Int) ≤ (f:Int):=by omega
  have hsub:(t:Int) - (f:Int) = (m:Int):=by omega
  have hf1:(f:Int) ≤ 1000000:=by omega
  have ht1:(t:Int) ≤ 1000000:=by omega
  have hk1:((k:Int) + 1) - 1 = (k:Int):=by omega
  have hk2:(k:Int) ≤ 1000000:=by omega
  have hk3:(k:Int) < (k:Int) + 1:=by omega
  have HP:=Lib.hid h
  have HE:Hid (f = a + n ∧ m = t - f ∧ q = n + m ∧ k = sp.length ∧ ∀ x ∈ sp ++ [(a,n)],1 ≤ x.2 ∧ x.1 + x.2 ≤ N):=⟨hf,hm,hq,hk,hs⟩
  rw [← hf] at ht ⊢
  clear h hsl hf hm hq hk hs hlen hl
  go_enter Tryz.func142,Tryz.ntmps142
  go_wp2_with fail
  have hbox:(w.alloc (.cells #[.int .i64 (f:Nat),.int .i64 (m:Nat)] TSp)).cell? ⟨w.heap.size,0,none⟩ = some (.int .i64 (f:Nat)) ∧ (w.alloc (.cells #[.int .i64 (f:Nat),.int .i64 (m:Nat)] TSp)).cell? ⟨w.heap.size,1,none⟩ = some (.int .i64 (m:Nat)):=⟨(Blk.new w TSp #[.int .i64 (f:Nat),.int .i64 (m:Nat)]).cell 0,(Blk.new w TSp #[.int .i64 (f:Nat),.int .i64 (m:Nat)]).cell 1⟩
  obtain ⟨wb,hwb⟩:∃ wb,wb = w.alloc (.cells #[.int .i64 (f:Nat),.int .i64 (m:Nat)] TSp):=⟨_,rfl⟩
  rw [← hwb] at hbox ⊢
  have HPB:Hid (PartsAt wb p (some ad) d (sp ++ [(a,n)]) ∧ Fr [] w wb):=by
    have hf:Fr [] w wb:=by rw [hwb]; exact (Fr.refl [] w).alloc _
    exact ⟨⟨HP.out.1.fr hf (by simp),ORow.fr HP.out.2.1 hf (.inr List.not_mem_nil),HP.out.2.2⟩,hf⟩
  obtain ⟨x0,x1⟩:=hbox
  have HFZ:Hid (∀ v:World,Fr [] wb v → v.frozen? (ad.add (k * 2)) = false ∧ v.frozen? ⟨(ad.add (k * 2)).block,(ad.add (k * 2)).off + 1,none⟩ = false ∧ (ad.add (k * 2)).block ≠ p ∧ ∀ u u2,v.cell? ⟨(ad.add (k * 2)).block,(ad.add (k * 2)).off + 1,none⟩ = some u2 → (v.setCell (ad.add (k * 2)) u).cell? ⟨(ad.add (k * 2)).block,(ad.add (k * 2)).off + 1,none⟩ = some u2):=by
    show ∀ _,_
    intro v hv
    obtain ⟨g,rfl⟩:=hg
    obtain ⟨cur,hb⟩:=ORow.blk HPB.out.1.2.1
    have hb':=hb.fr hv (by simp)
    rw [add_lit]
    refine ⟨hb'.frozen _,hb'.frozen _,fun e => HPB.out.1.2.2 (by rw [← e]; rfl),fun u u2 hu => ?_⟩
    rw [hb'.cell] at hu
    rw [(hb'.set_ (k * 2) u).cell,← hu]
    exact Array.getElem?_setIfInBounds_ne (show k * 2 ≠ k * 2 + 1 by omega)
  have hall:∀ v:World,Fr [] wb v → v.cell? ⟨p,0,none⟩ = some (.slice (some ad) (k + 1) d) ∧ v.cell? (ad.add (k * 2)) = some (.int .i64 (a:Nat)) ∧ v.cell? ⟨(ad.add (k * 2)).block,(ad.add (k * 2)).off + 1,none⟩ = some (.int .i64 (n:Nat)) ∧ v.cell? ⟨w.heap.size,0,none⟩ = some (.int .i64 (f:Nat)) ∧ v.cell? ⟨w.heap.size,1,none⟩ = some (.int .i64 (m:Nat)):=by
    intro v hv
    have hf:Fr [] w wb:=by rw [hwb]; exact (Fr.refl [] w).alloc _
    have key:∀ (q:Addr) (u:Value),w.cell? q = some u → v.cell? q = some u:=fun q u hq => ((hf.trans hv).cell (World.block_lt_of_cell? w q hq) (by simp)).trans hq
    have keb:∀ (q:Addr) (u:Value),wb.cell? q = some u → v.cell? q = some u:=fun q u hq => (hv.cell (World.block_lt_of_cell? wb q hq) (by simp)).trans hq
    exact ⟨key _ _ c0,key _ _ e0,key _ _ e1,keb _ _ x0,keb _ _ x1⟩
  have HALL:=Lib.hid hall
  obtain ⟨c1,e2,e3,x2,x3⟩:=hall wb (Fr.refl _ _)
  have n1:=World.new_ne wb _ c1
  have n2:=World.new_ne wb _ e2
  have n3:=World.new_ne wb _ x2
  clear hwb c0 hpl HP e0 e1 x0 x1 hall
  go_region_held3 (fun w' => w'.cell? ⟨p,0,none⟩ = some (.slice (some ad) (k + 1) d) ∧ w'.cell? (ad.add (k * 2)) = some (.int .i64 (a:Nat)) ∧ w'.cell? ⟨(ad.add (k * 2)).block,(ad.add (k * 2)).off + 1,none⟩ = some (.int .i64 (n:Nat)) ∧ w'.cell? ⟨w.heap.size,0,none⟩ = some (.int .i64 (f:Nat)) ∧ w'.cell? ⟨w.heap.size,1,none⟩ = some (.int .i64 (m:Nat))) (go_keep) ((go_at_call 144; go_must (
      refine (HJ.out _).mono ?_
      rintro e w2 ⟨rfl,hf2⟩
      first
        | have HF2:Hid (Fr [] wb w2):=((Fr.refl [] wb).drew).trans hf2
        | (have HF2:Hid (Fr [] wb w2):=(((Fr.refl [] wb).drew).alloc _).trans hf2
           have HB:Hid (Blk w2 wb.heap.size TSp #[.int .i64 0,.int .i64 0]):=(Blk.new wb.drew TSp #[.int .i64 0,.int .i64 0]).fr hf2 (by simp)
           have y0:=HB.out.cell 0
           have y1:=HB.out.cell 1
           have y2:=HB.out.frozen 0
           have y3:=HB.out.frozen 1)
      obtain ⟨c4,e4,e5,x4,x5⟩:=HALL.out w2 HF2.out
      have n4:=World.new_ne w2 _ c4
      have n5:=World.new_ne w2 _ e4
      have n6:=World.new_ne w2 _ x4)))
  all_goals
    first
      | (have F8:Fr [] wb ((w2.setCell ⟨wb.heap.size,0,none⟩ (.int .i64 (a:Nat))).setCell ⟨wb.heap.size,1,none⟩ (.int .i64 (q:Nat))):=(HF2.out.setB (fun h => absurd h (Nat.lt_irrefl _)) _ _).setB (fun h => absurd h (Nat.lt_irrefl _)) _ _
         have B8:Blk ((w2.setCell ⟨wb.heap.size,0,none⟩ (.int .i64 (a:Nat))).setCell ⟨wb.heap.size,1,none⟩ (.int .i64 (q:Nat))) wb.heap.size TSp #[.int .i64 (a:Nat),.int .i64 (q:Nat)]:=(HB.out.set_ 0 (.int .i64 (a:Nat))).set_ 1 (.int .i64 (q:Nat))
         have N8:wb.heap.size ≠ (ad.add (k * 2)).block:=n2
         revert F8 B8 N8
         generalize (w2.setCell ⟨wb.heap.size,0,none⟩ (.int .i64 (a:Nat))).setCell ⟨wb.heap.size,1,none⟩ (.int .i64 (q:Nat)) = W
         generalize wb.heap.size = y)
      | (have F8:Fr [] wb (w2.alloc (.cells #[.int .i64 (a:Nat),.int .i64 (q:Nat)] TSp)):=HF2.out.alloc _
         have B8:Blk (w2.alloc (.cells #[.int .i64 (a:Nat),.int .i64 (q:Nat)] TSp)) w2.heap.size TSp #[.int .i64 (a:Nat),.int .i64 (q:Nat)]:=Blk.new _ _ _
         have N8:w2.heap.size ≠ (ad.add (k * 2)).block:=n5
         revert F8 B8 N8
         generalize w2.alloc (.cells #[.int .i64 (a:Nat),.int .i64 (q:Nat)] TSp) = W
         generalize w2.heap.size = y)
    intro F8 B8 N8
    have N9:=N8.symm
    clear HF2
    obtain ⟨c8,e8,e9,x8,x9⟩:=HALL.out W F8
    obtain ⟨z8,z9,p8,s8⟩:=HFZ.out W F8
    have s9:=s8 (.int .i64 (a:Nat)) _ e9
    clear s8
    have y8:W.cell? ⟨y,0,none⟩ = some (.int .i64 (a:Nat)):=B8.cell 0
    have y9:W.cell? ⟨y,1,none⟩ = some (.int .i64 (q:Nat)):=B8.cell 1
    have HF8:=Lib.hid F8
    clear F8 B8
    go_wp2_with fail
    go_region_held3 (fun w' => w'.cell? ⟨p,0,none⟩ = some (.slice (some ad) (k + 1) d) ∧ w'.cell? ⟨y,0,none⟩ = some (.int .i64 (a:Nat)) ∧ w'.cell? ⟨y,1,none⟩ = some (.int .i64 (q:Nat))) (go_keep) (fail)
  all_goals
    go_wp2_with fail
    refine bodyPost_ret (results_none rfl _ _ _) rfl ?_
    exact join_ans hg HPB.out.1 HPB.out.2 HF8.out HE.out hf0 hN
end Go.Proofs.YteohomdiklkbfaaGreat
namespace Go.Proofs.YteohomdiklkbfaaGreat
open Go.RowKit Go.Proofs.Dm

theorem PartsAt.fr0 {w w':World} {p d:Nat} {B:Option Addr} {sp:List (Nat × Nat)} (h:PartsAt w p B d sp) (hf:Fr [] w w'):PartsAt w' p B d sp:=⟨h.1.fr hf (by simp),ORow.fr h.2.1 hf (.inr List.not_mem_nil),h.2.2⟩
theorem apart_ans {w wb W w2:World} {p N d2 a n f t m k:Nat} {B B2:Option Addr} {sp:List (Nat × Nat)} (hfr:Fr [] w wb) (hW:Fr [] wb W)
    (hE:m = t - f ∧ k = sp.length ∧ ∀ x ∈ sp ++ [(a,n)],1 ≤ x.2 ∧ x.1 + x.2 ≤ N) (ht:f < t) (hN:t ≤ N)
    (h:PartsAt w2 p B2 d2 (sp ++ [(a,n)] ++ [(f,m)]) ∧ Fr [some p,bk B] W w2 ∧ (bk B2 = bk B ∨ ∃ j,bk B2 = some j ∧ W.heap.size ≤ j)) :
    AddAns w p N B (sp ++ [(a,n)]) f t (.returned (.tuple #[])) w2:=by
  obtain ⟨rfl,hk,hs⟩:=hE
  obtain ⟨h1,h2,h3⟩:=h
  refine ⟨B2,d2,_,rfl,h1,by rw [plc_app _ [(f,t - f)],plc_one],fun x hx => ?_,by simp,(hfr.trans hW).of_nil.trans h2,?_⟩
  · rcases List.mem_append.1 hx with h | h
    · exact hs x h
    · rw [List.mem_singleton] at h
      subst h
      show 1 ≤ t - f ∧ f + (t - f) ≤ N
      omega
  · rcases h3 with h | ⟨j,hj,hle⟩
    · exact .inl h
    · exact .inr ⟨j,hj,Nat.le_trans (hfr.trans hW).size hle⟩
set_option maxRecDepth 100000 in
set_option maxHeartbeats 1600000 in
theorem add_apart (w:World) (p N d a n f t:Nat) (ad:Addr) (sp:List (Nat × Nat)) (h:PartsAt w p (some ad) d (sp ++ [(a,n)])) (hs:∀ x ∈ sp ++ [(a,n)],1 ≤ x.2 ∧ x.1 + x.2 ≤ N) (hne:f ≠ a + n) (ht:f < t) (hN:t ≤ N) (hn:N ≤ 1000000) (hl:sp.length ≤ 1000000) (hg:∃ g,ad = ⟨g,0,none⟩) :
    Calls Tryz.prog 142 #[.pointer (some ⟨p,0,none⟩),.int .i64 (f:Nat),.int .i64 (t:Nat)] w (AddAns w p N (some ad) (sp ++ [(a,n)]) f t):=by
  obtain ⟨m,hm⟩:∃ m,m = t - f:=⟨_,rfl⟩
  obtain ⟨k,hk⟩:∃ k,k = sp.length:=⟨_,rfl⟩
  have hlen:(sp ++ [(a,n)]).length = k + 1:=by simp [hk]
  have c0:w.cell? ⟨p,0,none⟩ = some (.slice (some ad) (k + 1) d):=by rw [← hlen]; exact h.1.cell 0
  have hpl:=h.1.lt
  have HJ:Hid (∀ w,Calls Tryz.prog 144 #[.agg #[.int .i64 (a:Nat),.int .i64 (n:Nat)],.agg #[.int .i64 (f:Nat),.int .i64 (m:Nat)]] w fun e w' => e = .returned (.tuple #[.agg #[.int .i64 0,.int .i64 0],.bool false]) ∧ Fr [] w w'):=by
    show ∀ _,_
    intro w
    have:=hs (a,n) (List.mem_append.2 (.inr (List.mem_singleton.2 rfl)))
    simp only at this
    exact join_no a n f m w (by omega) hne
  have hsl:Sl w (some ad) (spc sp ++ sp2 (a,n)):=by
    have:=h.2.1.sl
    rwa [spc_app,show spc [(a,n)] = sp2 (a,n) by simp [spc]] at this
  have e0:w.cell? (ad.add (k * 2)) = some (.int .i64 (a:Nat)) ∧ w.cell? ⟨(ad.add (k * 2)).block,(ad.add (k * 2)).off + 1,none⟩ = some (.int .i64 (n:Nat)):=by
    rcases hsl with h0 | ⟨ad',had,hc⟩
    · simp [sp2] at h0
    · injection had with had
      subst had
      rw [← add_next hg]
      exact ⟨hc (k * 2) (.int .i64 (a:Nat)) (by rw [List.getElem?_append_right (by rw [spc_len,hk]; omega)]; simp [spc_len,hk,sp2]),hc (k * 2 + 1) (.int .i64 (n:Nat)) (by rw [List.getElem?_append_right (by rw [spc_len,hk]; omega)]; simp [spc_len,hk,sp2])⟩
  obtain ⟨e0,e1⟩:=e0
  have hf0:f < t:=by omega
  have h1:¬ (t:Int) ≤ (f:Int):=by omega
  have hsub:(t:Int) - (f:Int) = (m:Int):=by omega
  have hf1:(f:Int) ≤ 1000000:=by omega
  have ht1:(t:Int) ≤ 1000000:=by omega
  have hk1:((k:Int) + 1) - 1 = (k:Int):=by omega
  have hk2:(k:Int) ≤ 1000000:=by omega
  have hk3:(k:Int) < (k:Int) + 1:=by omega
  have HP:=Lib.hid h
  have HE:Hid (m = t - f ∧ k = sp.length ∧ ∀ x ∈ sp ++ [(a,n)],1 ≤ x.2 ∧ x.1 + x.2 ≤ N):=⟨hm,hk,hs⟩
  clear h hsl hm hk hs hne hlen hl
  go_enter Tryz.func142,Tryz.ntmps142
  go_wp2_with fail
  have hbox:(w.alloc (.cells #[.int .i64 (f:Nat),.int .i64 (m:Nat)] TSp)).cell? ⟨w.heap.size,0,none⟩ = some (.int .i64 (f:Nat)) ∧ (w.alloc (.cells #[.int .i64 (f:Nat),.int .i64 (m:Nat)] TSp)).cell? ⟨w.heap.size,1,none⟩ = some (.int .i64 (m:Nat)):=⟨(Blk.new w TSp #[.int .i64 (f:Nat),.int .i64 (m:Nat)]).cell 0,(Blk.new w TSp #[.int .i64 (f:Nat),.int .i64 (m:Nat)]).cell 1⟩
  obtain ⟨wb,hwb⟩:∃ wb,wb = w.alloc (.cells #[.int .i64 (f:Nat),.int .i64 (m:Nat)] TSp):=⟨_,rfl⟩
  rw [← hwb] at hbox ⊢
  have HPB:Hid (PartsAt wb p (some ad) d (sp ++ [(a,n)]) ∧ Fr [] w wb):=by
    have hf:Fr [] w wb:=by rw [hwb]; exact (Fr.refl [] w).alloc _
    exact ⟨⟨HP.out.1.fr hf (by simp),ORow.fr HP.out.2.1 hf (.inr List.not_mem_nil),HP.out.2.2⟩,hf⟩
  obtain ⟨x0,x1⟩:=hbox
  have HFZ:Hid (∀ v:World,Fr [] wb v → v.frozen? (ad.add (k * 2)) = false ∧ v.frozen? ⟨(ad.add (k * 2)).block,(ad.add (k * 2)).off + 1,none⟩ = false ∧ (ad.add (k * 2)).block ≠ p ∧ ∀ u u2,v.cell? ⟨(ad.add (k * 2)).block,(ad.add (k * 2)).off + 1,none⟩ = some u2 → (v.setCell (ad.add (k * 2)) u).cell? ⟨(ad.add (k * 2)).block,(ad.add (k * 2)).off + 1,none⟩ = some u2):=by
    show ∀ _,_
    intro v hv
    obtain ⟨g,rfl⟩:=hg
    obtain ⟨cur,hb⟩:=ORow.blk HPB.out.1.2.1
    have hb':=hb.fr hv (by simp)
    rw [add_lit]
    refine ⟨hb'.frozen _,hb'.frozen _,fun e => HPB.out.1.2.2 (by rw [← e]; rfl),fun u u2 hu => ?_⟩
    rw [hb'.cell] at hu
    rw [(hb'.set_ (k * 2) u).cell,← hu]
    exact Array.getElem?_setIfInBounds_ne (show k * 2 ≠ k * 2 + 1 by omega)
  have hall:∀ v:World,Fr [] wb v → v.cell? ⟨p,0,none⟩ = some (.slice (some ad) (k + 1) d) ∧ v.cell? (ad.add (k * 2)) = some (.int .i64 (a:Nat)) ∧ v.cell? ⟨(ad.add (k * 2)).block,(ad.add (k * 2)).off + 1,none⟩ = some (.int .i64 (n:Nat)) ∧ v.cell? ⟨w.heap.size,0,none⟩ = some (.int .i64 (f:Nat)) ∧ v.cell? ⟨w.heap.size,1,none⟩ = some (.int .i64 (m:Nat)):=by
    intro v hv
    have hf:Fr [] w wb:=by rw [hwb]; exact (Fr.refl [] w).alloc _
    have key:∀ (q:Addr) (u:Value),w.cell? q = some u → v.cell? q = some u:=fun q u hq => ((hf.trans hv).cell (World.block_lt_of_cell? w q hq) (by simp)).trans hq
    have keb:∀ (q:Addr) (u:Value),wb.cell? q = some u → v.cell? q = some u:=fun q u hq => (hv.cell (World.block_lt_of_cell? wb q hq) (by simp)).trans hq
    exact ⟨key _ _ c0,key _ _ e0,key _ _ e1,keb _ _ x0,keb _ _ x1⟩
  have HALL:=Lib.hid hall
  obtain ⟨c1,e2,e3,x2,x3⟩:=hall wb (Fr.refl _ _)
  have n1:=World.new_ne wb _ c1
  have n2:=World.new_ne wb _ e2
  have n3:=World.new_ne wb _ x2
  clear hwb c0 hpl HP e0 e1 x0 x1 hall
  go_region_held3 (fun w' => w'.cell? ⟨p,0,none⟩ = some (.slice (some ad) (k + 1) d) ∧ w'.cell? (ad.add (k * 2)) = some (.int .i64 (a:Nat)) ∧ w'.cell? ⟨(ad.add (k * 2)).block,(ad.add (k * 2)).off + 1,none⟩ = some (.int .i64 (n:Nat)) ∧ w'.cell? ⟨w.heap.size,0,none⟩ = some (.int .i64 (f:Nat)) ∧ w'.cell? ⟨w.heap.size,1,none⟩ = some (.int .i64 (m:Nat))) (go_keep) ((go_at_call 144; go_must (
      refine (HJ.out _).mono ?_
      rintro e w2 ⟨rfl,hf2⟩
      first
        | have HF2:Hid (Fr [] wb w2):=((Fr.refl [] wb).drew).trans hf2
        | (have HF2:Hid (Fr [] wb w2):=(((Fr.refl [] wb).drew).alloc _).trans hf2
           have HB:Hid (Blk w2 wb.heap.size TSp #[.int .i64 0,.int .i64 0]):=(Blk.new wb.drew TSp #[.int .i64 0,.int .i64 0]).fr hf2 (by simp)
           have y0:=HB.out.cell 0
           have y1:=HB.out.cell 1
           have y2:=HB.out.frozen 0
           have y3:=HB.out.frozen 1)
      obtain ⟨c4,e4,e5,x4,x5⟩:=HALL.out w2 HF2.out
      have n4:=World.new_ne w2 _ c4
      have n5:=World.new_ne w2 _ e4
      have n6:=World.new_ne w2 _ x4)))
  all_goals
    first
      | (have F8:Fr [] wb ((w2.setCell ⟨wb.heap.size,0,none⟩ (.int .i64 0)).setCell ⟨wb.heap.size,1,none⟩ (.int .i64 0)):=(HF2.out.setB (fun h => absurd h (Nat.lt_irrefl _)) _ _).setB (fun h => absurd h (Nat.lt_irrefl _)) _ _
         have _hb:=HB.out
         revert F8
         generalize (w2.setCell ⟨wb.heap.size,0,none⟩ (.int .i64 0)).setCell ⟨wb.heap.size,1,none⟩ (.int .i64 0) = W)
      | (have F8:Fr [] wb (w2.alloc (.cells #[.int .i64 0,.int .i64 0] TSp)):=HF2.out.alloc _
         revert F8
         generalize w2.alloc (.cells #[.int .i64 0,.int .i64 0] TSp) = W)
    intro F8
    clear HF2
    obtain ⟨c8,e8,e9,x8,x9⟩:=HALL.out W F8
    have HF8:=Lib.hid F8
    have HPW:=Lib.hid (PartsAt.fr0 HPB.out.1 F8)
    have q1:(W.alloc (.cells #[.int .i64 (f:Nat),.int .i64 (m:Nat)] TSp)).cell? ⟨p,0,none⟩ = some (.slice (some ad) (k + 1) d):=((F8.alloc _).cell (World.block_lt_of_cell? wb _ c1) (by simp)).trans c1
    clear F8
    have HPS:Hid (∀ wa w2 A2 c2,Fr [] W wa → ORow w2 TSp 2 A2 c2 (k + 1 + 1) (spc (sp ++ [(a,n)]) ++ sp2 (f,m)) → Fr [bk (some ad)] wa w2 → (bk A2 = bk (some ad) ∨ bk A2 = some wa.heap.size) →
        PartsAt (w2.setCell ⟨p,0,none⟩ (.slice A2 (k + 1 + 1) c2)) p A2 c2 (sp ++ [(a,n)] ++ [(f,m)]) ∧ Fr [some p,bk (some ad)] W (w2.setCell ⟨p,0,none⟩ (.slice A2 (k + 1 + 1) c2)) ∧ (bk A2 = bk (some ad) ∨ ∃ j,bk A2 = some j ∧ W.heap.size ≤ j)):=by
      show ∀ _,_
      intro wa w2 A2 c2 h1 h2 h3 h4
      have hkl:k + 1 = (sp ++ [(a,n)]).length:=by rw [List.length_append,HE.out.2.1]; rfl
      rw [hkl] at h2 ⊢
      exact parts_push (x:=(f,m)) HPW.out h1 h2 h3 h4
    have HOW:Hid (ORow W TSp 2 (some ad) d (k + 1) (spc (sp ++ [(a,n)]))):=by
      have hkl:k + 1 = (sp ++ [(a,n)]).length:=by rw [List.length_append,HE.out.2.1]; rfl
      rw [hkl]
      exact HPW.out.2.1
    have HPC:Hid (∀ wa w2,Fr [] W wa → Fr [bk (some ad)] wa w2 → w2.cell? ⟨p,0,none⟩ = some (.slice (some ad) (k + 1) d) ∧ w2.frozen? ⟨p,0,none⟩ = false ∧ p < w2.heap.size):=by
      show ∀ _,_
      intro wa w2 h1 h2
      have hkl:k + 1 = (sp ++ [(a,n)]).length:=by rw [List.length_append,HE.out.2.1]; rfl
      rw [hkl]
      exact parts_cells HPW.out h1 h2
    go_wp2_with fail
    go_region_law (
      (refine step_app _ (by rfl) _ _ 227 TSp (by rfl) (Value.agg #[.int .i64 0,.int .i64 0]) 2 16 Tryz.underlying227 infoSp rfl (by decide) (some ad) d (k + 1) (spc (sp ++ [(a,n)])) (by rfl) (ORow.fr HOW.out (((Fr.refl [] W).alloc _).drew) (.inr List.not_mem_nil)) _ 1 1 (sp2 (f,m)) (by rfl) rfl (sl_span W (f,m) TSp) (spc_one [(f,m)]) (by simp only [maxLen]; omega) (by omega) ?_
       intro A2 c2 w3 hr2 hg2 hb2
       have HPU:=Lib.hid (HPS.out _ _ _ _ ((Fr.refl [] W).alloc _).drew hr2 hg2 hb2)
       have k0:=(HPC.out _ _ ((Fr.refl [] W).alloc _).drew hg2).1
       have k1:=(HPC.out _ _ ((Fr.refl [] W).alloc _).drew hg2).2.1
       have k2:=(HPC.out _ _ ((Fr.refl [] W).alloc _).drew hg2).2.2))
  all_goals
    refine bodyPost_ret (results_none rfl _ _ _) rfl ?_
    exact apart_ans HPB.out.2 HF8.out HE.out hf0 hN HPU.out
theorem add_any (w:World) (p N d f t:Nat) (B:Option Addr) (sp:List (Nat × Nat)) (h:PartsAt w p B d sp) (hs:∀ x ∈ sp,1 ≤ x.2 ∧ x.1 + x.2 ≤ N) (hN:t ≤ N) (hn:N ≤ 1000000) (hl:sp.length ≤ 1000000) :
    Calls Tryz.prog 142 #[.pointer (some ⟨p,0,none⟩),.int .i64 (f:Nat),.int .i64 (t:Nat)] w (AddAns w p N B sp f t):=by
  rcases Nat.lt_or_ge f t with ht | ht
  · rcases List.eq_nil_or_concat sp with rfl | ⟨sp0,⟨a,n⟩,rfl⟩
    · exact add_first w p N d f t B h ht hN hn
    · rw [List.concat_eq_append] at h hs hl ⊢
      obtain ⟨g,rfl⟩:=ORow.form_ h.2.1 (by simp)
      have hl':sp0.length ≤ 1000000:=by simp at hl; omega
      rcases Nat.decEq f (a + n) with he | he
      · exact add_apart w p N d a n f t _ sp0 h hs he ht hN hn hl' ⟨g,rfl⟩
      · subst he
        exact add_join w p N d a n t _ sp0 h hs ht hN hn hl' ⟨g,rfl⟩
  · exact add_nothing w p N d f t B sp h hs ht
end Go.Proofs.YteohomdiklkbfaaGreat
