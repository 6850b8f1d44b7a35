import Derived.Test.YtblafakafgediaaGreatF44
namespace Go.Proofs.YtblafakafgediaaGreat
open Go.RowKit Go.Proofs.Dm

theorem sl_new2 (w:World) (o:Obj) (v:Value) (t:TypeId):Sl ((w.alloc o).alloc (.cells #[v] t)) (some ⟨w.heap.size + 1,0,none⟩) [v]:=by
  have:=sl_new (w.alloc o) v t
  rwa [World.size_alloc] at this
structure IPt (W1 w:World) (l:List Int) (C:Option Addr) (c n:Nat):Prop where
  own:ORow w 3 1 C c n (intsV l)
  ln:n = l.length
  fr:Fr [] W1 w
  nw:∀ k,bk C = some k → W1.heap.size ≤ k
theorem IPt.nil_ (W:World):IPt W W [] none 0 0:=⟨ORow.nil_ W _ 1,rfl,Fr.refl _ _,fun k hk => (by cases hk)⟩
section
variable {W1 w w' wa w5:World} {l:List Int} {C C2:Option Addr} {c c2 n:Nat} {v:Int}
theorem IPt.fr0 (h:IPt W1 w l C c n) (hf:Fr [] w w'):IPt W1 w' l C c n:=⟨ORow.fr h.own hf (.inr List.not_mem_nil),h.ln,h.fr.trans hf,h.nw⟩
theorem IPt.add (h:IPt W1 w l C c n) (ha:Fr [] w wa) (hr:ORow w5 3 1 C2 c2 (n + 1) (intsV l ++ [.int .i64 v])) (hg:Fr [bk C] wa w5) (hb:bk C2 = bk C ∨ bk C2 = some wa.heap.size):IPt W1 w5 (l ++ [v]) C2 c2 (n + 1):=by
  have hs:=h.fr.size
  have hsa:=ha.size
  refine ⟨?_,by rw [List.length_append,h.ln]; rfl,(h.fr.trans ha).seq hg fun x hx => ?_,fun k hk => ?_⟩
  · unfold intsV at hr ⊢
    rw [List.map_append]
    exact hr
  · rw [List.mem_singleton] at hx
    subst hx
    cases hB:bk C with
    | none => exact .inr (.inl rfl)
    | some k => exact .inr (.inr ⟨k,h.nw k hB,rfl⟩)
  · rcases hb with e | e
    · exact h.nw k (e ▸ hk)
    · rw [e] at hk; injection hk with hk; omega
def IntsN (w:World) (l:List Int) (en:Ending) (w':World):Prop:=∃ (B:Option Addr) (n c:Nat),en = .returned (.slice B n c) ∧ n = l.length ∧ Sl w' B (intsV l) ∧ Fr [] w w' ∧ ∀ k,bk B = some k → w.heap.size ≤ k
theorem IntsN.ints {w0:World} {en:Ending} (h:IntsN w0 l en w):IntsA w0 l en w:=by
  obtain ⟨B,n,c,h1,h2,h3,h4,_⟩:=h
  exact ⟨B,n,c,h1,h2,h3,h4⟩
theorem IPt.ans {w0:World} (h:IPt W1 w l C c n) (hf:Fr [] w0 W1):IntsN w0 l (.returned (.slice C n c)) w:=⟨C,n,c,rfl,h.ln,h.own.sl,hf.trans h.fr,fun k hk => Nat.le_trans hf.size (h.nw k hk)⟩
end
set_option maxRecDepth 100000 in
set_option maxHeartbeats 1600000 in
theorem dvisible_any (w:World) (x:GD) (xs:List RV) (h:DGr x xs w) :
    Calls Tryz.prog 53 #[.agg #[.slice x.B x.m x.d,.bool x.t,.int .i64 x.e]] w (IntsN w (visI xs xs.length)):=by
  obtain ⟨A,n,c,ds,xt,xen⟩:=x
  obtain ⟨W1,hW1⟩:∃ W1,W1 = w.alloc (.cells #[.slice A n c,.bool xt,.int .i64 xen] TD11):=⟨_,rfl⟩
  have HF:Hid (Fr [] w W1):=by show Fr _ _ _; rw [hW1]; exact (Fr.refl [] w).alloc _
  have HA:Hid (Sl w A (rdc ds) ∧ n = ds.length ∧ n = xs.length ∧ ∀ k y,ds[k]? = some y → y.h = hidAt xs k):=⟨h.gd.1,h.gd.2.1,h.len,fun k y hy => (h.row k y hy).1⟩
  have HW1:=Lib.hid hW1
  have n4:n ≤ 400:=h.n4
  have n6:(n:Int) ≤ 400:=by omega
  have HN4:=Lib.hid n4
  clear h hW1 n4
  go_enter Tryz.func53,Tryz.ntmps53
  go_wp2_with fail
  rw [← HW1.out]
  go_loopg [3,9] n (fun k lv iv wr => ∃ (j q e:Nat) (C:Option Addr),k + j = n ∧ lv = .slice C q e ∧ iv = .int .i64 j ∧ Hid (IPt W1 wr (visI xs j) C e q))
  case atStart => exact ⟨0,0,0,none,by omega,rfl,rfl,IPt.nil_ _⟩
  case round =>
    obtain ⟨j,q,e,C,hj,rfl,rfl,HJ⟩:=hrel
    by_cases hlt:j < n
    · have hx1:j < ds.length:=by rw [← HA.out.2.1]; exact hlt
      obtain ⟨bx,rfl,e0,e1⟩:=sl_elem (f:=RD.cells) (sz:=3) (fun _ => rfl) (HA.out.1.fr (HF.out.trans HJ.out.fr) (.inr List.not_mem_nil)) hx1 (by omega)
      obtain ⟨y,hy⟩:∃ y,y = ds[j]:=⟨_,rfl⟩
      rw [← hy] at e0 e1
      have hyh:y.h = hidAt xs j:=HA.out.2.2.2 j y (by rw [hy]; exact List.getElem?_eq_getElem _)
      have HV:=Lib.hid (visI_snoc xs j)
      rw [← hyh] at HV
      have HQ:Hid (q ≤ 400):=by have h1:=HJ.out.ln; have h2:=visI_len xs j; show _ ≤ _; have:=HN4.out; omega
      obtain ⟨yB,ym,yd,ycs,ye,yh⟩:=y
      have c0:wr.cell? (bx.add (j * 3)) = some (.slice yB ym yd):=e0 _ rfl
      have c1:wr.cell? ⟨(bx.add (j * 3)).block,(bx.add (j * 3)).off + 1,none⟩ = some (.int .i64 ye):=e1 0 _ rfl
      have c2:wr.cell? ⟨(bx.add (j * 3)).block,(bx.add (j * 3)).off + 2,none⟩ = some (.bool yh):=e1 1 _ rfl
      have i0:(0:Int) ≤ (j:Int):=by omega
      have i1:(j:Int) < (n:Int):=by omega
      clear e0 e1 hy hx1 hyh
      cases yh with
      | true =>
        have HJ2:Hid (IPt W1 (wr.alloc (.cells #[.slice yB ym yd,.int .i64 ye,.bool true] TD8)) (visI xs (j + 1)) C e q):=by
          show IPt _ _ _ _ _ _
          rw [HV.out,if_pos rfl,List.append_nil]
          exact HJ.out.fr0 ((Fr.refl [] wr).alloc _)
        clear HV
        go_wp2_with fail
        go_roundg (n - (j + 1))
        case rel => exact ⟨j + 1,q,e,C,by omega,rfl,by go_num,HJ2.out⟩
        case measure => omega
      | false =>
        go_wp2_with (at_builtin; go_must (
          refine wpList_app _ rfl _ _ 48 3 rfl (.int .i64 0) 1 8 Tryz.underlying48 infoIn rfl (by decide) C e q (intsV (visI xs j)) rfl (ORow.fr HJ.out.own (((Fr.refl [] wr).alloc _).alloc _) (.inr List.not_mem_nil)) _ 1 1 [.int .i64 (j:Nat)] rfl rfl (sl_new2 wr _ _ 3) (by simp [Value.oneCell']) (by have:=HQ.out; simp only [maxLen]; omega) (by have:=HQ.out; omega) ?_
          intro C2 c2 w5 hr2 hg2 hb2
          have HX5:=Lib.hid (HJ.out.add (((Fr.refl [] wr).alloc _).alloc _) hr2 hg2 hb2)
          clear hr2 hg2 hb2))
        go_roundg (n - (j + 1))
        case rel => exact ⟨j + 1,q + 1,c2,C2,by omega,rfl,by go_num,by rw [HV.out]; exact HX5.out⟩
        case measure => omega
    · obtain rfl:j = n:=by omega
      have HE:Hid (IntsN w (visI xs xs.length) (.returned (.slice C q e)) wr):=by
        show IntsN _ _ _ _
        rw [← HA.out.2.2.1]
        exact HJ.out.ans HF.out
      clear HJ
      go_wp2_with fail
      go_ret
      exact HE.out
set_option maxRecDepth 100000 in
set_option maxHeartbeats 1600000 in
theorem drows_any (w:World) (x:GD) (xs:List RV) (top h:Nat) (left wid:Int) (hd:DGr x xs w) (h4:h ≤ 400) (ht:top ≤ 2 ^ 50) :
    Calls Tryz.prog 22 #[.agg #[.int .i64 (top:Nat),.int .i64 left,.int .i64 (h:Nat),.int .i64 wid],.agg #[.slice x.B x.m x.d,.bool x.t,.int .i64 x.e]] w (IntsN w (RowsI xs (min top xs.length) h)):=by
  obtain ⟨W1,hW1⟩:∃ W1,W1 = (w.alloc (.cells #[.int .i64 (top:Nat),.int .i64 left,.int .i64 (h:Nat),.int .i64 wid] 24)).alloc (.cells #[.slice x.B x.m x.d,.bool x.t,.int .i64 x.e] TD11):=⟨_,rfl⟩
  have HF:Hid (Fr [] w W1 ∧ Blk W1 w.heap.size 24 #[.int .i64 (top:Nat),.int .i64 left,.int .i64 (h:Nat),.int .i64 wid] ∧ Blk W1 (w.heap.size + 1) TD11 #[.slice x.B x.m x.d,.bool x.t,.int .i64 x.e]):=by
    have b2:=Blk.new (w.alloc (.cells #[.int .i64 (top:Nat),.int .i64 left,.int .i64 (h:Nat),.int .i64 wid] 24)) TD11 #[.slice x.B x.m x.d,.bool x.t,.int .i64 x.e]
    rw [World.size_alloc,← hW1] at b2
    exact ⟨by rw [hW1]; exact ((Fr.refl [] w).alloc _).alloc _,by rw [hW1]; exact (Blk.new w 24 _).alloc _,b2⟩
  obtain ⟨VB,hVB⟩:∃ VB,VB = w.heap.size:=⟨_,rfl⟩
  obtain ⟨GB,hGB⟩:∃ GB,GB = w.heap.size + 1:=⟨_,rfl⟩
  rw [← hGB,← hVB] at HF
  have HC:Hid (∀ w',Fr [] W1 w' → w'.cell? ⟨VB,0,none⟩ = some (.int .i64 (top:Nat)) ∧ w'.cell? ⟨VB,2,none⟩ = some (.int .i64 (h:Nat)) ∧ w'.cell? ⟨GB,0,none⟩ = some (.slice x.B x.m x.d) ∧ w'.cell? ⟨GB,1,none⟩ = some (.bool x.t) ∧ w'.cell? ⟨GB,2,none⟩ = some (.int .i64 x.e)):=by
    show ∀ _,_
    intro w' hf
    have h1:=HF.out.2.1.fr hf (by simp)
    have h2:=HF.out.2.2.fr hf (by simp)
    exact ⟨h1.cell 0,h1.cell 2,h2.cell 0,h2.cell 1,h2.cell 2⟩
  have HVS:=Lib.hid (dvisible_any W1 x xs (hd.fr0 HF.out.1))
  obtain ⟨L,hL⟩:∃ L,L = visI xs xs.length:=⟨_,rfl⟩
  have HLL:Hid (L.length ≤ 400 ∧ rowsD L (top:Nat) h = RowsI xs (min top xs.length) h):=by
    have h1:=visI_len xs xs.length
    have h2:=hd.len
    have h3:=hd.n4
    exact ⟨by rw [hL]; omega,by rw [hL]; exact rowsD_is xs top h⟩
  rw [← hL] at HVS
  obtain ⟨xB,xm,xd,xrs,xt,xe⟩:=x
  simp only at HVS hW1 HC HF ⊢
  have HW1:=Lib.hid hW1
  clear hL hW1 hd
  go_enter Tryz.func22,Tryz.ntmps22
  go_wp2_with fail
  rw [← HW1.out,← hGB,← hVB]
  obtain ⟨c0,c1,c2,c3,c4⟩:=HC.out W1 (Fr.refl _ _)
  clear hVB hGB c0 c1
  go_wp2_with fail
  refine HVS.out.mono ?_
  rintro en w2 ⟨B2,n2,d2,rfl,hn2,hs2,hf2,_⟩
  have HF2:Hid (Fr [] W1 w2 ∧ Sl w2 B2 (intsV L) ∧ n2 = L.length):=⟨hf2,hs2,hn2⟩
  have hn6:(n2:Int) ≤ 400:=by have:=HLL.out.1; omega
  clear HVS hf2 hs2 hn2 c2 c3 c4
  go_wp2_with fail
  go_loopg [5,11] n2 (fun k lv iv wr => ∃ (j q e:Nat) (C:Option Addr),k + j = n2 ∧ lv = .slice C q e ∧ iv = .int .i64 j ∧ Hid (IPt w2 wr (rowsD (L.take j) (top:Nat) h) C e q))
  case atStart => exact ⟨0,0,0,none,by omega,rfl,rfl,by show IPt _ _ _ _ _ _; simpa [rowsD] using IPt.nil_ w2⟩
  case round =>
    obtain ⟨j,q,e,C,hj,rfl,rfl,HJ⟩:=hrel
    by_cases hlt:j < n2
    · have hil:j < L.length:=by rw [← HF2.out.2.2]; exact hlt
      obtain ⟨ad,rfl,hcell⟩:=intsV_at (HF2.out.2.1.fr HJ.out.fr (.inr List.not_mem_nil)) hil
      obtain ⟨v,hv⟩:∃ v,v = L[j]:=⟨_,rfl⟩
      rw [← hv] at hcell
      have HSN:Hid (rowsD (L.take (j + 1)) (top:Nat) h = rowsD (L.take j) (top:Nat) h ++ if ((top:Nat):Int) ≤ v ∧ q < h then [v] else []):=by
        show _ = _
        rw [List.take_succ_eq_append_getElem hil,← hv,rowsD_snoc,← HJ.out.ln]
      have HQ:Hid (q ≤ 400):=by have h1:=HJ.out.ln; have h2:=rowsD_len (L.take j) (top:Nat) h; show _ ≤ _; omega
      have hi0:(0:Int) ≤ (j:Int):=by omega
      have hi1:(j:Int) < (n2:Int):=by omega
      obtain ⟨c0,c1,_,_,_⟩:=HC.out wr (HF2.out.1.trans HJ.out.fr)
      clear hv hil
      by_cases h1:((top:Nat):Int) ≤ v
      · by_cases h2:(q:Int) < (h:Int)
        · have HSN2:Hid (rowsD (L.take (j + 1)) (top:Nat) h = rowsD (L.take j) (top:Nat) h ++ [v]):=by
            show _ = _
            rw [HSN.out,if_pos ⟨h1,by omega⟩]
          clear HSN
          go_wp2_with (at_builtin; go_must (
            refine wpList_app _ rfl _ _ 48 3 rfl (.int .i64 0) 1 8 Tryz.underlying48 infoIn rfl (by decide) C e q (intsV (rowsD (L.take j) (top:Nat) h)) rfl (ORow.fr HJ.out.own ((Fr.refl [] wr).alloc _) (.inr List.not_mem_nil)) _ 1 1 [.int .i64 v] rfl rfl (sl_new _ _ 3) (by simp [Value.oneCell']) (by have:=HQ.out; simp only [maxLen]; omega) (by have:=HQ.out; omega) ?_
            intro C2 c2 w5 hr2 hg2 hb2
            have HX5:=Lib.hid (HJ.out.add ((Fr.refl [] wr).alloc _) hr2 hg2 hb2)
            clear hr2 hg2 hb2))
          go_roundg (n2 - (j + 1))
          case rel => exact ⟨j + 1,q + 1,c2,C2,by omega,rfl,by go_num,by rw [HSN2.out]; exact HX5.out⟩
          case measure => omega
        · have HSN2:Hid (IPt w2 wr (rowsD (L.take (j + 1)) (top:Nat) h) C e q):=by
            show IPt _ _ _ _ _ _
            rw [HSN.out,if_neg (by omega),List.append_nil]
            exact HJ.out
          clear HSN HJ
          go_wp2_with fail
          go_roundg (n2 - (j + 1))
          case rel => exact ⟨j + 1,q,e,C,by omega,rfl,by go_num,HSN2.out⟩
          case measure => omega
      · have HSN2:Hid (IPt w2 wr (rowsD (L.take (j + 1)) (top:Nat) h) C e q):=by
          show IPt _ _ _ _ _ _
          rw [HSN.out,if_neg (fun h => h1 h.1),List.append_nil]
          exact HJ.out
        have h3:decide (((top:Nat):Int) ≤ v) = false:=decide_eq_false h1
        clear HSN HJ
        go_wp2_with fail
        go_roundg (n2 - (j + 1))
        case rel => exact ⟨j + 1,q,e,C,by omega,rfl,by go_num,HSN2.out⟩
        case measure => omega
    · obtain rfl:j = n2:=by omega
      have HE:Hid (IntsN w (RowsI xs (min top xs.length) h) (.returned (.slice C q e)) wr):=by
        show IntsN _ _ _ _
        have h1:=HJ.out
        rw [List.take_of_length_le (by rw [HF2.out.2.2]; exact Nat.le_refl _),HLL.out.2] at h1
        exact h1.ans (HF.out.1.trans HF2.out.1)
      clear HJ
      go_wp2_with fail
      go_ret
      exact HE.out
end Go.Proofs.YtblafakafgediaaGreat
namespace Go.Proofs.YtblafakafgediaaGreat
open Go.RowKit Go.Proofs.Dm

def fwd (xs:List RV) (R:Nat):Nat:=if 0 ≤ nextP xs (R + 1) then (nextP xs (R + 1)).toNat else R
def bwd (xs:List RV) (R:Nat):Nat:=if 0 ≤ prevP xs R then (prevP xs R).toNat else R
theorem SetR.le {xs:List RV} {R:Nat} (h:SetR xs R):R ≤ xs.length:=by
  rcases h with h | h
  · exact Nat.le_of_lt h.1
  · rw [h.1]; exact Nat.zero_le _
theorem fwd_set {xs:List RV} {R:Nat} (h:SetR xs R):SetR xs (fwd xs R):=by
  unfold fwd
  rcases next_cases xs (R + 1) with ⟨h1,_⟩ | ⟨k,h1,_,h3,h4⟩
  · rw [h1,if_neg (by omega)]; exact h
  · rw [h1,if_pos (by omega),Int.toNat_natCast]; exact .inl ⟨h3,h4⟩
theorem bwd_set {xs:List RV} {R:Nat} (h:SetR xs R):SetR xs (bwd xs R):=by
  unfold bwd
  rcases prev_cases xs R h.le with ⟨h1,_⟩ | ⟨k,h1,h3,h4⟩
  · rw [h1,if_neg (by omega)]; exact h
  · rw [h1,if_pos (by omega),Int.toNat_natCast]; exact .inl ⟨h3,h4⟩
def itF (f:Nat → Nat):Nat → Nat → Nat
  | 0,R => R
  | n + 1,R => itF f n (f R)
theorem itF_fix {f:Nat → Nat} {R:Nat} (h:f R = R):∀ n,itF f n R = R
  | 0 => rfl
  | n + 1 => by
    show itF f n (f R) = R
    rw [h]
    exact itF_fix h n
theorem itF_set {xs:List RV} {f:Nat → Nat} (hf:∀ R,SetR xs R → SetR xs (f R)):∀ (n R:Nat),SetR xs R → SetR xs (itF f n R)
  | 0,_,h => h
  | n + 1,R,h => itF_set hf n (f R) (hf R h)
def movedP (xs:List RV) (R:Nat) (n:Int):Nat:=if 0 < n then itF (fwd xs) n.toNat R else if n < 0 then itF (bwd xs) (-n).toNat R else R
theorem moved_set {xs:List RV} {R:Nat} (n:Int) (h:SetR xs R):SetR xs (movedP xs R n):=by
  unfold movedP
  split
  · exact itF_set (fun _ => fwd_set) _ _ h
  · split
    · exact itF_set (fun _ => bwd_set) _ _ h
    · exact h
def topD (l:List Int) (i h:Nat):Int:=(l[i + 1 - h]?).getD 0
theorem visI_split (xs:List RV) (R:Nat) (hR:R < xs.length):∃ t,visI xs xs.length = visI xs (R + 1) ++ t:=by
  refine ⟨(shownR (allR xs (R + 1) xs.length)).map fun x => (x.1:Int),?_⟩
  unfold visI
  rw [allR_cut xs 0 (R + 1) xs.length (Nat.zero_le _) (by omega),shownR_app,List.map_append]
theorem visI_at (xs:List RV) (R:Nat) (hR:R < xs.length) (hs:hidAt xs R = false):(visI xs xs.length)[(visI xs R).length]? = some (R:Int):=by
  obtain ⟨t,ht⟩:=visI_split xs R hR
  rw [ht,visI_snoc,hs,List.append_assoc,List.getElem?_append_right (Nat.le_refl _),Nat.sub_self]
  rfl
theorem visI_lt (xs:List RV) (R:Nat):∀ r ∈ visI xs R,r < (R:Int):=by
  intro r hr
  unfold visI at hr
  obtain ⟨x,hx,rfl⟩:=List.mem_map.1 hr
  have:=(mem_sh.1 hx).2.1
  omega
theorem high_top (xs:List RV) (R h:Nat) (hR:R < xs.length) (hs:hidAt xs R = false) (hh:1 ≤ h):((highP xs (R + 1) h R:Nat):Int) = topD (visI xs xs.length) (visI xs R).length h:=by
  obtain ⟨L,hL⟩:∃ L,L = shownR (allR xs 0 (R + 1)):=⟨_,rfl⟩
  have hD:shownR (downR xs (R + 1) 0) = L.reverse:=by
    rw [hL]
    unfold shownR downR
    rw [List.filter_reverse]
  have hV:visI xs (R + 1) = L.map fun x => (x.1:Int):=by rw [hL]; rfl
  have hlen:L.length = (visI xs R).length + 1:=by
    have h1:=congrArg List.length (visI_snoc xs R)
    rw [hV,hs,List.length_map,List.length_append] at h1
    exact h1
  obtain ⟨p,hp⟩:∃ p,p = L.length - min h L.length:=⟨_,rfl⟩
  have hpl:p < L.length:=by omega
  have hget:((L.reverse.take h).getLast?) = some L[p]:=by
    rw [List.getLast?_eq_getElem?,List.length_take,List.length_reverse,List.getElem?_take,if_pos (by omega),List.getElem?_reverse (by omega),List.getElem?_eq_getElem (by omega)]
    congr 2
    omega
  obtain ⟨t,ht⟩:=visI_split xs R hR
  unfold highP topD
  rw [hD,hget,ht,hV,List.getElem?_append_left (by rw [List.length_map]; omega),List.getElem?_map,show (visI xs R).length + 1 - h = p by omega,List.getElem?_eq_getElem hpl]
  rfl
end Go.Proofs.YtblafakafgediaaGreat
