import Derived.Test.YtblafakafgediaaGreatF37
import Derived.Test.YtblafakafgediaaGreatF36
import Derived.Test.YtblafakafgediaaGreatF42
namespace Go.Proofs.YtblafakafgediaaGreat
open Go.RowKit Go.Proofs.Dm

def hidAt (xs:List RV) (k:Nat):Bool:=(xs.getD k RV.none).h
theorem mem_allR {xs:List RV} {i j:Nat} {x:Nat × RV}:x ∈ allR xs i j ↔ i ≤ x.1 ∧ x.1 < j ∧ x.2 = xs.getD x.1 RV.none:=by
  unfold allR
  rw [List.mem_map]
  constructor
  · rintro ⟨k,hk,rfl⟩
    rw [List.mem_range'_1] at hk
    exact ⟨hk.1,by show k < j; omega,rfl⟩
  · rintro ⟨h1,h2,h3⟩
    exact ⟨x.1,List.mem_range'_1.2 ⟨h1,by omega⟩,by rw [← h3]⟩
theorem mem_shownR {l:List (Nat × RV)} {x:Nat × RV}:x ∈ shownR l ↔ x ∈ l ∧ x.2.h = false:=by
  unfold shownR
  rw [List.mem_filter]
  simp
theorem mem_sh {xs:List RV} {i j:Nat} {x:Nat × RV}:x ∈ shownR (allR xs i j) ↔ i ≤ x.1 ∧ x.1 < j ∧ x.2 = xs.getD x.1 RV.none ∧ hidAt xs x.1 = false:=by
  rw [mem_shownR,mem_allR]
  unfold hidAt
  constructor
  · rintro ⟨⟨h1,h2,h3⟩,h4⟩
    exact ⟨h1,h2,h3,by rw [← h3]; exact h4⟩
  · rintro ⟨h1,h2,h3,h4⟩
    exact ⟨⟨h1,h2,h3⟩,by rw [h3]; exact h4⟩
theorem allR_cut (xs:List RV) (i j k:Nat) (h1:i ≤ j) (h2:j ≤ k):allR xs i k = allR xs i j ++ allR xs j k:=by
  unfold allR
  rw [← List.map_append]
  congr 1
  rw [show k - i = (j - i) + (k - j) by omega,← List.range'_append_1]
  congr 2
  omega
theorem shownR_app (a b:List (Nat × RV)):shownR (a ++ b) = shownR a ++ shownR b:=by unfold shownR; rw [List.filter_append]
theorem sh_cons {xs:List RV} {t j:Nat} (ht:t < j) (hs:hidAt xs t = false):shownR (allR xs t j) = (t,xs.getD t RV.none) :: shownR (allR xs (t + 1) j):=by
  rw [allR_cons xs t j ht]
  unfold shownR
  rw [List.filter_cons_of_pos]
  show (!(xs.getD t RV.none).h) = true
  unfold hidAt at hs
  rw [hs]
  rfl
theorem next_cases (xs:List RV) (a:Nat):(nextP xs a = -1 ∧ ∀ i,a ≤ i → i < xs.length → hidAt xs i = true) ∨ ∃ k:Nat,nextP xs a = k ∧ a ≤ k ∧ k < xs.length ∧ hidAt xs k = false:=by
  unfold nextP
  cases hf:(allR xs a xs.length).find? fun x => !x.2.h with
  | none =>
    refine .inl ⟨rfl,fun i h1 h2 => ?_⟩
    rw [List.find?_eq_none] at hf
    have:=hf (i,xs.getD i RV.none) (mem_allR.2 ⟨h1,h2,rfl⟩)
    simpa [hidAt] using this
  | some x =>
    have h1:=List.find?_some hf
    obtain ⟨h2,h3,h4⟩:=mem_allR.1 (List.mem_of_find?_eq_some hf)
    refine .inr ⟨x.1,rfl,h2,h3,?_⟩
    unfold hidAt
    rw [← h4]
    simpa using h1
theorem prev_cases (xs:List RV) (b:Nat) (hb:b ≤ xs.length):(prevP xs b = -1 ∧ ∀ i,i < b → hidAt xs i = true) ∨ ∃ k:Nat,prevP xs b = k ∧ k < xs.length ∧ hidAt xs k = false:=by
  unfold prevP downR
  cases hf:(allR xs 0 b).reverse.find? fun x => !x.2.h with
  | none =>
    refine .inl ⟨rfl,fun i h2 => ?_⟩
    rw [List.find?_eq_none] at hf
    have:=hf (i,xs.getD i RV.none) (List.mem_reverse.2 (mem_allR.2 ⟨Nat.zero_le _,h2,rfl⟩))
    simpa [hidAt] using this
  | some x =>
    have h1:=List.find?_some hf
    obtain ⟨h2,h3,h4⟩:=mem_allR.1 (List.mem_reverse.1 (List.mem_of_find?_eq_some hf))
    refine .inr ⟨x.1,rfl,by omega,?_⟩
    unfold hidAt
    rw [← h4]
    simpa using h1
def SetR (xs:List RV) (R:Nat):Prop:=(R < xs.length ∧ hidAt xs R = false) ∨ (R = 0 ∧ ∀ i,i < xs.length → hidAt xs i = true)
theorem sett_cases (xs:List RV) (a b:Nat) (hb:b = min (a + 1) xs.length):∃ R:Nat,settP xs a b = R ∧ SetR xs R:=by
  unfold settP
  rcases next_cases xs a with ⟨h1,h2⟩ | ⟨k,h1,h2,h3,h4⟩
  · rw [h1,if_neg (by omega)]
    rcases prev_cases xs b (by omega) with ⟨p1,p2⟩ | ⟨k,p1,p2,p3⟩
    · refine ⟨0,by rw [p1]; rfl,.inr ⟨rfl,fun i hi => ?_⟩⟩
      rcases Nat.lt_or_ge i b with h | h
      · exact p2 i h
      · exact h2 i (by omega) hi
    · exact ⟨k,by rw [p1]; omega,.inl ⟨p2,p3⟩⟩
  · rw [h1,if_pos (by omega)]
    exact ⟨k,rfl,.inl ⟨h3,h4⟩⟩
theorem next_self (xs:List RV) (R:Nat) (h1:R < xs.length) (h2:hidAt xs R = false):nextP xs R = R:=by
  unfold nextP
  rw [allR_cons xs R _ h1,List.find?_cons_of_pos]
  · rfl
  · show (!(xs.getD R RV.none).h) = true
    unfold hidAt at h2
    rw [h2]
    rfl
theorem sett_self (xs:List RV) (R:Nat) (h:SetR xs R):settP xs R (min (R + 1) xs.length) = R:=by
  rcases h with ⟨h1,h2⟩ | ⟨rfl,h2⟩
  · unfold settP
    rw [next_self xs R h1 h2,if_pos (by omega)]
  · unfold settP
    rcases next_cases xs 0 with ⟨n1,_⟩ | ⟨k,_,_,n3,n4⟩
    · rw [n1,if_neg (by omega)]
      rcases prev_cases xs (min (0 + 1) xs.length) (by omega) with ⟨p1,_⟩ | ⟨k,_,p2,p3⟩
      · rw [p1]; rfl
      · rw [h2 k p2] at p3; cases p3
    · rw [h2 k n3] at n4; cases n4
def RowsI (xs:List RV) (a h:Nat):List Int:=(rowsP xs a h).map fun x => (x.1:Int)
theorem vis_nil {xs:List RV}:(shownR (allR xs 0 xs.length)).length = 0 ↔ ∀ i,i < xs.length → hidAt xs i = true:=by
  constructor
  · intro h i hi
    cases hh:hidAt xs i with
    | true => rfl
    | false =>
      have hm:(i,xs.getD i RV.none) ∈ shownR (allR xs 0 xs.length):=mem_sh.2 ⟨Nat.zero_le _,hi,rfl,hh⟩
      rw [List.eq_nil_of_length_eq_zero h] at hm
      simp at hm
  · intro h
    cases hl:shownR (allR xs 0 xs.length) with
    | nil => rfl
    | cons x l =>
      have hm:x ∈ shownR (allR xs 0 xs.length):=by rw [hl]; exact List.mem_cons_self ..
      obtain ⟨_,h2,_,h4⟩:=mem_sh.1 hm
      rw [h _ h2] at h4
      cases h4
end Go.Proofs.YtblafakafgediaaGreat
namespace Go.Proofs.YtblafakafgediaaGreat
open Go.RowKit Go.Proofs.Dm

structure Sett (xs:List RV) (pr pc:Int) (R C:Nat):Prop where
  row:∃ a:Nat,(a:Int) = max (min pr ((xs.length:Int) - 1)) 0 ∧ settP xs a (min (a + 1) xs.length) = (R:Nat)
  col:(C:Int) = max (min pc ((widthP xs:Int) - 1)) 0
  set_:SetR xs R
theorem sett_ex (xs:List RV) (pr pc:Int):∃ R C,Sett xs pr pc R C:=by
  obtain ⟨R,h1,h2⟩:=sett_cases xs (max (min pr ((xs.length:Int) - 1)) 0).toNat _ rfl
  exact ⟨R,(max (min pc ((widthP xs:Int) - 1)) 0).toNat,⟨_,by omega,h1⟩,by omega,h2⟩
theorem Sett.again {xs:List RV} {pr pc:Int} {R C:Nat} (h:Sett xs pr pc R C):Sett xs (R:Nat) (C:Nat) R C:=by
  have h1:R < xs.length ∨ R = 0:=by
    rcases h.set_ with h | h
    · exact .inl h.1
    · exact .inr h.1
  refine ⟨⟨R,by omega,sett_self xs R h.set_⟩,?_,h.set_⟩
  have:=h.col
  omega
section
variable {s:List UInt8} {g:Nat} {p:Option Addr} {tl:Bool} {eo:Int} {rs:List RW} {x:GD} {w:World}
theorem HG.wids (h:HG [] s g p tl eo rs x w):(∀ r ∈ rs.map Prod.fst,r.n ≤ 40) ∧ widthP (rs.map Prod.fst) ≤ 40:=by
  have h1:∀ r ∈ rs.map Prod.fst,r.n ≤ 40:=by
    intro r hr
    obtain ⟨r',hr',rfl⟩:=List.mem_map.1 hr
    have h2:=h.bd r' hr'
    rw [(h.ok r' hr').1]
    exact h2.1
  refine ⟨h1,?_⟩
  have key:∀ (l:List Nat) (a:Nat),a ≤ 40 → (∀ x ∈ l,x ≤ 40) → l.foldl max a ≤ 40:=by
    intro l
    induction l with
    | nil => intro a ha _; exact ha
    | cons x l ih => intro a ha hl; exact ih _ (Nat.max_le.2 ⟨ha,hl x (List.mem_cons_self ..)⟩) fun y hy => hl y (List.mem_cons_of_mem _ hy)
  exact key _ 0 (by omega) fun x hx => by
    obtain ⟨r,hr,rfl⟩:=List.mem_map.1 hx
    exact h1 r hr
theorem HG.xn (h:HG [] s g p tl eo rs x w):(rs.map Prod.fst).length = rs.length ∧ rs.length ≤ 400:=⟨List.length_map ..,h.len⟩
theorem HG.settle (h:HG [] s g p tl eo rs x w) {pr pc:Int} {R C:Nat} (hs:Sett (rs.map Prod.fst) pr pc R C) :
    Calls Tryz.prog 15 #[.agg #[.pointer p,.bool tl,.int .i64 eo],.agg #[.int .i64 pr,.int .i64 pc]] w fun en w' => en = .returned (.agg #[.int .i64 (R:Nat),.int .i64 (C:Nat)]) ∧ Fr [] w w':=by
  obtain ⟨a,h1,h2⟩:=hs.row
  have hx:=h.xn
  have:=settle_any w p tl eo (rs.map Prod.fst) (rs.map Prod.fst).length (widthP (rs.map Prod.fst)) a _ C pr pc h.tr0 rfl (by omega) (fun r hr => by have:=h.wids.1 r hr; omega) rfl h1 rfl hs.col
  rw [h2] at this
  exact this
theorem HG.follow (h:HG [] s g p tl eo rs x w) {pr pc:Int} {R C:Nat} (hs:Sett (rs.map Prod.fst) pr pc R C) {top left hh wid T lf:Nat} (h1:1 ≤ hh) (h4:hh ≤ 400) (w4:wid ≤ 40) (ht:top ≤ 2 ^ 50) (hl:left ≤ 2 ^ 50)
    (hT:T = follT (rs.map Prod.fst) R top hh (hidAt (rs.map Prod.fst) R)) (hlf:(lf:Int) = max (min (left:Int) C) ((C:Int) - wid + 1)) :
    Calls Tryz.prog 16 #[.agg #[.int .i64 (top:Nat),.int .i64 (left:Nat),.int .i64 (hh:Nat),.int .i64 (wid:Nat)],.agg #[.pointer p,.bool tl,.int .i64 eo],.agg #[.int .i64 pr,.int .i64 pc]] w fun en w' => en = .returned (.agg #[.int .i64 (T:Nat),.int .i64 (lf:Nat),.int .i64 (hh:Nat),.int .i64 (wid:Nat)]) ∧ Fr [] w w':=by
  have hx:=h.xn
  have hw:=h.wids.2
  have hc:=hs.col
  have hR:R < (rs.map Prod.fst).length ∨ R = 0:=by
    rcases hs.set_ with h | h
    · exact .inl h.1
    · exact .inr h.1
  refine follow_any w p tl eo pr pc (rs.map Prod.fst) (rs.map Prod.fst).length R C top left hh wid T lf ((rs.map Prod.fst).getD R RV.none) h.tr0 rfl (by omega) (by omega) (fun w' hf => (h.fr0 hf).settle hs) ?_ (by omega) h1 (by omega) ht hl (by omega) hT hlf
  by_cases h0:R < (rs.map Prod.fst).length
  · exact .inl ⟨h0,by rw [List.getD_eq_getElem?_getD,List.getElem?_eq_getElem h0]; rfl⟩
  · refine .inr ⟨by omega,?_⟩
    rw [List.getD_eq_getElem?_getD,List.getElem?_eq_none (by omega)]
    rfl
def IntsA (w:World) (l:List Int) (en:Ending) (w':World):Prop:=∃ (B:Option Addr) (n c:Nat),en = .returned (.slice B n c) ∧ n = l.length ∧ Sl w' B (intsV l) ∧ Fr [] w w'
theorem IntsAns.ints {l:List (Nat × RV)} {en:Ending} {w':World} (h:IntsAns w l en w'):IntsA w (l.map fun x => (x.1:Int)) en w':=by
  obtain ⟨B,n,c,h1,h2,h3,h4⟩:=h
  exact ⟨B,n,c,h1,by rw [List.length_map]; exact h2,by rw [← numI_ints]; exact h3,h4⟩
theorem HG.rows (h:HG [] s g p tl eo rs x w) (top hh:Nat) (left wid:Int) (h4:hh ≤ 400) :
    Calls Tryz.prog 18 #[.agg #[.int .i64 (top:Nat),.int .i64 left,.int .i64 (hh:Nat),.int .i64 wid],.agg #[.pointer p,.bool tl,.int .i64 eo]] w (IntsA w (RowsI (rs.map Prod.fst) (min top (rs.map Prod.fst).length) hh)) :=
  (rows_any w p tl eo (rs.map Prod.fst) (rs.map Prod.fst).length (min top (rs.map Prod.fst).length) hh (top:Nat) left wid h.tr0 rfl (by have:=h.xn; omega) (by unfold BegAt; omega) (by omega)).mono fun _ _ h => h.ints
end
theorem rowsI_len (xs:List RV) (a h:Nat):(RowsI xs a h).length ≤ h:=by
  unfold RowsI rowsP
  rw [List.length_map,List.length_take]
  omega
end Go.Proofs.YtblafakafgediaaGreat
