import Derived.Test.YteohomdiklkbfaaGreatA37
import Derived.Test.YteohomdiklkbfaaGreatA36
import Derived.Test.YteohomdiklkbfaaGreatA39
import Derived.Test.YteohomdiklkbfaaGreatA33
namespace Go.Proofs.YteohomdiklkbfaaGreat
open Go.RowKit Go.Proofs.Dm

def hidAt (xs:List RV) (k:Nat):Bool:=(xs.getD k RV.none).h
theorem mem_allR {xs:List RV} {i j:Nat} {x:Nat × RV}:x ∈ allR xs i j ↔ i ≤ x.1 ∧ x.1 < j ∧ x.2 = xs.getD x.1 RV.none:=by
  unfold allR
  rw [List.mem_map]
  constructor
  · rintro ⟨k,hk,rfl⟩
    rw [List.mem_range'_1] at hk
    exact ⟨hk.1,by show k < j; omega,rfl⟩
  · rintro ⟨h1,h2,h3⟩
    exact ⟨x.1,List.mem_range'_1.2 ⟨h1,by omega⟩,by rw [← h3]⟩
theorem allR_cut (xs:List RV) (i j k:Nat) (h1:i ≤ j) (h2:j ≤ k):allR xs i k = allR xs i j ++ allR xs j k:=by
  unfold allR
  rw [← List.map_append]
  congr 1
  rw [show k - i = (j - i) + (k - j) by omega,← List.range'_append_1]
  congr 2
  omega
theorem next_cases (xs:List RV) (a:Nat):(nextP xs a = -1 ∧ ∀ i,a ≤ i → i < xs.length → hidAt xs i = true) ∨ ∃ k:Nat,nextP xs a = k ∧ a ≤ k ∧ k < xs.length ∧ hidAt xs k = false:=by
  unfold nextP
  cases hf:(allR xs a xs.length).find? fun x => !x.2.h with
  | none =>
    refine .inl ⟨rfl,fun i h1 h2 => ?_⟩
    rw [List.find?_eq_none] at hf
    have:=hf (i,xs.getD i RV.none) (mem_allR.2 ⟨h1,h2,rfl⟩)
    simpa [hidAt] using this
  | some x =>
    have h1:=List.find?_some hf
    obtain ⟨h2,h3,h4⟩:=mem_allR.1 (List.mem_of_find?_eq_some hf)
    refine .inr ⟨x.1,rfl,h2,h3,?_⟩
    unfold hidAt
    rw [← h4]
    simpa using h1
theorem prev_cases (xs:List RV) (b:Nat) (hb:b ≤ xs.length):(prevP xs b = -1 ∧ ∀ i,i < b → hidAt xs i = true) ∨ ∃ k:Nat,prevP xs b = k ∧ k < xs.length ∧ hidAt xs k = false:=by
  unfold prevP downR
  cases hf:(allR xs 0 b).reverse.find? fun x => !x.2.h with
  | none =>
    refine .inl ⟨rfl,fun i h2 => ?_⟩
    rw [List.find?_eq_none] at hf
    have:=hf (i,xs.getD i RV.none) (List.mem_reverse.2 (mem_allR.2 ⟨Nat.zero_le _,h2,rfl⟩))
    simpa [hidAt] using this
  | some x =>
    have h1:=List.find?_some hf
    obtain ⟨h2,h3,h4⟩:=mem_allR.1 (List.mem_reverse.1 (List.mem_of_find?_eq_some hf))
    refine .inr ⟨x.1,rfl,by omega,?_⟩
    unfold hidAt
    rw [← h4]
    simpa using h1
def SetR (xs:List RV) (R:Nat):Prop:=(R < xs.length ∧ hidAt xs R = false) ∨ (R = 0 ∧ ∀ i,i < xs.length → hidAt xs i = true)
theorem sett_cases (xs:List RV) (a b:Nat) (hb:b = min (a + 1) xs.length):∃ R:Nat,settP xs a b = R ∧ SetR xs R:=by
  unfold settP
  rcases next_cases xs a with ⟨h1,h2⟩ | ⟨k,h1,h2,h3,h4⟩
  · rw [h1,if_neg (by omega)]
    rcases prev_cases xs b (by omega) with ⟨p1,p2⟩ | ⟨k,p1,p2,p3⟩
    · refine ⟨0,by rw [p1]; rfl,.inr ⟨rfl,fun i hi => ?_⟩⟩
      rcases Nat.lt_or_ge i b with h | h
      · exact p2 i h
      · exact h2 i (by omega) hi
    · exact ⟨k,by rw [p1]; omega,.inl ⟨p2,p3⟩⟩
  · rw [h1,if_pos (by omega)]
    exact ⟨k,rfl,.inl ⟨h3,h4⟩⟩
theorem next_self (xs:List RV) (R:Nat) (h1:R < xs.length) (h2:hidAt xs R = false):nextP xs R = R:=by
  unfold nextP
  rw [allR_cons xs R _ h1,List.find?_cons_of_pos]
  · rfl
  · show (!(xs.getD R RV.none).h) = true
    unfold hidAt at h2
    rw [h2]
    rfl
theorem sett_self (xs:List RV) (R:Nat) (h:SetR xs R):settP xs R (min (R + 1) xs.length) = R:=by
  rcases h with ⟨h1,h2⟩ | ⟨rfl,h2⟩
  · unfold settP
    rw [next_self xs R h1 h2,if_pos (by omega)]
  · unfold settP
    rcases next_cases xs 0 with ⟨n1,_⟩ | ⟨k,_,_,n3,n4⟩
    · rw [n1,if_neg (by omega)]
      rcases prev_cases xs (min (0 + 1) xs.length) (by omega) with ⟨p1,_⟩ | ⟨k,_,p2,p3⟩
      · rw [p1]; rfl
      · rw [h2 k p2] at p3; cases p3
    · rw [h2 k n3] at n4; cases n4
end Go.Proofs.YteohomdiklkbfaaGreat
namespace Go.Proofs.YteohomdiklkbfaaGreat
open Go.RowKit Go.Proofs.Dm

structure Sett (xs:List RV) (pr pc:Int) (R C:Nat):Prop where
  row:∃ a:Nat,(a:Int) = max (min pr ((xs.length:Int) - 1)) 0 ∧ settP xs a (min (a + 1) xs.length) = (R:Nat)
  col:(C:Int) = max (min pc ((widthP xs:Int) - 1)) 0
  set_:SetR xs R
theorem sett_ex (xs:List RV) (pr pc:Int):∃ R C,Sett xs pr pc R C:=by
  obtain ⟨R,h1,h2⟩:=sett_cases xs (max (min pr ((xs.length:Int) - 1)) 0).toNat _ rfl
  exact ⟨R,(max (min pc ((widthP xs:Int) - 1)) 0).toNat,⟨_,by omega,h1⟩,by omega,h2⟩
section
variable {s:List UInt8} {g:Nat} {p:Option Addr} {tl:Bool} {eo:Int} {rs:List RW} {x:GD} {w:World}
theorem HG.wids (h:HG [] s g p tl eo rs x w):(∀ r ∈ rs.map Prod.fst,r.n ≤ 40) ∧ widthP (rs.map Prod.fst) ≤ 40:=by
  have h1:∀ r ∈ rs.map Prod.fst,r.n ≤ 40:=by
    intro r hr
    obtain ⟨r',hr',rfl⟩:=List.mem_map.1 hr
    have h2:=h.bd r' hr'
    rw [(h.ok r' hr').1]
    exact h2.1
  refine ⟨h1,?_⟩
  have key:∀ (l:List Nat) (a:Nat),a ≤ 40 → (∀ x ∈ l,x ≤ 40) → l.foldl max a ≤ 40:=by
    intro l
    induction l with
    | nil => intro a ha _; exact ha
    | cons x l ih => intro a ha hl; exact ih _ (Nat.max_le.2 ⟨ha,hl x (List.mem_cons_self ..)⟩) fun y hy => hl y (List.mem_cons_of_mem _ hy)
  exact key _ 0 (by omega) fun x hx => by
    obtain ⟨r,hr,rfl⟩:=List.mem_map.1 hx
    exact h1 r hr
theorem HG.xn (h:HG [] s g p tl eo rs x w):(rs.map Prod.fst).length = rs.length ∧ rs.length ≤ 400:=⟨List.length_map ..,h.len⟩
theorem HG.settle (h:HG [] s g p tl eo rs x w) {pr pc:Int} {R C:Nat} (hs:Sett (rs.map Prod.fst) pr pc R C) :
    Calls Tryz.prog 15 #[.agg #[.pointer p,.bool tl,.int .i64 eo],.agg #[.int .i64 pr,.int .i64 pc]] w fun en w' => en = .returned (.agg #[.int .i64 (R:Nat),.int .i64 (C:Nat)]) ∧ Fr [] w w':=by
  obtain ⟨a,h1,h2⟩:=hs.row
  have hx:=h.xn
  have:=settle_any w p tl eo (rs.map Prod.fst) (rs.map Prod.fst).length (widthP (rs.map Prod.fst)) a _ C pr pc h.tr0 rfl (by omega) (fun r hr => by have:=h.wids.1 r hr; omega) rfl h1 rfl hs.col
  rw [h2] at this
  exact this
def IntsA (w:World) (l:List Int) (en:Ending) (w':World):Prop:=∃ (B:Option Addr) (n c:Nat),en = .returned (.slice B n c) ∧ n = l.length ∧ Sl w' B (intsV l) ∧ Fr [] w w'
theorem IntsAns.ints {l:List (Nat × RV)} {en:Ending} {w':World} (h:IntsAns w l en w'):IntsA w (l.map fun x => (x.1:Int)) en w':=by
  obtain ⟨B,n,c,h1,h2,h3,h4⟩:=h
  exact ⟨B,n,c,h1,by rw [List.length_map]; exact h2,by rw [← numI_ints]; exact h3,h4⟩
end
end Go.Proofs.YteohomdiklkbfaaGreat
namespace Go.Proofs.YteohomdiklkbfaaGreat
open Go.RowKit Go.Proofs.Dm

theorem allR_nil (xs:List RV) (a b:Nat) (h:b ≤ a):allR xs a b = []:=by unfold allR; rw [show b - a = 0 by omega]; rfl
theorem allR_upto (xs:List RV) (b:Nat):allR xs 0 (b + 1) = allR xs 0 b ++ [(b,xs.getD b RV.none)]:=by
  rw [allR_cut xs 0 b (b + 1) (Nat.zero_le _) (by omega),allR_cons xs b (b + 1) (by omega),allR_nil xs (b + 1) (b + 1) (Nat.le_refl _)]
theorem next_end (xs:List RV) (a:Nat) (h:xs.length ≤ a):nextP xs a = -1:=by
  unfold nextP
  rw [allR_nil xs a _ h]
  rfl
theorem next_rec (xs:List RV) (a:Nat) (h:a < xs.length):nextP xs a = if hidAt xs a then nextP xs (a + 1) else (a:Int):=by
  unfold hidAt nextP
  rw [allR_cons xs a _ h]
  cases h2:(xs.getD a RV.none).h <;> simp only [List.find?_cons,h2] <;> rfl
theorem prev_zero (xs:List RV):prevP xs 0 = -1:=by
  unfold prevP downR
  rw [allR_nil xs 0 0 (Nat.le_refl _)]
  rfl
theorem prev_rec (xs:List RV) (b:Nat):prevP xs (b + 1) = if hidAt xs b then prevP xs b else (b:Int):=by
  unfold hidAt prevP downR
  rw [allR_upto,List.reverse_append]
  cases h2:(xs.getD b RV.none).h <;> simp only [List.reverse_cons,List.reverse_nil,List.nil_append,List.cons_append,List.find?_cons,h2] <;> rfl
end Go.Proofs.YteohomdiklkbfaaGreat
namespace Go.Proofs.YteohomdiklkbfaaGreat
open Go.RowKit Go.Proofs.Dm

structure DGr (x:GD) (xs:List RV) (w:World):Prop where
  gd:GDAt x w
  len:x.m = xs.length
  row:∀ (k:Nat) (y:RD),x.rs[k]? = some y → y.h = hidAt xs k ∧ y.m = (xs.getD k RV.none).n
  n4:x.m ≤ 400
  r4:∀ r ∈ x.rs,r.m ≤ 40
  wid:dwidP x.rs = widthP xs
theorem DGr.fr0 {x:GD} {xs:List RV} {w w':World} (h:DGr x xs w) (hf:Fr [] w w'):DGr x xs w':=⟨h.gd.fr0 hf,h.len,h.row,h.n4,h.r4,h.wid⟩
section
variable {s:List UInt8} {g:Nat} {p:Option Addr} {tl:Bool} {eo:Int} {rs:List RW} {x:GD} {w:World}
theorem HG.pair (h:HG [] s g p tl eo rs x w) (k:Nat) (y:RD) (hy:x.rs[k]? = some y):∃ r,rs[k]? = some r ∧ r ∈ rs ∧ y.cs = r.2.map (ccell s) ∧ y.h = r.1.h:=by
  have hp:rs.map (rpic s) = x.rs.map RD.pic:=congrArg Prod.fst h.pic
  have h1:(rs.map (rpic s))[k]? = (x.rs.map RD.pic)[k]?:=by rw [hp]
  rw [List.getElem?_map,List.getElem?_map,hy] at h1
  cases hr:rs[k]? with
  | none => rw [hr] at h1; cases h1
  | some r =>
    rw [hr] at h1
    injection h1 with h2
    exact ⟨r,rfl,List.mem_of_getElem? hr,(congrArg Prod.fst h2).symm,(congrArg (fun z => z.2.2) h2).symm⟩
theorem HG.dgr (h:HG [] s g p tl eo rs x w):DGr x (rs.map Prod.fst) w:=by
  have hl:=h.xl
  have key:∀ (k:Nat) (y:RD),x.rs[k]? = some y → y.m = y.cs.length:=fun k y hy => (h.gd.now.2.2 y (List.mem_of_getElem? hy)).2
  have hg:∀ (k:Nat) (r:RW),rs[k]? = some r → (rs.map Prod.fst).getD k RV.none = r.1:=fun k r hr => by
    rw [List.getD_eq_getElem?_getD,List.getElem?_map,hr]
    rfl
  refine ⟨h.gd.now,by rw [List.length_map]; exact hl.1,fun k y hy => ?_,by rw [hl.1]; exact h.len,fun y hy => ?_,?_⟩
  · obtain ⟨r,hr,hm,hc,hh⟩:=h.pair k y hy
    unfold hidAt
    rw [hg k r hr]
    exact ⟨hh,by rw [key k y hy,hc,List.length_map]; exact (h.ok r hm).1.symm⟩
  · obtain ⟨k,hk⟩:=List.mem_iff_getElem?.1 hy
    obtain ⟨r,hr,hm,hc,hh⟩:=h.pair k y hk
    rw [key k y hk,hc,List.length_map]
    exact (h.bd r hm).1
  · unfold dwidP widthP
    congr 1
    have hp:rs.map (rpic s) = x.rs.map RD.pic:=congrArg Prod.fst h.pic
    have h1:x.rs.map (·.cs.length) = (x.rs.map RD.pic).map (·.1.length):=by rw [List.map_map]; rfl
    rw [h1,← hp,List.map_map,List.map_map]
    apply List.map_congr_left
    intro r hr
    show (r.2.map (ccell s)).length = r.1.n
    rw [List.length_map]
    exact (h.ok r hr).1.symm
end
end Go.Proofs.YteohomdiklkbfaaGreat
