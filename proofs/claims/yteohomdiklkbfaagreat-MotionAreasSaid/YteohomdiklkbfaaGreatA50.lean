import Derived.Test.YteohomdiklkbfaaGreatA49
import Derived.Test.YteohomdiklkbfaaGreatA45
import Derived.Lib.SlBytesConst
namespace Go.Proofs.YteohomdiklkbfaaGreat
open Go.RowKit Go.Proofs.Dm

def e26:List UInt8:=[97,44,98,10,99]
theorem e26_err:loadErrP e26 = 0:=by decide
theorem e26_tail:tailP ((allLines e26).map (·.e)) = false:=by decide
theorem e26_eol:eolP ((allLines e26).map (·.e)) = 1:=by decide
theorem e26_view:(allLines e26).map (fun l => ((lview l).2.1,l.fields.length)) = [(false,2),(false,1)]:=by decide
def Ex26 (p:Option Addr) (rs:List RW) (w:World):Prop:=TreeAt TN [] w p (rs.map Prod.fst) ∧ rs.map (fun r => (r.1.h,r.1.n)) = [(false,2),(false,1)]
theorem Ex26.fr0 {p:Option Addr} {rs:List RW} {w w':World} (h:Ex26 p rs w) (hf:Fr [] w w'):Ex26 p rs w':=⟨h.1.fr0 hf,h.2⟩
def Load26 (w:World) (e:Ending) (w':World):Prop :=
  ∃ (g:Nat) (p:Option Addr) (rs:List RW),e = .returned (.tuple #[.agg #[.pointer p,.bool false,.int .i64 1],.pointer (some ⟨g,0,none⟩),.int .i64 0]) ∧ Ex26 p rs w' ∧ Fr [] w w'
theorem load26 (w:World) (A:Option Addr) (c:Nat) (hA:Sl w A (bts e26)):Calls Tryz.prog 31 #[.slice A 5 c] w (Load26 w):=by
  refine (gload_any [] w A 5 c e26 (Old.nil_ w) hA rfl (by omega)).mono ?_
  rintro e w' (⟨h,_⟩ | ⟨_,g,p,rs,he,ha,ht,hr,hv,hf⟩)
  · exact absurd e26_err h
  · rw [e26_tail,e26_eol] at he
    refine ⟨g,p,rs,he,⟨ht,?_⟩,hf⟩
    have h1:rs.map (fun r => (r.1.h,r.1.n)) = rs.map (fun r => ((rview r).2.1,(rview r).2.2.length)):=by
      apply List.map_congr_left
      intro r hr0
      simp [rview,(hr r hr0).1]
    have h2:rs.map (fun r => ((rview r).2.1,(rview r).2.2.length)) = (rs.map rview).map fun v => (v.2.1,v.2.2.length):=by rw [List.map_map]; rfl
    rw [h1,h2,hv,List.map_map,← e26_view]
    apply List.map_congr_left
    intro l _
    simp [lview]
theorem Ex26.two {p:Option Addr} {rs:List RW} {w:World} (h:Ex26 p rs w):(rs.map Prod.fst).length = 2 ∧ widthP (rs.map Prod.fst) = 2 ∧ hidAt (rs.map Prod.fst) 0 = false ∧ hidAt (rs.map Prod.fst) 1 = false ∧ ∀ r ∈ rs.map Prod.fst,r.n ≤ 1000:=by
  have hl:rs.length = 2:=by have:=congrArg List.length h.2; simpa using this
  match rs,hl,h.2 with
  | [r0,r1],_,h2 =>
    simp only [List.map_cons,List.map_nil,List.cons.injEq,Prod.mk.injEq,and_true] at h2
    obtain ⟨⟨a1,a2⟩,b1,b2⟩:=h2
    refine ⟨rfl,?_,a1,b1,?_⟩
    · unfold widthP
      simp only [List.map_cons,List.map_nil,a2,b2]
      rfl
    · intro r hr
      simp only [List.map_cons,List.map_nil,List.mem_cons,List.not_mem_nil,or_false] at hr
      rcases hr with e | e
      · rw [e,a2]; omega
      · rw [e,b2]; omega
theorem Ex26.setok {p:Option Addr} {rs:List RW} {w:World} (h:Ex26 p rs w):SetOK w p false 1 (rs.map Prod.fst):=fun w' hf pr pc R C hs => by
  obtain ⟨h1,h2,_,_,h3⟩:=h.two
  obtain ⟨a,k1,k2⟩:=hs.row
  have:=settle_any w' p false 1 (rs.map Prod.fst) (rs.map Prod.fst).length (widthP (rs.map Prod.fst)) a _ C pr pc (h.1.fr0 hf) rfl (by omega) h3 rfl k1 rfl hs.col
  rw [k2] at this
  exact this
theorem Ex26.sett {p:Option Addr} {rs:List RW} {w:World} (h:Ex26 p rs w) (R C:Nat) (hR:R ≤ 1) (pc:Int) (hC:(C:Int) = max (min pc 1) 0):Sett (rs.map Prod.fst) (R:Nat) pc R C:=by
  obtain ⟨h1,h2,h3,h4,_⟩:=h.two
  have hs:SetR (rs.map Prod.fst) R:=by
    rcases (show R = 0 ∨ R = 1 by omega) with rfl | rfl
    · exact .inl ⟨by omega,h3⟩
    · exact .inl ⟨by omega,h4⟩
  exact ⟨⟨R,by omega,sett_self _ R hs⟩,by rw [h2]; omega,hs⟩
set_option maxRecDepth 100000 in
set_option maxHeartbeats 3200000 in
theorem awake26_yes (w:World):Calls Tryz.prog 9 #[] w fun e w' => e = .returned (.bool true) ∧ Fr [] w w':=by
  have HW:Hid (∀ W1,W1 = w.alloc (.cells #[.int .u8 97,.int .u8 44,.int .u8 98,.int .u8 10,.int .u8 99] TU8 (5,6)) → Fr [] w W1 ∧ Sl W1 (some ⟨w.heap.size,0,none⟩) (bts e26)):=by
    show ∀ _,_
    rintro W1 rfl
    refine ⟨(Fr.refl [] w).alloc _,.inr ⟨_,rfl,fun j u hu => ?_⟩⟩
    rw [add_lit,World.cell?_alloc_mark,← hu,show bts e26 = (#[.int .u8 97,.int .u8 44,.int .u8 98,.int .u8 10,.int .u8 99]:Array Value).toList from rfl,Array.getElem?_toList]
  have hcb:=Lib.run_convert_bytes_const (P:=Tryz.prog) w 93 TU8 #[.int .u8 97,.int .u8 44,.int .u8 98,.int .u8 10,.int .u8 99] 5 5 Tryz.underlying93 Tryz.underlying5
  go_enter Tryz.func9,Tryz.ntmps9
  go_wp2_with fail
  obtain ⟨W1,hW1⟩:∃ W1,W1 = w.alloc (.cells #[.int .u8 97,.int .u8 44,.int .u8 98,.int .u8 10,.int .u8 99] TU8 (5,6)):=⟨_,rfl⟩
  obtain ⟨k1,k2⟩:=HW.out W1 hW1
  rw [← hW1]
  clear hW1 HW hcb
  refine (load26 W1 _ 5 k2).mono ?_
  rintro en w2 ⟨g,p,rs,rfl,hx,hf2⟩
  have HX:=Lib.hid hx
  have HS0:Hid (Fr [] w w2 ∧ True):=⟨k1.trans hf2,trivial⟩
  clear hx k1 k2 hf2
  have HMV:Hid (∀ w',Fr [] w2 w' → Calls Tryz.prog 16 #[.agg #[.pointer p,.bool false,.int .i64 1],.pointer (some ⟨g,0,none⟩),.agg #[.int .i64 1,.int .i64 0],.int .i64 108,.int .i64 0] w' fun en w'' => en = .returned (.tuple #[.agg #[.int .i64 1,.int .i64 1],.bool true]) ∧ Fr [] w' w''):=by
    show ∀ _,_
    intro w' hf
    have hx:=HX.out.fr0 hf
    have hw:=hx.two
    exact hx.setok.mv108 (pr:=1) (pc:=0) (R:=1) (C:=0) (C2:=1) (hx.sett 1 0 (by omega) 0 (by omega)) _ 0 1 (by unfold CntK; omega) (by omega) (hx.sett 1 1 (by omega) _ (by omega))
  have HAR:Hid (∀ w',Fr [] w2 w' → Calls Tryz.prog 10 #[.agg #[.pointer p,.bool false,.int .i64 1],.agg #[.int .i64 0,.int .i64 0],.agg #[.int .i64 1,.int .i64 1],.int .i64 119] w' fun en w'' => en = .returned (.agg #[.int .i64 0,.int .i64 0,.int .i64 2,.int .i64 2]) ∧ Fr [] w' w''):=by
    show ∀ _,_
    intro w' hf
    have hx:=HX.out.fr0 hf
    have hw:=hx.two
    have hl:∀ v,Fr [] w' v → Calls Tryz.prog 27 #[.agg #[.pointer p,.bool false,.int .i64 1]] v fun en w'' => en = .returned (.int .i64 (2:Nat)) ∧ Fr [] v w'':=fun v hv => by
      have:=glen_any [] p (rs.map Prod.fst) false 1 v (hx.1.fr0 hv)
      rw [hw.1] at this
      exact this
    have hg:∀ v,Fr [] w' v → Calls Tryz.prog 19 #[.agg #[.pointer p,.bool false,.int .i64 1]] v fun en w'' => en = .returned (.int .i64 (2:Nat)) ∧ Fr [] v w'':=fun v hv => by
      have:=gwidth_any v p false 1 2 (rs.map Prod.fst) (hx.1.fr0 hv) hw.1.symm (by omega) hw.2.2.2.2
      rw [hw.2.1] at this
      exact this
    exact area_some w' p false 1 0 0 1 1 119 0 0 1 1 2 2 hl hg (fun v hv => (hx.setok.fr0 hv) v (Fr.refl _ _) 0 0 0 0 (hx.sett 0 0 (by omega) 0 (by omega))) (fun v hv => (hx.setok.fr0 hv) v (Fr.refl _ _) 1 1 1 1 (hx.sett 1 1 (by omega) 1 (by omega))) (by omega) (by omega)
  have HS00:Hid (Fr [] w2 w2 ∧ True):=⟨Fr.refl _ _,trivial⟩
  obtain ⟨W1,hW1⟩:∃ Wx,Wx = (w2.alloc (.cells #[.pointer p,.bool false,.int .i64 1] 31)):=⟨_,rfl⟩
  obtain ⟨B1,hB1⟩:∃ Bx,Bx = w2.heap.size:=⟨_,rfl⟩
  have HNB1:Hid (w2.heap.size ≤ B1):=by
    have h0:=HS00.out.1.size
    show _ ≤ _
    omega
  have HS1:Hid (Fr [] w2 W1 ∧ Blk W1 B1 31 #[.pointer p,.bool false,.int .i64 1]):=by
    have mB1:=Blk.new w2 31 #[.pointer p,.bool false,.int .i64 1]
    rw [← hB1] at mB1
    rw [hW1]
    exact ⟨(HS00.out.1.alloc _),mB1⟩
  go_wp2_with fail
  try rw [← hW1]
  try rw [← hB1]
  clear hW1 hB1
  refine (HMV.out W1 HS1.out.1).mono ?_
  rintro en w11 ⟨rfl,hf11⟩
  have HS2:Hid (Fr [] w2 w11 ∧ Blk w11 B1 31 #[.pointer p,.bool false,.int .i64 1]):=⟨HS1.out.1.trans hf11,HS1.out.2.fr hf11 (by simp)⟩
  clear hf11
  obtain ⟨W3,hW3⟩:∃ Wx,Wx = (w11.alloc (.cells #[.int .i64 1,.int .i64 1] 43)):=⟨_,rfl⟩
  obtain ⟨B2,hB2⟩:∃ Bx,Bx = w11.heap.size:=⟨_,rfl⟩
  have HNB2:Hid (w2.heap.size ≤ B2 ∧ B2 ≠ B1):=by
    have h0:=HS2.out.1.size
    have:=HS2.out.2.lt
    exact ⟨by omega,by omega⟩
  have HS3:Hid (Fr [] w2 W3 ∧ Blk W3 B1 31 #[.pointer p,.bool false,.int .i64 1] ∧ Blk W3 B2 43 #[.int .i64 1,.int .i64 1]):=by
    have mB1:=HS2.out.2
    replace mB1:=mB1.alloc (.cells #[.int .i64 1,.int .i64 1] 43)
    have mB2:=Blk.new w11 43 #[.int .i64 1,.int .i64 1]
    rw [← hB2] at mB2
    rw [hW3]
    exact ⟨(HS2.out.1.alloc _),mB1,mB2⟩
  have fc1:(w11.alloc (.cells #[.int .i64 1,.int .i64 1] 43)).cell? ⟨B1,0,none⟩ = some (.pointer p):=(HS2.out.2.alloc _).cell 0
  have fc2:(w11.alloc (.cells #[.int .i64 1,.int .i64 1] 43)).cell? ⟨B1,1,none⟩ = some (.bool false):=(HS2.out.2.alloc _).cell 1
  have fc3:(w11.alloc (.cells #[.int .i64 1,.int .i64 1] 43)).cell? ⟨B1,2,none⟩ = some (.int .i64 1):=(HS2.out.2.alloc _).cell 2
  go_wp2_with fail
  try rw [← hW3]
  try rw [← hB2]
  clear fc1 fc2 fc3 hW3 hB2
  refine (HAR.out W3 HS3.out.1).mono ?_
  rintro en w12 ⟨rfl,hf12⟩
  have HS4:Hid (Fr [] w2 w12 ∧ Blk w12 B1 31 #[.pointer p,.bool false,.int .i64 1] ∧ Blk w12 B2 43 #[.int .i64 1,.int .i64 1]):=⟨HS3.out.1.trans hf12,HS3.out.2.1.fr hf12 (by simp),HS3.out.2.2.fr hf12 (by simp)⟩
  clear hf12
  obtain ⟨W5,hW5⟩:∃ Wx,Wx = (w12.alloc (.cells #[.int .i64 0,.int .i64 0,.int .i64 2,.int .i64 2] 41)):=⟨_,rfl⟩
  obtain ⟨B3,hB3⟩:∃ Bx,Bx = w12.heap.size:=⟨_,rfl⟩
  have HNB3:Hid (w2.heap.size ≤ B3 ∧ B3 ≠ B1 ∧ B3 ≠ B2):=by
    have h0:=HS4.out.1.size
    have:=HS4.out.2.1.lt
    have:=HS4.out.2.2.lt
    exact ⟨by omega,by omega,by omega⟩
  have HS5:Hid (Fr [] w2 W5 ∧ Blk W5 B1 31 #[.pointer p,.bool false,.int .i64 1] ∧ Blk W5 B2 43 #[.int .i64 1,.int .i64 1] ∧ Blk W5 B3 41 #[.int .i64 0,.int .i64 0,.int .i64 2,.int .i64 2]):=by
    have mB1:=HS4.out.2.1
    replace mB1:=mB1.alloc (.cells #[.int .i64 0,.int .i64 0,.int .i64 2,.int .i64 2] 41)
    have mB2:=HS4.out.2.2
    replace mB2:=mB2.alloc (.cells #[.int .i64 0,.int .i64 0,.int .i64 2,.int .i64 2] 41)
    have mB3:=Blk.new w12 41 #[.int .i64 0,.int .i64 0,.int .i64 2,.int .i64 2]
    rw [← hB3] at mB3
    rw [hW5]
    exact ⟨(HS4.out.1.alloc _),mB1,mB2,mB3⟩
  have fc1:(w12.alloc (.cells #[.int .i64 0,.int .i64 0,.int .i64 2,.int .i64 2] 41)).cell? ⟨B2,0,none⟩ = some (.int .i64 1):=(HS4.out.2.2.alloc _).cell 0
  have fc2:(w12.alloc (.cells #[.int .i64 0,.int .i64 0,.int .i64 2,.int .i64 2] 41)).cell? ⟨B2,1,none⟩ = some (.int .i64 1):=(HS4.out.2.2.alloc _).cell 1
  go_wp2_with fail
  try rw [← hW5]
  try rw [← hB3]
  clear fc1 fc2 hW5 hB3
  refine (kind_any W5 106).mono ?_
  rintro en w13 ⟨rfl,hf13⟩
  have HS6:Hid (Fr [] w2 w13 ∧ Blk w13 B1 31 #[.pointer p,.bool false,.int .i64 1] ∧ Blk w13 B2 43 #[.int .i64 1,.int .i64 1] ∧ Blk w13 B3 41 #[.int .i64 0,.int .i64 0,.int .i64 2,.int .i64 2]):=⟨HS5.out.1.trans hf13,HS5.out.2.1.fr hf13 (by simp),HS5.out.2.2.1.fr hf13 (by simp),HS5.out.2.2.2.fr hf13 (by simp)⟩
  clear hf13
  go_wp2_with fail
  go_ret
  exact ⟨rfl,HS0.out.1.trans HS6.out.1⟩
end Go.Proofs.YteohomdiklkbfaaGreat
