import Derived.Test.YtblafakafgediaaGreatF39
import Derived.Test.YtblafakafgediaaGreatF37
import Derived.Test.YtblafakafgediaaGreatF29
import Derived.Lib.SlBytesConst
namespace Go.Proofs.YtblafakafgediaaGreat
open Go.RowKit Go.Proofs.Dm

def e29:List UInt8:=[97,10,98,10,99,10,100,10,101,44,120]
def v29:List (Int × Bool × List (List Nat × Nat × Nat × Bool)):=(allLines e29).map lview
theorem e29_err:loadErrP e29 = 0:=by decide
theorem e29_tail:tailP ((allLines e29).map (·.e)) = false:=by decide
theorem e29_eol:eolP ((allLines e29).map (·.e)) = 1:=by decide
theorem e29_view:v29.map (fun v => (v.2.1,v.2.2.map fun c => atP e29 c.1)) = [(false,[[97]]),(false,[[98]]),(false,[[99]]),(false,[[100]]),(false,[[101],[120]])]:=by decide
structure Ex29 (g:Nat) (p:Option Addr) (rs:List RW) (w:World):Prop where
  ar:ArAt g e29 w
  tr:TreeAt TN [] w p (rs.map Prod.fst)
  ok:RowsAt [] w 11 rs
theorem Ex29.fr0 {g:Nat} {p:Option Addr} {rs:List RW} {w w':World} (h:Ex29 g p rs w) (hf:Fr [] w w'):Ex29 g p rs w' :=
  ⟨h.ar.fr0 hf,h.tr.fr0 hf,h.ok.grow hf fun k hk => .inl hk⟩
def Load29 (w:World) (e:Ending) (w':World):Prop :=
  ∃ (g:Nat) (p:Option Addr) (rs:List RW),e = .returned (.tuple #[.agg #[.pointer p,.bool false,.int .i64 1],.pointer (some ⟨g,0,none⟩),.int .i64 0]) ∧ Ex29 g p rs w' ∧ rs.map rview = v29 ∧ Fr [] w w'
theorem load29 (w:World) (A:Option Addr) (c:Nat) (hA:Sl w A (bts e29)):Calls Tryz.prog 35 #[.slice A 11 c] w (Load29 w):=by
  refine (gload_any [] w A 11 c e29 (Old.nil_ w) hA rfl (by omega)).mono ?_
  rintro e w' (⟨h,_⟩ | ⟨_,g,p,rs,he,ha,ht,hr,hv,hf⟩)
  · exact absurd e29_err h
  · rw [e29_tail,e29_eol] at he
    exact ⟨g,p,rs,he,⟨ha.now,ht,hr⟩,hv,hf⟩
def R29w (r:RW) (ts:List (List UInt8)):Prop:=r.1.h = false ∧ r.1.n = ts.length ∧ r.2.map (fun c => atP e29 (plc c.sp)) = ts
theorem rows29 {g:Nat} {p:Option Addr} {rs:List RW} {w:World} (hx:Ex29 g p rs w) (hv:rs.map rview = v29) :
    ∃ r0 r1 r2 r3 r4,rs = [r0,r1,r2,r3,r4] ∧ R29w r0 [[97]] ∧ R29w r1 [[98]] ∧ R29w r2 [[99]] ∧ R29w r3 [[100]] ∧ R29w r4 [[101],[120]]:=by
  have h1:rs.map (fun r => (r.1.h,r.2.map fun c => atP e29 (plc c.sp))) = [(false,[[97]]),(false,[[98]]),(false,[[99]]),(false,[[100]]),(false,[[101],[120]])]:=by
    rw [← e29_view,← hv,List.map_map]
    apply List.map_congr_left
    intro r _
    simp [rview,CV.view]
  have key:∀ r ∈ rs,∀ ts,(r.1.h,r.2.map fun c => atP e29 (plc c.sp)) = (false,ts) → R29w r ts:=fun r hr ts e => by
    injection e with e1 e2
    refine ⟨e1,?_,e2⟩
    rw [(hx.ok r hr).1,← e2,List.length_map]
  clear hx hv
  have hl:rs.length = 5:=by have:=congrArg List.length h1; rwa [List.length_map] at this
  match rs,hl,h1,key with
  | [r0,r1,r2,r3,r4],_,h1,key =>
    simp only [List.map_cons,List.map_nil,List.cons.injEq,and_true] at h1
    obtain ⟨a0,a1,a2,a3,a4⟩:=h1
    exact ⟨r0,r1,r2,r3,r4,rfl,key _ (by simp) _ a0,key _ (by simp) _ a1,key _ (by simp) _ a2,key _ (by simp) _ a3,key _ (by simp) _ a4⟩
structure Sees29 (rs:List RW):Prop where
  len:rs.length = 5
  n2:∀ r ∈ rs.map Prod.fst,r.n ≤ 2
  wid:widthP (rs.map Prod.fst) = 2
  nx:nextP (rs.map Prod.fst) 4 = 4
  r4:∃ r,(rs.map Prod.fst)[4]? = some r ∧ r.h = false
  no:(4:Int) ∉ (rowsP (rs.map Prod.fst) 0 2).map fun x => (x.1:Int)
  high:highP (rs.map Prod.fst) 5 2 4 = 3
  rows:(rowsP (rs.map Prod.fst) 3 2).map (fun x => (x.1:Int)) = [3,4]
  texts:(rowsP (rs.map Prod.fst) 3 2).map (fun x => textsP e29 (cellsOf rs x.1) 0 3) = [[[100],[],[]],[[101],[120],[]]]
  cs:∀ r ∈ rs,r.2.length ≤ 2
theorem texts29 (r:RW) (ts:List (List UInt8)) (h:R29w r ts):textsP e29 r.2 0 3 = (List.range 3).map fun k => (ts[k]?).getD []:=by
  unfold textsP
  apply List.map_congr_left
  intro k _
  rw [← h.2.2,List.getElem?_map,Nat.zero_add]
theorem sees29 {g:Nat} {p:Option Addr} {rs:List RW} {w:World} (hx:Ex29 g p rs w) (hv:rs.map rview = v29):Sees29 rs:=by
  obtain ⟨r0,r1,r2,r3,r4,rfl,h0,h1,h2,h3,h4⟩:=rows29 hx hv
  have hr:rowsP ([r0,r1,r2,r3,r4].map Prod.fst) 3 2 = [(3,r3.1),(4,r4.1)]:=by
    unfold rowsP shownR
    rw [show allR ([r0,r1,r2,r3,r4].map Prod.fst) 3 ([r0,r1,r2,r3,r4].map Prod.fst).length = [(3,r3.1),(4,r4.1)] from rfl]
    simp [h3.1,h4.1]
  have len1:∀ {r:RW} {ts:List (List UInt8)},R29w r ts → r.2.length = ts.length:=fun h => by rw [← h.2.2,List.length_map]
  have l0:=len1 h0
  have l1:=len1 h1
  have l2:=len1 h2
  have l3:=len1 h3
  have l4:=len1 h4
  refine ⟨rfl,?_,?_,?_,⟨r4.1,rfl,h4.1⟩,?_,?_,by rw [hr]; rfl,?_,?_⟩
  · intro r hm
    simp only [List.map_cons,List.map_nil,List.mem_cons,List.not_mem_nil,or_false] at hm
    rcases hm with e | e | e | e | e <;> subst e
    · rw [h0.2.1]; simp
    · rw [h1.2.1]; simp
    · rw [h2.2.1]; simp
    · rw [h3.2.1]; simp
    · rw [h4.2.1]; simp
  · unfold widthP
    simp only [List.map_cons,List.map_nil,h0.2.1,h1.2.1,h2.2.1,h3.2.1,h4.2.1]
    rfl
  · unfold nextP
    rw [show allR ([r0,r1,r2,r3,r4].map Prod.fst) 4 ([r0,r1,r2,r3,r4].map Prod.fst).length = [(4,r4.1)] from rfl]
    simp [h4.1]
  · unfold rowsP shownR
    rw [show allR ([r0,r1,r2,r3,r4].map Prod.fst) 0 ([r0,r1,r2,r3,r4].map Prod.fst).length = [(0,r0.1),(1,r1.1),(2,r2.1),(3,r3.1),(4,r4.1)] from rfl]
    simp [h0.1,h1.1,h2.1,h3.1,h4.1]
  · unfold highP shownR
    rw [show downR ([r0,r1,r2,r3,r4].map Prod.fst) 5 0 = [(4,r4.1),(3,r3.1),(2,r2.1),(1,r1.1),(0,r0.1)] from rfl]
    simp [h0.1,h1.1,h2.1,h3.1,h4.1]
  · rw [hr]
    show [textsP e29 r3.2 0 3,textsP e29 r4.2 0 3] = _
    rw [texts29 r3 _ h3,texts29 r4 _ h4]
    rfl
  · intro r hm
    simp only [List.mem_cons,List.not_mem_nil,or_false] at hm
    rcases hm with e | e | e | e | e <;> subst e
    · rw [l0]; simp
    · rw [l1]; simp
    · rw [l2]; simp
    · rw [l3]; simp
    · rw [l4]; simp
theorem plc29 {g:Nat} {p:Option Addr} {rs:List RW} {w:World} (hx:Ex29 g p rs w) (hv:rs.map rview = v29):∀ r ∈ rs,∀ c ∈ r.2,(plc c.sp).length ≤ 1000000:=by
  have h1:∀ v ∈ v29,∀ c ∈ v.2.2,c.1.length ≤ 1000000:=by decide
  intro r hr c hc
  exact h1 (rview r) (by rw [← hv]; exact List.mem_map.2 ⟨r,hr,rfl⟩) (CV.view c) (List.mem_map.2 ⟨c,hc,rfl⟩)
section
variable {w:World} {g:Nat} {p:Option Addr} {rs:List RW}
theorem follow29 (hx:Ex29 g p rs w) (hs:Sees29 rs):Calls Tryz.prog 16 #[.agg #[.int .i64 0,.int .i64 0,.int .i64 2,.int .i64 3],.agg #[.pointer p,.bool false,.int .i64 1],.agg #[.int .i64 4,.int .i64 0]] w fun en w' => en = .returned (.agg #[.int .i64 3,.int .i64 0,.int .i64 2,.int .i64 3]) ∧ Fr [] w w':=by
  obtain ⟨r,h1,h2⟩:=hs.r4
  have hl:(rs.map Prod.fst).length = 5:=by rw [List.length_map,hs.len]
  have hse:settP (rs.map Prod.fst) 4 5 = 4:=by
    unfold settP
    rw [hs.nx]
    rfl
  have hft:follT (rs.map Prod.fst) 4 0 2 r.h = 3:=by
    unfold follT
    rw [hl,h2,if_neg (by simp),if_neg (by omega)]
    exact (if_neg (show ¬ ((4:Nat):Int) ∈ (rowsP (rs.map Prod.fst) 0 2).map (fun x => (x.1:Int)) from hs.no)).trans hs.high
  exact follow_any w p false 1 4 0 (rs.map Prod.fst) 5 4 0 0 0 2 3 3 0 r hx.tr hl.symm (by omega) (by omega) (fun w' hf => by
    have h3:=settle_any w' p false 1 (rs.map Prod.fst) 5 2 4 5 0 4 0 (hx.tr.fr0 hf) hl.symm (by omega) (fun r hr => by have:=hs.n2 r hr; omega) hs.wid.symm (by omega) (by omega) (by omega)
    rw [hse] at h3
    exact h3) (.inl ⟨by omega,h1⟩) (by omega) (by omega) (by omega) (by omega) (by omega) (by omega) hft.symm (by omega)
theorem rowsV29 (hx:Ex29 g p rs w) (hs:Sees29 rs):Calls Tryz.prog 18 #[.agg #[.int .i64 3,.int .i64 0,.int .i64 2,.int .i64 3],.agg #[.pointer p,.bool false,.int .i64 1]] w fun en w' => ∃ (C:Option Addr) (c:Nat),en = .returned (.slice C 2 c) ∧ Sl w' C (intsV [3,4]) ∧ Fr [] w w':=by
  refine (rows_any w p false 1 (rs.map Prod.fst) 5 3 2 3 0 3 hx.tr (by rw [List.length_map,hs.len]) (by omega) (.inr (.inl ⟨rfl,by omega⟩)) (by omega)).mono ?_
  rintro en w' ⟨C,n,c,rfl,hn,hsl,hf⟩
  have h1:=congrArg List.length hs.rows
  rw [List.length_map] at h1
  obtain rfl:n = 2:=hn.trans h1
  rw [numI_ints,hs.rows] at hsl
  exact ⟨C,c,rfl,hsl,hf⟩
theorem textsV29 (hx:Ex29 g p rs w) (hv:rs.map rview = v29) (hs:Sees29 rs):Calls Tryz.prog 24 #[.agg #[.int .i64 3,.int .i64 0,.int .i64 2,.int .i64 3],.agg #[.pointer p,.bool false,.int .i64 1],.pointer (some ⟨g,0,none⟩)] w fun en w' => ∃ (C:Option Addr) (c:Nat) (ps:List Part),en = .returned (.slice C 2 c) ∧ TxAt w' C ps [[[100],[],[]],[[101],[120],[]]] ∧ Fr [] w w':=by
  refine (vtexts_any w p false 1 3 g 0 2 3 3 5 e29 rs hx.ar hx.tr hx.ok hs.len.symm (by omega) (by omega) (by omega) (.inr (.inl ⟨rfl,by omega⟩)) (by omega) (plc29 hx hv) (fun r hr => by have:=hs.cs r hr; omega) (by decide)).mono ?_
  rintro en w' ⟨C,n,c,ps,rfl,hn,hp,hq,hsl,hsb,hf⟩
  rw [hs.texts] at hp
  have h1:=congrArg List.length hp
  rw [List.length_map,List.length_map] at h1
  obtain rfl:n = 2:=hn.trans h1
  exact ⟨C,c,ps,rfl,⟨hsl,hp,fun q hm => ⟨hq q hm,hsb q hm⟩⟩,hf⟩
end
structure R29 (W0:World) (p:Option Addr) (f:Nat → Bool) (u4 u12 u13 u14 u15:Value) (w:World):Prop where
  w0:Fr [] W0 w
  s0:f 0 = true → u12 = .agg #[.int .i64 0,.int .i64 0,.int .i64 2,.int .i64 3]
  s1:f 1 = true → u13 = .agg #[.pointer p,.bool false,.int .i64 1]
  s2:f 2 = true → u14 = .agg #[.int .i64 4,.int .i64 0]
  s3:f 3 = true → u15 = .agg #[.int .i64 3,.int .i64 0,.int .i64 2,.int .i64 3]
  s4:f 4 = true → ∃ V,u4 = .pointer (some ⟨V,0,none⟩) ∧ W0.heap.size ≤ V ∧ (f 5 = false → Blk w V 40 #[.int .i64 0,.int .i64 0,.int .i64 0,.int .i64 0]) ∧ (f 5 = true → Blk w V 40 #[.int .i64 3,.int .i64 0,.int .i64 2,.int .i64 3])
section
variable {W0 w w2:World} {p:Option Addr} {f:Nat → Bool} {u4 u12 u13 u14 u15:Value}
theorem R29.p0 (hf:Fr [] w w2) (h:R29 W0 p f u4 u12 u13 u14 u15 w):R29 W0 p (addB f 0) u4 (.agg #[.int .i64 0,.int .i64 0,.int .i64 2,.int .i64 3]) u13 u14 u15 w2:=by
  exact ⟨h.w0.trans hf,
    (fun _ => rfl),
    (kpB h.s1),
    (kpB h.s2),
    (kpB h.s3),
    (fun hh => by obtain ⟨V,x1,x2,x3,x4⟩:=h.s4 ((addB_ne (by decide)).symm.trans hh); exact ⟨V,x1,x2,fun q => (x3 ((addB_ne (by decide)).symm.trans q)).fr hf (by simp),fun q => (x4 ((addB_ne (by decide)).symm.trans q)).fr hf (by simp)⟩)⟩
theorem R29.p1 (h:R29 W0 p f u4 u12 u13 u14 u15 w):R29 W0 p (addB f 1) u4 u12 (.agg #[.pointer p,.bool false,.int .i64 1]) u14 u15 w:=by
  exact ⟨h.w0,
    (kpB h.s0),
    (fun _ => rfl),
    (kpB h.s2),
    (kpB h.s3),
    (fun hh => by obtain ⟨V,x1,x2,x3,x4⟩:=h.s4 ((addB_ne (by decide)).symm.trans hh); exact ⟨V,x1,x2,fun q => (x3 ((addB_ne (by decide)).symm.trans q)),fun q => (x4 ((addB_ne (by decide)).symm.trans q))⟩)⟩
theorem R29.p2 (h:R29 W0 p f u4 u12 u13 u14 u15 w):R29 W0 p (addB f 2) u4 u12 u13 (.agg #[.int .i64 4,.int .i64 0]) u15 w:=by
  exact ⟨h.w0,
    (kpB h.s0),
    (kpB h.s1),
    (fun _ => rfl),
    (kpB h.s3),
    (fun hh => by obtain ⟨V,x1,x2,x3,x4⟩:=h.s4 ((addB_ne (by decide)).symm.trans hh); exact ⟨V,x1,x2,fun q => (x3 ((addB_ne (by decide)).symm.trans q)),fun q => (x4 ((addB_ne (by decide)).symm.trans q))⟩)⟩
theorem R29.p3 (hf:Fr [] w w2) (h:R29 W0 p f u4 u12 u13 u14 u15 w):R29 W0 p (addB f 3) u4 u12 u13 u14 (.agg #[.int .i64 3,.int .i64 0,.int .i64 2,.int .i64 3]) w2:=by
  exact ⟨h.w0.trans hf,
    (kpB h.s0),
    (kpB h.s1),
    (kpB h.s2),
    (fun _ => rfl),
    (fun hh => by obtain ⟨V,x1,x2,x3,x4⟩:=h.s4 ((addB_ne (by decide)).symm.trans hh); exact ⟨V,x1,x2,fun q => (x3 ((addB_ne (by decide)).symm.trans q)).fr hf (by simp),fun q => (x4 ((addB_ne (by decide)).symm.trans q)).fr hf (by simp)⟩)⟩
theorem R29.p4 (n5:f 5 = false) (h:R29 W0 p f u4 u12 u13 u14 u15 w):R29 W0 p (addB f 4) (.pointer (some ⟨w.heap.size,0,none⟩)) u12 u13 u14 u15 (w.alloc (.cells #[.int .i64 0,.int .i64 0,.int .i64 0,.int .i64 0] 40)):=by
  exact ⟨h.w0.alloc _,
    (kpB h.s0),
    (kpB h.s1),
    (kpB h.s2),
    (kpB h.s3),
    (fun _ => ⟨_,rfl,h.w0.size,fun _ => Blk.new w _ _,fun q => absurd ((addB_ne (by decide)).symm.trans q) (by rw [n5]; simp)⟩)⟩
theorem R29.p5 {V:Nat} (e4:u4 = .pointer (some ⟨V,0,none⟩)) (hV:W0.heap.size ≤ V) (hf:Fr [] W0 w2) (hb:Blk w2 V 40 #[.int .i64 3,.int .i64 0,.int .i64 2,.int .i64 3]) (h:R29 W0 p f u4 u12 u13 u14 u15 w):R29 W0 p (addB f 5) u4 u12 u13 u14 u15 w2:=by
  exact ⟨hf,
    (kpB h.s0),
    (kpB h.s1),
    (kpB h.s2),
    (kpB h.s3),
    (fun _ => ⟨V,e4,hV,(fun q => by rw [addB_self] at q; cases q),(fun _ => hb)⟩)⟩
end
set_option maxRecDepth 100000 in
set_option maxHeartbeats 1600000 in
theorem awake29_yes (w:World):Calls Tryz.prog 14 #[] w fun e w' => e = .returned (.bool true) ∧ Fr [] w w':=by
  have HW:Hid (∀ W1,W1 = w.alloc (.cells #[.int .u8 97,.int .u8 10,.int .u8 98,.int .u8 10,.int .u8 99,.int .u8 10,.int .u8 100,.int .u8 10,.int .u8 101,.int .u8 44,.int .u8 120] TU8 (11,12)) → Fr [] w W1 ∧ Sl W1 (some ⟨w.heap.size,0,none⟩) (bts e29)):=by
    show ∀ _,_
    rintro W1 rfl
    refine ⟨(Fr.refl [] w).alloc _,.inr ⟨_,rfl,fun j u hu => ?_⟩⟩
    rw [add_lit,World.cell?_alloc_mark,← hu,show bts e29 = (#[.int .u8 97,.int .u8 10,.int .u8 98,.int .u8 10,.int .u8 99,.int .u8 10,.int .u8 100,.int .u8 10,.int .u8 101,.int .u8 44,.int .u8 120]:Array Value).toList from rfl,Array.getElem?_toList]
  have hcb:=Lib.run_convert_bytes_const (P:=Tryz.prog) w 66 TU8 #[.int .u8 97,.int .u8 10,.int .u8 98,.int .u8 10,.int .u8 99,.int .u8 10,.int .u8 100,.int .u8 10,.int .u8 101,.int .u8 44,.int .u8 120] 11 11 Tryz.underlying66 Tryz.underlying5
  go_enter Tryz.func14,Tryz.ntmps14
  go_wp2_with fail
  obtain ⟨W1,hW1⟩:∃ W1,W1 = w.alloc (.cells #[.int .u8 97,.int .u8 10,.int .u8 98,.int .u8 10,.int .u8 99,.int .u8 10,.int .u8 100,.int .u8 10,.int .u8 101,.int .u8 44,.int .u8 120] TU8 (11,12)):=⟨_,rfl⟩
  obtain ⟨k1,k2⟩:=HW.out W1 hW1
  rw [← hW1]
  clear hW1 HW hcb
  refine (load29 W1 _ 11 k2).mono ?_
  rintro en w2 ⟨g,p,rs,rfl,hx2,hv,hf2⟩
  have HV:=Lib.hid hv
  have HS:=Lib.hid (sees29 hx2 hv)
  have HF2:=Lib.hid (k1.trans hf2)
  have HW2:Hid (∀ W,W = w2.alloc (.cells #[.pointer p,.bool false,.int .i64 1] TGr) → Fr [] w W ∧ Blk W w2.heap.size TGr #[.pointer p,.bool false,.int .i64 1] ∧ Ex29 g p rs W):=by
    show ∀ _,_
    rintro W rfl
    exact ⟨HF2.out.alloc _,Blk.new w2 TGr _,hx2.fr0 ((Fr.refl [] w2).alloc _)⟩
  clear hv hx2 hf2 k1 k2
  go_wp2_with fail
  obtain ⟨W0,hW0⟩:∃ W0,W0 = w2.alloc (.cells #[.pointer p,.bool false,.int .i64 1] TGr):=⟨_,rfl⟩
  obtain ⟨k1,k2,k3⟩:=HW2.out W0 hW0
  rw [← hW0]
  obtain ⟨T,hT⟩:∃ T,T = w2.heap.size:=⟨_,rfl⟩
  rw [← hT] at k2 ⊢
  have HX:=Lib.hid k3
  have HF0:=Lib.hid k1
  have HCEL:Hid (∀ w',Fr [] W0 w' → w'.cell? ⟨T,0,none⟩ = some (.pointer p) ∧ w'.cell? ⟨T,1,none⟩ = some (.bool false) ∧ w'.cell? ⟨T,2,none⟩ = some (.int .i64 1)):=by
    show ∀ _,_
    intro w' hf
    have h1:=k2.fr hf (by simp)
    exact ⟨h1.cell 0,h1.cell 1,h1.cell 2⟩
  have HFO:Hid (∀ w',Fr [] W0 w' → Calls Tryz.prog 16 #[.agg #[.int .i64 0,.int .i64 0,.int .i64 2,.int .i64 3],.agg #[.pointer p,.bool false,.int .i64 1],.agg #[.int .i64 4,.int .i64 0]] w' fun en w'' => en = .returned (.agg #[.int .i64 3,.int .i64 0,.int .i64 2,.int .i64 3]) ∧ Fr [] w' w''):=by
    show ∀ _,_
    intro w' hf
    exact follow29 (HX.out.fr0 hf) HS.out
  clear hW0 hT k1 k2 k3 HW2
  refine wp_region_invc (by kernel_rfl) (fun f a w' => ∃ u4 u12 u13 u14 u15,a = { tmps:=#[.bool false,.pointer (some ⟨T,0,none⟩),.pointer (some ⟨g,0,none⟩),.int .i64 0,u4,.tuple #[.agg #[.pointer p,.bool false,.int .i64 1],.pointer (some ⟨g,0,none⟩),.int .i64 0],.slice (some ⟨w.heap.size,0,none⟩) 11 11,.slice (some ⟨w.heap.size,0,none⟩) 11 11,.tuple #[.agg #[.pointer p,.bool false,.int .i64 1],.pointer (some ⟨g,0,none⟩),.int .i64 0],.agg #[.pointer p,.bool false,.int .i64 1],.pointer (some ⟨g,0,none⟩),.int .i64 0,u12,u13,u14,u15,undef,undef,undef,undef,undef,undef,undef,undef,undef,undef,undef,undef,undef,undef,undef,undef,undef,undef,undef,undef],defers:=[] } ∧ Hid (R29 W0 p f u4 u12 u13 u14 u15 w')) (by kernel_rfl) ?_ ?_ ?_
  · refine ⟨_,_,_,_,_,rfl,?_⟩
    exact (⟨(Fr.refl _ _).drew,fun h => (by cases h),fun h => (by cases h),fun h => (by cases h),fun h => (by cases h),fun h => (by cases h)⟩:R29 W0 p (fun _ => false) _ _ _ _ _ _)
  · simp only [EachOp]
    refine ⟨?_,?_,?_,?_,?_,?_,trivial⟩
    · rintro f a w' hfi hdep hcl ⟨u4,u12,u13,u14,u15,rfl,HI⟩ K hK
      refine step_call _ (by rfl) 66 #[.int .i64 2,.int .i64 3] (by go_simp) _ (viewnew_any w' 2 3 2 3 (.inr (.inl ⟨by omega,by omega,rfl⟩)) (.inr (.inl ⟨by omega,by omega,rfl⟩))) (by rintro e w' ⟨he,_⟩; exact ⟨_,he⟩) ?_
      rintro v4 w4 ⟨hv4,hf4⟩
      injection hv4 with hv4
      subst hv4
      try go_simp
      exact hK _ _ ⟨_,_,_,_,_,rfl,HI.out.p0 hf4⟩
    · rintro f a w' hfi hdep hcl ⟨u4,u12,u13,u14,u15,rfl,HI⟩ K hK
      obtain ⟨c0,c1,c2⟩:=HCEL.out w' HI.out.w0
      go_simp
      exact hK _ _ ⟨_,_,_,_,_,rfl,HI.out.p1⟩
    · rintro f a w' hfi hdep hcl ⟨u4,u12,u13,u14,u15,rfl,HI⟩ K hK
      go_simp
      exact hK _ _ ⟨_,_,_,_,_,rfl,HI.out.p2⟩
    · rintro f a w' hfi hdep hcl ⟨u4,u12,u13,u14,u15,rfl,HI⟩ K hK
      have d0:f 0 = true:=hdep { on:=0,ground:=.data } (by simp) rfl
      have e0:=HI.out.s0 d0
      subst e0
      have d1:f 1 = true:=hdep { on:=1,ground:=.data } (by simp) rfl
      have e1:=HI.out.s1 d1
      subst e1
      have d2:f 2 = true:=hdep { on:=2,ground:=.data } (by simp) rfl
      have e2:=HI.out.s2 d2
      subst e2
      refine step_call _ (by rfl) 16 #[.agg #[.int .i64 0,.int .i64 0,.int .i64 2,.int .i64 3],.agg #[.pointer p,.bool false,.int .i64 1],.agg #[.int .i64 4,.int .i64 0]] (by go_simp) _ (HFO.out w' HI.out.w0) (by rintro e w' ⟨he,_⟩; exact ⟨_,he⟩) ?_
      rintro v4 w4 ⟨hv4,hf4⟩
      injection hv4 with hv4
      subst hv4
      try go_simp
      exact hK _ _ ⟨_,_,_,_,_,rfl,HI.out.p3 hf4⟩
    · rintro f a w' hfi hdep hcl ⟨u4,u12,u13,u14,u15,rfl,HI⟩ K hK
      have n5:f 5 = false:=by
        cases q:f 5 with
        | false => rfl
        | true => rw [hcl 5 _ rfl q { on:=4,ground:=.data } (by simp) rfl] at hfi; cases hfi
      go_simp
      exact hK _ _ ⟨_,_,_,_,_,rfl,HI.out.p4 n5⟩
    · rintro f a w' hfi hdep hcl ⟨u4,u12,u13,u14,u15,rfl,HI⟩ K hK
      have d3:f 3 = true:=hdep { on:=3,ground:=.data } (by simp) rfl
      have e3:=HI.out.s3 d3
      subst e3
      have d4:f 4 = true:=hdep { on:=4,ground:=.data } (by simp) rfl
      obtain ⟨V,x1,x2,x3,x4⟩:=HI.out.s4 d4
      subst x1
      have hv:=x3 hfi
      have hw0:=HI.out.w0
      have l0:w'.cell? ⟨V,0,none⟩ = some (.int .i64 0):=hv.cell 0
      have l1:w'.cell? ⟨V,1,none⟩ = some (.int .i64 0):=hv.cell 1
      have l2:w'.cell? ⟨V,2,none⟩ = some (.int .i64 0):=hv.cell 2
      have l3:w'.cell? ⟨V,3,none⟩ = some (.int .i64 0):=hv.cell 3
      have y0:=hv.frozen 0
      have y1:=hv.frozen 1
      have y2:=hv.frozen 2
      have y3:=hv.frozen 3
      have ll:=hv.lt
      have hx:V < W0.heap.size → some V ∈ ([]:List (Option Nat)):=fun h => absurd h (by omega)
      have hb:=(((hv.set_ 0 (.int .i64 3)).set_ 1 (.int .i64 0)).set_ 2 (.int .i64 2)).set_ 3 (.int .i64 3)
      have hfr:=(((hw0.setB hx 0 (.int .i64 3)).setB hx 1 (.int .i64 0)).setB hx 2 (.int .i64 2)).setB hx 3 (.int .i64 3)
      clear hv hw0 x3 x4
      go_simp
      exact hK _ _ ⟨_,_,_,_,_,rfl,HI.out.p5 rfl x2 hfr (by simpa using hb)⟩
  rintro f a w3 hall ⟨u4,u12,u13,u14,u15,rfl,HI⟩
  have e0:=HI.out.s0 (hall 0 (by decide))
  have e1:=HI.out.s1 (hall 1 (by decide))
  have e2:=HI.out.s2 (hall 2 (by decide))
  have e3:=HI.out.s3 (hall 3 (by decide))
  obtain ⟨V,e4,hV,_,hvb⟩:=HI.out.s4 (hall 4 (by decide))
  subst e0 e1 e2 e3 e4
  have HVB:=Lib.hid (hvb (hall 5 (by decide)))
  have HFV:=Lib.hid HI.out.w0
  dsimp only
  clear hvb hV HI hall
  have HALL:Hid (∀ w',Fr [] w3 w' → Fr [] W0 w' ∧ w'.cell? ⟨V,0,none⟩ = some (.int .i64 3) ∧ w'.cell? ⟨V,1,none⟩ = some (.int .i64 0) ∧ w'.cell? ⟨V,2,none⟩ = some (.int .i64 2) ∧ w'.cell? ⟨V,3,none⟩ = some (.int .i64 3) ∧ w'.cell? ⟨T,0,none⟩ = some (.pointer p) ∧ w'.cell? ⟨T,1,none⟩ = some (.bool false) ∧ w'.cell? ⟨T,2,none⟩ = some (.int .i64 1)):=by
    show ∀ _,_
    intro w' hf
    have h1:=HVB.out.fr hf (by simp)
    exact ⟨HFV.out.trans hf,h1.cell 0,h1.cell 1,h1.cell 2,h1.cell 3,HCEL.out w' (HFV.out.trans hf)⟩
  obtain ⟨_,v0,v1,v2,v3,t0,t1,t2⟩:=HALL.out w3 (Fr.refl _ _)
  go_wp2_with fail
  refine (rowsV29 (HX.out.fr0 HFV.out) HS.out).mono ?_
  rintro en w4 ⟨C4,c4,rfl,hs4,hf4⟩
  have HF4:=Lib.hid hf4
  have HS4:=Lib.hid hs4
  have HW5:Hid (∀ W H,W = w4.alloc (.cells #[.int .i64 3,.int .i64 4] 3) → H = w4.heap.size → Fr [] w3 W ∧ Sl W C4 (intsV [3,4]) ∧ Sl W (some ⟨H,0,none⟩) (intsV [3,4])):=by
    show ∀ _,_
    rintro W H rfl rfl
    exact ⟨HF4.out.alloc _,HS4.out.fr ((Fr.refl [] w4).alloc _) (.inr List.not_mem_nil),blk_sl (Blk.new w4 3 #[.int .i64 3,.int .i64 4]) 2⟩
  clear v0 v1 v2 v3 t0 t1 t2 hs4 hf4
  go_wp2_with fail
  obtain ⟨w5,hw5⟩:∃ w5,w5 = w4.alloc (.cells #[.int .i64 3,.int .i64 4] 3):=⟨_,rfl⟩
  obtain ⟨H,hH⟩:∃ H,H = w4.heap.size:=⟨_,rfl⟩
  obtain ⟨k1,k2,k3⟩:=HW5.out w5 H hw5 hH
  rw [← hw5,← hH]
  have HF5:=Lib.hid k1
  clear hw5 hH HW5 k1
  refine (sameI_yes w5 C4 _ 2 c4 2 [3,4] k2 k3 rfl (by omega)).mono ?_
  rintro en w6 ⟨rfl,hf6⟩
  have HF6:Hid (Fr [] w3 w6):=HF5.out.trans hf6
  clear k2 k3 hf6
  obtain ⟨_,v0,v1,v2,v3,t0,t1,t2⟩:=HALL.out w6 HF6.out
  go_wp2_with fail
  refine (textsV29 (HX.out.fr0 (HALL.out w6 HF6.out).1) HV.out HS.out).mono ?_
  rintro en w7 ⟨C7,c7,ps,rfl,hs7,hf7⟩
  have HF7:Hid (Fr [] w3 w7):=HF6.out.trans hf7
  have HS7:=Lib.hid hs7
  have HW8:Hid (∀ W J,J = w7.heap.size → W = ((w7.alloc (.cells #[.string ⟨#[100]⟩,.string ⟨#[]⟩,.string ⟨#[]⟩] 9)).alloc (.cells #[.string ⟨#[101]⟩,.string ⟨#[120]⟩,.string ⟨#[]⟩] 9)).alloc (.cells #[.slice (some ⟨w7.heap.size,0,none⟩) 3 3,.slice (some ⟨w7.heap.size + 1,0,none⟩) 3 3] 128) →
      Fr [] w3 W ∧ TxAt W C7 ps [[[100],[],[]],[[101],[120],[]]] ∧ TxAt W (some ⟨J + 1 + 1,0,none⟩) [⟨some ⟨J,0,none⟩,3,3,strV [[100],[],[]]⟩,⟨some ⟨J + 1,0,none⟩,3,3,strV [[101],[120],[]]⟩] [[[100],[],[]],[[101],[120],[]]]):=by
    show ∀ _,_
    rintro W J rfl rfl
    have b1:=((Blk.new w7 9 #[.string ⟨#[100]⟩,.string ⟨#[]⟩,.string ⟨#[]⟩]).alloc (.cells #[.string ⟨#[101]⟩,.string ⟨#[120]⟩,.string ⟨#[]⟩] 9)).alloc (.cells #[.slice (some ⟨w7.heap.size,0,none⟩) 3 3,.slice (some ⟨w7.heap.size + 1,0,none⟩) 3 3] 128)
    have b2:=(Blk.new (w7.alloc (.cells #[.string ⟨#[100]⟩,.string ⟨#[]⟩,.string ⟨#[]⟩] 9)) 9 #[.string ⟨#[101]⟩,.string ⟨#[120]⟩,.string ⟨#[]⟩]).alloc (.cells #[.slice (some ⟨w7.heap.size,0,none⟩) 3 3,.slice (some ⟨w7.heap.size + 1,0,none⟩) 3 3] 128)
    have b3:=Blk.new ((w7.alloc (.cells #[.string ⟨#[100]⟩,.string ⟨#[]⟩,.string ⟨#[]⟩] 9)).alloc (.cells #[.string ⟨#[101]⟩,.string ⟨#[120]⟩,.string ⟨#[]⟩] 9)) 128 #[.slice (some ⟨w7.heap.size,0,none⟩) 3 3,.slice (some ⟨w7.heap.size + 1,0,none⟩) 3 3]
    simp only [World.size_alloc] at b2 b3
    have hfa:=(((Fr.refl [] w7).alloc (.cells #[.string ⟨#[100]⟩,.string ⟨#[]⟩,.string ⟨#[]⟩] 9)).alloc (.cells #[.string ⟨#[101]⟩,.string ⟨#[120]⟩,.string ⟨#[]⟩] 9)).alloc (.cells #[.slice (some ⟨w7.heap.size,0,none⟩) 3 3,.slice (some ⟨w7.heap.size + 1,0,none⟩) 3 3] 128)
    refine ⟨HF7.out.trans hfa,HS7.out.fr0 hfa,blk_sl b3 2,rfl,fun q hq => ?_⟩
    rcases List.mem_cons.1 hq with e | hq
    · rw [e]; exact ⟨rfl,blk_sl b1 3⟩
    · rw [List.mem_singleton] at hq; rw [hq]; exact ⟨rfl,blk_sl b2 3⟩
  clear v0 v1 v2 v3 t0 t1 t2 hs7 hf7
  go_wp2_with fail
  obtain ⟨J,hJ⟩:∃ J,J = w7.heap.size:=⟨_,rfl⟩
  obtain ⟨w8,hw8⟩:∃ W,W = ((w7.alloc (.cells #[.string ⟨#[100]⟩,.string ⟨#[]⟩,.string ⟨#[]⟩] 9)).alloc (.cells #[.string ⟨#[101]⟩,.string ⟨#[120]⟩,.string ⟨#[]⟩] 9)).alloc (.cells #[.slice (some ⟨w7.heap.size,0,none⟩) 3 3,.slice (some ⟨w7.heap.size + 1,0,none⟩) 3 3] 128):=⟨_,rfl⟩
  obtain ⟨k1,k2,k3⟩:=HW8.out w8 J hJ hw8
  rw [← hw8,← hJ]
  have HF8:=Lib.hid k1
  clear hw8 hJ HW8 k1
  refine (sameT_yes w8 C7 _ 2 c7 2 ps _ _ k2 k3 rfl (by omega) (by decide)).mono ?_
  rintro en w9 ⟨rfl,hf9⟩
  have HF9:Hid (Fr [] w W0 ∧ Fr [] w3 w9):=⟨HF0.out,HF8.out.trans hf9⟩
  clear k2 k3 hf9
  go_wp2_with fail
  go_ret
  exact ⟨rfl,HF9.out.1.trans (HALL.out w9 HF9.out.2).1⟩
end Go.Proofs.YtblafakafgediaaGreat
