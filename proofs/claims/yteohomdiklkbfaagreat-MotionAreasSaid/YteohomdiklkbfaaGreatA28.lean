import Derived.Test.YteohomdiklkbfaaGreatA17
import Derived.Test.YteohomdiklkbfaaGreatA27
namespace Go.Proofs.YteohomdiklkbfaaGreat
open Go.RowKit Go.Proofs.Dm

def ccell (s:List UInt8) (x:CV):DC:=⟨atP s (plc x.sp),if x.kept then cutP s x.a x.n else [],x.kept⟩
abbrev Pic:Type:=List DC × Int × Bool
def rpic (s:List UInt8) (r:RW):Pic:=(r.2.map (ccell s),r.1.e,r.1.h)
structure GD where
  B:Option Addr
  m:Nat
  d:Nat
  rs:List RD
  t:Bool
  e:Int
def GD.v (g:GD):Value:=.agg #[.slice g.B g.m g.d,.bool g.t,.int .i64 g.e]
def GDAt (g:GD) (w:World):Prop:=Sl w g.B (rdc g.rs) ∧ g.m = g.rs.length ∧ ∀ x ∈ g.rs,RDAt x w
def GD.pic (g:GD):List (List DC × Int × Bool) × Bool × Int:=(g.rs.map RD.pic,g.t,g.e)
theorem rpic_line (s:List UInt8) (r:RW) (l:LineP) (h:rview r = lview l):rpic s r = lpic s l:=by
  have he:r.1.e = (l.e:Int):=congrArg Prod.fst h
  have hh:r.1.h = false:=congrArg (fun x => x.2.1) h
  have hc:r.2.map CV.view = l.fields.map fview:=congrArg (fun x => x.2.2) h
  have h1:r.2.map (ccell s) = (r.2.map CV.view).map fun v => (⟨atP s v.1,if v.2.2.2 then cutP s v.2.1 v.2.2.1 else [],v.2.2.2⟩:DC):=by rw [List.map_map]; rfl
  have h2:l.fields.map (fcell s) = (l.fields.map fview).map fun v => (⟨atP s v.1,if v.2.2.2 then cutP s v.2.1 v.2.2.1 else [],v.2.2.2⟩:DC):=by rw [List.map_map]; rfl
  show (_,_,_) = (_,_,_)
  rw [h1,hc,← h2,he,hh]
theorem rpics (s:List UInt8) (rs:List RW) (ls:List LineP) (h:rs.map rview = ls.map lview):rs.map (rpic s) = ls.map (lpic s):=by
  induction rs generalizing ls with
  | nil => cases ls with
    | nil => rfl
    | cons l ls => cases h
  | cons r rs ih => cases ls with
    | nil => cases h
    | cons l ls =>
      rw [List.map_cons,List.map_cons] at h
      injection h with h1 h2
      rw [List.map_cons,List.map_cons,rpic_line s r l h1,ih ls h2]
section
variable {rs:List RW} {ls:List LineP}
theorem view_len (h:rs.map rview = ls.map lview):rs.length = ls.length:=by
  have:=congrArg List.length h
  simpa using this
theorem view_flds (h:rs.map rview = ls.map lview):rs.map (·.2.length) = ls.map (·.fields.length):=by
  have h1:rs.map (·.2.length) = (rs.map rview).map (·.2.2.length):=by rw [List.map_map]; apply List.map_congr_left; intro r _; simp [rview]
  have h2:ls.map (·.fields.length) = (ls.map lview).map (·.2.2.length):=by rw [List.map_map]; apply List.map_congr_left; intro r _; simp [lview]
  rw [h1,h2,h]
end
def docPic (s:List UInt8):List Pic × Bool × Int :=
  if loadErrP s = 0 then ((allLines s).map (lpic s),tailP ((allLines s).map (·.e)),((eolP ((allLines s).map (·.e)):Nat):Int)) else ([],false,2)
structure PG (s:List UInt8) (g:Nat) (p:Option Addr) (tl:Bool) (eo:Int) (sA:List UInt8) (rs:List RW) (w:World):Prop where
  ar:ArAt g sA w
  tr:TreeAt TN [] w p (rs.map Prod.fst)
  ok:RowsAt [] w sA.length rs
  pic:(rs.map (rpic sA),tl,eo) = docPic s
  no:loadErrP s ≠ 0 → rs = [] ∧ sA = [] ∧ tl = false ∧ eo = 2
  yes:loadErrP s = 0 → sA = s ∧ rs.map rview = (allLines s).map lview ∧ tl = tailP ((allLines s).map (·.e)) ∧ eo = ((eolP ((allLines s).map (·.e)):Nat):Int) ∧ (allLines s).length ≤ 400
theorem PG.fr0 {s sA:List UInt8} {g:Nat} {p:Option Addr} {tl:Bool} {eo:Int} {rs:List RW} {w w':World} (h:PG s g p tl eo sA rs w) (hf:Fr [] w w'):PG s g p tl eo sA rs w' :=
  ⟨h.ar.fr0 hf,h.tr.fr0 hf,h.ok.grow hf fun k hk => .inl hk,h.pic,h.no,h.yes⟩
theorem errP_rows (ls:List LineP) (h:errP ls = 0):∀ l ∈ ls,l.fields.length ≤ 40:=by
  induction ls with
  | nil => intro l hl; simp at hl
  | cons a ls ih =>
    have h1:(if rowErrP a.fields = 0 then errP ls else rowErrP a.fields) = 0:=h
    split at h1
    · rename_i h2
      intro l hl
      rcases List.mem_cons.1 hl with rfl | hl
      · unfold rowErrP at h2
        split at h2
        · cases h2
        · omega
      · exact ih h1 l hl
    · rename_i h2
      exact absurd h1 h2
section
variable {s sA:List UInt8} {g:Nat} {p:Option Addr} {tl:Bool} {eo:Int} {rs:List RW} {w:World}
theorem PG.key (h:PG s g p tl eo sA rs w) (h0:loadErrP s = 0) (hs:s.length ≤ 5000):sA = s ∧ rs.length ≤ 400 ∧ ∀ r ∈ rs,r.1.n = r.2.length ∧ r.2.length ≤ 40 ∧ ∀ c ∈ r.2,(plc c.sp).length ≤ 1000000:=by
  obtain ⟨h1,hv,_,_,h4⟩:=h.yes h0
  have h5:errP (allLines s) = 0:=by
    unfold loadErrP at h0
    split at h0
    · cases h0
    · split at h0
      · cases h0
      · exact h0
  refine ⟨h1,by rw [view_len hv]; omega,fun r hr => ⟨(h.ok r hr).1,?_,fun c hc => ?_⟩⟩
  · have h6:r.2.length ∈ rs.map (·.2.length):=List.mem_map.2 ⟨r,hr,rfl⟩
    rw [view_flds hv] at h6
    obtain ⟨l,hl,hl2⟩:=List.mem_map.1 h6
    have:=errP_rows _ h5 l hl
    omega
  · have h1:rview r ∈ (allLines s).map lview:=by rw [← hv]; exact List.mem_map.2 ⟨r,hr,rfl⟩
    obtain ⟨l,hl,hl2⟩:=List.mem_map.1 h1
    have h2:r.2.map CV.view = l.fields.map fview:=congrArg (fun x => x.2.2) hl2.symm
    have h3:CV.view c ∈ l.fields.map fview:=by rw [← h2]; exact List.mem_map.2 ⟨c,hc,rfl⟩
    obtain ⟨f,hf,hf2⟩:=List.mem_map.1 h3
    have h5:plc c.sp = f.places:=(congrArg Prod.fst hf2).symm
    have:=(linesP_bd s (s.length + 1) 0 l hl f hf).2
    rw [h5]
    omega
end
end Go.Proofs.YteohomdiklkbfaaGreat
namespace Go.Proofs.YteohomdiklkbfaaGreat
open Go.RowKit Go.Proofs.Dm

set_option maxHeartbeats 800000 in
theorem cut_k (w:World) (s:List UInt8) (k:Nat) (hk:k ≤ 100000):Calls Tryz.prog 21 #[.string ⟨s.toArray⟩,.int .i64 (k:Nat)] w fun e w' => e = .returned (.string ⟨(s.take k).toArray⟩) ∧ w = w':=by
  have HC:Hid ((⟨s.toArray⟩:ByteArray).extract 0 k = ⟨(s.take k).toArray⟩):=by show _ = _; rw [str_cut,List.drop_zero]
  by_cases h:k < s.length
  · have h1:(k:Int) < (s.length:Int):=by omega
    have h2:(k:Int) ≤ (s.length:Int):=by omega
    have h3:(0:Int) ≤ (k:Int):=by omega
    clear h
    go_enter Tryz.func21,Tryz.ntmps21
    go_wp2_with fail
    go_ret
    rw [HC.out]
    exact ⟨rfl,rfl⟩
  · have h1:¬ (k:Int) < (s.length:Int):=by omega
    have ht:s.take k = s:=List.take_of_length_le (by omega)
    rw [ht]
    clear h HC ht
    go_enter Tryz.func21,Tryz.ntmps21
    go_wp2_with fail
    go_ret
    exact ⟨rfl,rfl⟩
theorem GDAt.fr0 {x:GD} {w w':World} (h:GDAt x w) (hf:Fr [] w w'):GDAt x w' :=
  ⟨h.1.fr hf (.inr List.not_mem_nil),h.2.1,fun r hr => ⟨(h.2.2 r hr).1.fr hf (.inr List.not_mem_nil),(h.2.2 r hr).2⟩⟩
structure PGk (E:List (Option Nat)) (s:List UInt8) (g:Nat) (p:Option Addr) (tl:Bool) (eo:Int) (sA:List UInt8) (rs:List RW) (w:World):Prop where
  ar:Kp E w (ArAt g sA)
  tr:TreeAt TN E w p (rs.map Prod.fst)
  ok:RowsAt E w sA.length rs
  pic:(rs.map (rpic sA),tl,eo) = docPic s
  no:loadErrP s ≠ 0 → rs = [] ∧ sA = [] ∧ tl = false ∧ eo = 2
  yes:loadErrP s = 0 → sA = s ∧ rs.map rview = (allLines s).map lview ∧ tl = tailP ((allLines s).map (·.e)) ∧ eo = ((eolP ((allLines s).map (·.e)):Nat):Int) ∧ (allLines s).length ≤ 400
section
variable {E E':List (Option Nat)} {s sA:List UInt8} {g:Nat} {p:Option Addr} {tl:Bool} {eo:Int} {rs:List RW} {w w':World}
theorem PGk.grow (h:PGk E s g p tl eo sA rs w) (hf:Fr E w w') (hE:∀ k,some k ∈ E' → some k ∈ E ∨ w.heap.size ≤ k):PGk E' s g p tl eo sA rs w' :=
  ⟨h.ar.grow hf hE,h.tr.grow hf hE,h.ok.grow hf hE,h.pic,h.no,h.yes⟩
theorem PGk.fr0 (h:PGk E s g p tl eo sA rs w) (hf:Fr [] w w'):PGk E s g p tl eo sA rs w':=h.grow hf.of_nil fun _ hk => .inl hk
theorem PGk.pg (h:PGk E s g p tl eo sA rs w):PG s g p tl eo sA rs w :=
  ⟨h.ar.now,h.tr.grow (Fr.refl _ _) fun k hk => by simp at hk,h.ok.grow (Fr.refl _ _) fun k hk => by simp at hk,h.pic,h.no,h.yes⟩
end
def GLAnsE (E:List (Option Nat)) (w:World) (s:List UInt8) (en:Ending) (w':World):Prop :=
  ∃ (g:Nat) (p:Option Addr) (tl:Bool) (eo:Int) (sA:List UInt8) (rs:List RW),en = .returned (.tuple #[.agg #[.pointer p,.bool tl,.int .i64 eo],.pointer (some ⟨g,0,none⟩),.int .i64 (loadErrP s:Nat)]) ∧ PGk E s g p tl eo sA rs w' ∧ Fr [] w w'
theorem gload_allE (E:List (Option Nat)) (w:World) (A:Option Addr) (n c:Nat) (s:List UInt8) (hE:Old E w) (hA:Sl w A (bts s)) (hn:n = s.length) (hs:s.length ≤ 5000):Calls Tryz.prog 31 #[.slice A n c] w (GLAnsE E w s):=by
  have key:Calls Tryz.prog 31 #[.slice A n c] w (LoadAns E w s):=by
    rcases Nat.lt_or_ge 4096 n with h | h
    · exact gload_big E w A n c s hE hn h (by omega)
    · exact gload_any E w A n c s hE hA hn h
  refine key.mono ?_
  rintro en w' (⟨h0,g,he,hg,hf⟩ | ⟨h0,g,p,rs,he,ha,ht,hr,hv,hf⟩)
  · refine ⟨g,none,false,2,[],[],he,⟨hg,.inl ⟨rfl,rfl⟩,fun r hr => by simp at hr,?_,fun _ => ⟨rfl,rfl,rfl,rfl⟩,fun h => absurd h h0⟩,hf⟩
    unfold docPic
    rw [if_neg h0]
    rfl
  · refine ⟨g,p,_,_,s,rs,by rw [h0]; exact he,⟨ha,ht,hr,?_,fun h => absurd h0 h,fun _ => ⟨rfl,hv,rfl,rfl,?_⟩⟩,hf⟩
    · unfold docPic
      rw [if_pos h0,rpics s rs (allLines s) hv]
    · unfold loadErrP at h0
      split at h0
      · cases h0
      · split at h0
        · cases h0
        · omega
def DGAnsE (E:List (Option Nat)) (w:World) (s:List UInt8) (en:Ending) (w':World):Prop :=
  ∃ x:GD,en = .returned (.tuple #[.agg #[.slice x.B x.m x.d,.bool x.t,.int .i64 x.e],.int .i64 (loadErrP s:Nat)]) ∧ x.pic = docPic s ∧ Kp E w' (GDAt x) ∧ Fr [] w w'
theorem dload_allE (E:List (Option Nat)) (w:World) (s:List UInt8) (hE:Old E w) (hs:s.length ≤ 5000):Calls Tryz.prog 41 #[.string ⟨s.toArray⟩] w (DGAnsE E w s):=by
  have key:Calls Tryz.prog 41 #[.string ⟨s.toArray⟩] w (D11Ans E w s):=by
    rcases Nat.lt_or_ge 4096 s.length with h | h
    · exact d11load_big E w s h (by omega)
    · exact d11load_any E w s hE h
  refine key.mono ?_
  rintro en w' (⟨h0,he,hf⟩ | ⟨h0,B,m,d,rs,he,hm,hv,hk,hf⟩)
  · refine ⟨⟨none,0,0,[],false,2⟩,he,?_,fun w'' _ => ⟨.inl rfl,rfl,fun x hx => by simp at hx⟩,hf⟩
    unfold docPic
    rw [if_neg h0]
    rfl
  · refine ⟨⟨B,m,d,rs,_,_⟩,by rw [h0]; exact he,?_,fun w'' h => ⟨(hk w'' h).1,hm,(hk w'' h).2⟩,hf⟩
    unfold docPic
    rw [if_pos h0,← hv]
    rfl
def BegunAnsE (E:List (Option Nat)) (w:World) (s:List UInt8) (en:Ending) (w':World):Prop :=
  ∃ (g:Nat) (p:Option Addr) (tl:Bool) (eo:Int) (sA:List UInt8) (rs:List RW) (x:GD),en = .returned (.tuple #[.agg #[.pointer p,.bool tl,.int .i64 eo],.pointer (some ⟨g,0,none⟩),.agg #[.slice x.B x.m x.d,.bool x.t,.int .i64 x.e],.bool (decide (loadErrP s = 0))]) ∧ PGk E s g p tl eo sA rs w' ∧ x.pic = docPic s ∧ Kp E w' (GDAt x) ∧ Fr [] w w'
set_option maxRecDepth 100000 in
set_option maxHeartbeats 1600000 in
theorem begun_allE (E:List (Option Nat)) (w:World) (s:List UInt8) (hE:Old E w) (hs:s.length ≤ 5000):Calls Tryz.prog 20 #[.string ⟨s.toArray⟩] w (BegunAnsE E w s):=by
  have HS:=Lib.hid hs
  have HEW:=Lib.hid hE
  clear hE
  obtain ⟨n,hn⟩:∃ n,n = loadErrP s:=⟨_,rfl⟩
  have HN:=Lib.hid hn
  obtain ⟨c0,wb,hcv,hfb,hsb,_,_⟩:=run_bytes (P:=Tryz.prog) ((w.alloc (.cells #[.pointer none,.bool false,.int .i64 0] TGr)).alloc (.cells #[.slice none 0 0,.bool false,.int .i64 0] TD11)) 9 93 TU8 ⟨s.toArray⟩ Tryz.underlying9 Tryz.underlying93 Tryz.underlying5
  have HB:Hid (Fr [] w wb ∧ Sl wb (some ⟨w.heap.size + 1 + 1,0,none⟩) (bts s) ∧ Blk wb w.heap.size TGr #[.pointer none,.bool false,.int .i64 0] ∧ Blk wb (w.heap.size + 1) TD11 #[.slice none 0 0,.bool false,.int .i64 0]):=by
    have b2:=Blk.new (w.alloc (.cells #[.pointer none,.bool false,.int .i64 0] TGr)) TD11 #[.slice none 0 0,.bool false,.int .i64 0]
    rw [World.size_alloc] at b2
    refine ⟨(((Fr.refl [] w).alloc _).alloc _).trans hfb,by simpa using hsb,((Blk.new w TGr _).alloc _).fr hfb (by simp),b2.fr hfb (by simp)⟩
  have hsz:(⟨s.toArray⟩:ByteArray).size = s.length:=by simp [ByteArray.size]
  rw [hsz] at hcv
  simp only [World.size_alloc] at hcv
  clear hs hn hfb hsb hsz
  go_enter Tryz.func20,Tryz.ntmps20
  go_wp2_with fail
  obtain ⟨RB,hRB⟩:∃ RB,RB = w.heap.size:=⟨_,rfl⟩
  obtain ⟨RD,hRD⟩:∃ RD,RD = w.heap.size + 1:=⟨_,rfl⟩
  have HR:Hid (RB = w.heap.size ∧ RD = w.heap.size + 1 ∧ Blk wb RB TGr #[.pointer none,.bool false,.int .i64 0] ∧ Blk wb RD TD11 #[.slice none 0 0,.bool false,.int .i64 0]):=⟨hRB,hRD,by rw [hRB]; exact HB.out.2.2.1,by rw [hRD]; exact HB.out.2.2.2⟩
  have HO:Hid (Old (some RB :: some RD :: E) wb):=fun k hk => by
    have h1:=HR.out.2.2.1.lt
    have h2:=HR.out.2.2.2.lt
    rcases List.mem_cons.1 hk with e | e
    · injection e with e; omega
    rcases List.mem_cons.1 e with e | e
    · injection e with e; omega
    · have:=HEW.out k e; have:=HB.out.1.size; omega
  refine (gload_allE (some RB :: some RD :: E) wb _ s.length c0 s HO.out HB.out.2.1 rfl HS.out).mono ?_
  rintro en w2 ⟨g,p,tl,eo,sA,rs,rfl,hpg,hf2⟩
  rw [← hRD,← hRB,← HN.out]
  clear hRB hRD hcv
  have HF2:=Lib.hid (HB.out.1.trans hf2)
  have HRL:Hid (RB < w2.heap.size ∧ RD < w2.heap.size ∧ w.heap.size ≤ w2.heap.size):=⟨by have:=HR.out.2.2.1.lt; have:=hf2.size; omega,by have:=HR.out.2.2.2.lt; have:=hf2.size; omega,HF2.out.size⟩
  have HW2:Hid (∀ W T,W = w2.alloc (.cells #[.pointer p,.bool tl,.int .i64 eo] TGr) → T = w2.heap.size → Fr [] w W ∧ Blk W T TGr #[.pointer p,.bool tl,.int .i64 eo] ∧ PGk (some RB :: some RD :: E) s g p tl eo sA rs W ∧ Blk W RB TGr #[.pointer none,.bool false,.int .i64 0] ∧ Blk W RD TD11 #[.slice none 0 0,.bool false,.int .i64 0]):=by
    show ∀ _,_
    rintro W T rfl rfl
    exact ⟨HF2.out.alloc _,Blk.new w2 TGr _,hpg.fr0 ((Fr.refl [] w2).alloc _),(HR.out.2.2.1.fr hf2 (by simp)).alloc _,(HR.out.2.2.2.fr hf2 (by simp)).alloc _⟩
  have HF2b:=Lib.hid hf2
  clear hpg hf2 HB
  go_wp2_with fail
  obtain ⟨w3,hw3⟩:∃ w3,w3 = w2.alloc (.cells #[.pointer p,.bool tl,.int .i64 eo] TGr):=⟨_,rfl⟩
  obtain ⟨T,hT⟩:∃ T,T = w2.heap.size:=⟨_,rfl⟩
  obtain ⟨k1,k2,k3,k4,k5⟩:=HW2.out w3 T hw3 hT
  rw [← hw3,← hT]
  have HX3:=Lib.hid k3
  have HF3:=Lib.hid k1
  have HB3:Hid (Blk w3 T TGr #[.pointer p,.bool tl,.int .i64 eo] ∧ Blk w3 RB TGr #[.pointer none,.bool false,.int .i64 0] ∧ Blk w3 RD TD11 #[.slice none 0 0,.bool false,.int .i64 0]):=⟨k2,k4,k5⟩
  have HTN:Hid (w.heap.size ≤ T ∧ RB < T ∧ RD < T ∧ RB ≠ RD ∧ w.heap.size ≤ RB ∧ w.heap.size ≤ RD):=by
    have h1:=HRL.out
    have h3:=HR.out
    exact ⟨by omega,by omega,by omega,by omega,by omega,by omega⟩
  have hfw3:Fr [] wb w3:=by rw [hw3]; exact HF2b.out.alloc _
  clear hw3 hT k1 k2 k3 k4 k5 HW2
  refine (dload_allE (some RB :: some RD :: E) w3 s (HO.out.fr hfw3) HS.out).mono ?_
  rintro en w4 ⟨⟨xB,xm,xd,xrs,xt,xe⟩,rfl,hxp,hxa,hf4⟩
  rw [← HN.out]
  have HF4:=Lib.hid (HF3.out.trans hf4)
  have HW4:Hid (∀ W H,W = w4.alloc (.cells #[.slice xB xm xd,.bool xt,.int .i64 xe] TD11) → H = w4.heap.size → Fr [] w W ∧ Blk W H TD11 #[.slice xB xm xd,.bool xt,.int .i64 xe] ∧ Blk W T TGr #[.pointer p,.bool tl,.int .i64 eo] ∧ Blk W RB TGr #[.pointer none,.bool false,.int .i64 0] ∧ Blk W RD TD11 #[.slice none 0 0,.bool false,.int .i64 0] ∧ PGk (some RB :: some RD :: E) s g p tl eo sA rs W ∧ Kp (some RB :: some RD :: E) W (GDAt ⟨xB,xm,xd,xrs,xt,xe⟩) ∧ T < H):=by
    show ∀ _,_
    rintro W H rfl rfl
    have ha:Fr [] w4 (w4.alloc (.cells #[.slice xB xm xd,.bool xt,.int .i64 xe] TD11)):=(Fr.refl [] w4).alloc _
    have hh:=hf4.trans ha
    exact ⟨HF4.out.alloc _,Blk.new w4 TD11 _,HB3.out.1.fr hh (by simp),HB3.out.2.1.fr hh (by simp),HB3.out.2.2.fr hh (by simp),HX3.out.fr0 hh,hxa.fr0 ha,(HB3.out.1.fr hf4 (by simp)).lt⟩
  have HXP:=Lib.hid hxp
  clear hf4 hxa hxp
  simp only
  go_wp2_with fail
  obtain ⟨w5,hw5⟩:∃ w5,w5 = w4.alloc (.cells #[.slice xB xm xd,.bool xt,.int .i64 xe] TD11):=⟨_,rfl⟩
  obtain ⟨H,hH⟩:∃ H,H = w4.heap.size:=⟨_,rfl⟩
  obtain ⟨k1,k2,k3,k4,k5,k6,k7,k8⟩:=HW4.out w5 H hw5 hH
  rw [← hw5,← hH]
  have HX5:=Lib.hid k6
  have HD5:=Lib.hid k7
  have HF5:=Lib.hid k1
  have t0:w5.cell? ⟨T,0,none⟩ = some (.pointer p):=k3.cell 0
  have t1:w5.cell? ⟨T,1,none⟩ = some (.bool tl):=k3.cell 1
  have t2:w5.cell? ⟨T,2,none⟩ = some (.int .i64 eo):=k3.cell 2
  have d0:w5.cell? ⟨H,0,none⟩ = some (.slice xB xm xd):=k2.cell 0
  have d1:w5.cell? ⟨H,1,none⟩ = some (.bool xt):=k2.cell 1
  have d2:w5.cell? ⟨H,2,none⟩ = some (.int .i64 xe):=k2.cell 2
  have a0:w5.cell? ⟨RB,0,none⟩ = some (.pointer none):=k4.cell 0
  have a1:w5.cell? ⟨RB,1,none⟩ = some (.bool false):=k4.cell 1
  have a2:w5.cell? ⟨RB,2,none⟩ = some (.int .i64 0):=k4.cell 2
  have b0:w5.cell? ⟨RD,0,none⟩ = some (.slice none 0 0):=k5.cell 0
  have b1:w5.cell? ⟨RD,1,none⟩ = some (.bool false):=k5.cell 1
  have b2:w5.cell? ⟨RD,2,none⟩ = some (.int .i64 0):=k5.cell 2
  have y0:=k4.frozen 0
  have y1:=k4.frozen 1
  have y2:=k4.frozen 2
  have z0:=k5.frozen 0
  have z1:=k5.frozen 1
  have z2:=k5.frozen 2
  have ly:=k4.lt
  have lz:=k5.lt
  have ne1:¬ RB = RD:=HTN.out.2.2.2.1
  have ne2:¬ RD = RB:=fun e => ne1 e.symm
  have ne3:¬ T = RB:=by have:=HTN.out; omega
  have ne4:¬ T = RD:=by have:=HTN.out; omega
  have ne5:¬ H = RB:=by have:=HTN.out; omega
  have ne6:¬ H = RD:=by have:=HTN.out; omega
  have HTT:Hid (T < H):=k8
  have HSUB:Hid ((∀ i,i < w5.heap.size → some i ∈ [some RB,some RD] → some i ∈ some RB :: some RD :: E) ∧ ∀ k,some k ∈ E → some k ∈ (some RB :: some RD :: E) ∨ w5.heap.size ≤ k):=⟨fun i _ h => by
    rcases List.mem_cons.1 h with e | e
    · rw [e]; exact List.mem_cons_self ..
    · rw [List.mem_singleton] at e; rw [e]; exact List.mem_cons_of_mem _ (List.mem_cons_self ..),fun k hk => .inl (List.mem_cons_of_mem _ (List.mem_cons_of_mem _ hk))⟩
  have HFIN:Hid (∀ w',Fr [some RB,some RD] w5 w' → BegunAnsE E w s (.returned (.tuple #[.agg #[.pointer p,.bool tl,.int .i64 eo],.pointer (some ⟨g,0,none⟩),.agg #[.slice xB xm xd,.bool xt,.int .i64 xe],.bool (decide (n = 0))])) w'):=by
    show ∀ _,_
    intro w' hf
    have h1:=HTN.out
    refine ⟨g,p,tl,eo,sA,rs,⟨xB,xm,xd,xrs,xt,xe⟩,by rw [← HN.out],HX5.out.grow (hf.weaken HSUB.out.1) HSUB.out.2,HXP.out,HD5.out.grow (hf.weaken HSUB.out.1) HSUB.out.2,HF5.out.seq hf fun x hx => ?_⟩
    rcases List.mem_cons.1 hx with e | e
    · exact .inr (.inr ⟨RB,by omega,e⟩)
    · rw [List.mem_singleton] at e; exact .inr (.inr ⟨RD,by omega,e⟩)
  clear hw5 hH k1 k2 k3 k4 k5 k6 k7 k8 HW4
  by_cases h0:n = 0
  · have h1:(n:Int) = 0:=by omega
    have h2:((n:Int) == 0) = true:=by rw [h1]; rfl
    have h3:decide (n = 0) = true:=decide_eq_true h0
    rw [h3] at HFIN
    clear h0 h3
    go_region
    go_wp2_with fail
    refine bodyPost_ret (v:=.tuple #[.agg #[.pointer p,.bool tl,.int .i64 eo],.pointer (some ⟨g,0,none⟩),.agg #[.slice xB xm xd,.bool xt,.int .i64 xe],.bool true]) (by simp [results,Tryz.results20,go_sem, *]) rfl ?_
    refine HFIN.out _ ?_
    exact (((((((Fr.refl [some RB,some RD] w5).setB (fun _ => by simp) _ _).setB (fun _ => by simp) _ _).setB (fun _ => by simp) _ _).setB (fun _ => by simp) _ _).setB (fun _ => by simp) _ _).setB (fun _ => by simp) _ _).drew
  · have h1:¬ (n:Int) = 0:=by omega
    have h2:((n:Int) == 0) = false:=by simpa using h1
    have h3:decide (n = 0) = false:=decide_eq_false h0
    rw [h3] at HFIN
    clear h0 h3
    go_region
    go_wp2_with fail
    refine bodyPost_ret (v:=.tuple #[.agg #[.pointer p,.bool tl,.int .i64 eo],.pointer (some ⟨g,0,none⟩),.agg #[.slice xB xm xd,.bool xt,.int .i64 xe],.bool false]) (by simp [results,Tryz.results20,go_sem, *]) rfl ?_
    refine HFIN.out _ ?_
    exact (((((((Fr.refl [some RB,some RD] w5).setB (fun _ => by simp) _ _).setB (fun _ => by simp) _ _).setB (fun _ => by simp) _ _).setB (fun _ => by simp) _ _).setB (fun _ => by simp) _ _).setB (fun _ => by simp) _ _).drew
end Go.Proofs.YteohomdiklkbfaaGreat
