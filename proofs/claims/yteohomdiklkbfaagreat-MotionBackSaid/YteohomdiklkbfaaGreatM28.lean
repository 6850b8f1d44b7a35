import Derived.Test.YteohomdiklkbfaaGreatM17
import Derived.Test.YteohomdiklkbfaaGreatM27
namespace Go.Proofs.YteohomdiklkbfaaGreat
open Go.RowKit Go.Proofs.Dm

def ccell (s:List UInt8) (x:CV):DC:=⟨atP s (plc x.sp),if x.kept then cutP s x.a x.n else [],x.kept⟩
abbrev Pic:Type:=List DC × Int × Bool
def rpic (s:List UInt8) (r:RW):Pic:=(r.2.map (ccell s),r.1.e,r.1.h)
structure GD where
  B:Option Addr
  m:Nat
  d:Nat
  rs:List RD
  t:Bool
  e:Int
def GD.v (g:GD):Value:=.agg #[.slice g.B g.m g.d,.bool g.t,.int .i64 g.e]
def GDAt (g:GD) (w:World):Prop:=Sl w g.B (rdc g.rs) ∧ g.m = g.rs.length ∧ ∀ x ∈ g.rs,RDAt x w
def GD.pic (g:GD):List (List DC × Int × Bool) × Bool × Int:=(g.rs.map RD.pic,g.t,g.e)
theorem rpic_line (s:List UInt8) (r:RW) (l:LineP) (h:rview r = lview l):rpic s r = lpic s l:=by
  have he:r.1.e = (l.e:Int):=congrArg Prod.fst h
  have hh:r.1.h = false:=congrArg (fun x => x.2.1) h
  have hc:r.2.map CV.view = l.fields.map fview:=congrArg (fun x => x.2.2) h
  have h1:r.2.map (ccell s) = (r.2.map CV.view).map fun v => (⟨atP s v.1,if v.2.2.2 then cutP s v.2.1 v.2.2.1 else [],v.2.2.2⟩:DC):=by rw [List.map_map]; rfl
  have h2:l.fields.map (fcell s) = (l.fields.map fview).map fun v => (⟨atP s v.1,if v.2.2.2 then cutP s v.2.1 v.2.2.1 else [],v.2.2.2⟩:DC):=by rw [List.map_map]; rfl
  show (_,_,_) = (_,_,_)
  rw [h1,hc,← h2,he,hh]
theorem rpics (s:List UInt8) (rs:List RW) (ls:List LineP) (h:rs.map rview = ls.map lview):rs.map (rpic s) = ls.map (lpic s):=by
  induction rs generalizing ls with
  | nil => cases ls with
    | nil => rfl
    | cons l ls => cases h
  | cons r rs ih => cases ls with
    | nil => cases h
    | cons l ls =>
      rw [List.map_cons,List.map_cons] at h
      injection h with h1 h2
      rw [List.map_cons,List.map_cons,rpic_line s r l h1,ih ls h2]
section
variable {rs:List RW} {ls:List LineP}
theorem view_len (h:rs.map rview = ls.map lview):rs.length = ls.length:=by
  have:=congrArg List.length h
  simpa using this
theorem view_flds (h:rs.map rview = ls.map lview):rs.map (·.2.length) = ls.map (·.fields.length):=by
  have h1:rs.map (·.2.length) = (rs.map rview).map (·.2.2.length):=by rw [List.map_map]; apply List.map_congr_left; intro r _; simp [rview]
  have h2:ls.map (·.fields.length) = (ls.map lview).map (·.2.2.length):=by rw [List.map_map]; apply List.map_congr_left; intro r _; simp [lview]
  rw [h1,h2,h]
end
def docPic (s:List UInt8):List Pic × Bool × Int :=
  if loadErrP s = 0 then ((allLines s).map (lpic s),tailP ((allLines s).map (·.e)),((eolP ((allLines s).map (·.e)):Nat):Int)) else ([],false,2)
structure PG (s:List UInt8) (g:Nat) (p:Option Addr) (tl:Bool) (eo:Int) (sA:List UInt8) (rs:List RW) (w:World):Prop where
  ar:ArAt g sA w
  tr:TreeAt TN [] w p (rs.map Prod.fst)
  ok:RowsAt [] w sA.length rs
  pic:(rs.map (rpic sA),tl,eo) = docPic s
  no:loadErrP s ≠ 0 → rs = [] ∧ sA = [] ∧ tl = false ∧ eo = 2
  yes:loadErrP s = 0 → sA = s ∧ rs.map rview = (allLines s).map lview ∧ tl = tailP ((allLines s).map (·.e)) ∧ eo = ((eolP ((allLines s).map (·.e)):Nat):Int) ∧ (allLines s).length ≤ 400
theorem PG.fr0 {s sA:List UInt8} {g:Nat} {p:Option Addr} {tl:Bool} {eo:Int} {rs:List RW} {w w':World} (h:PG s g p tl eo sA rs w) (hf:Fr [] w w'):PG s g p tl eo sA rs w' :=
  ⟨h.ar.fr0 hf,h.tr.fr0 hf,h.ok.grow hf fun k hk => .inl hk,h.pic,h.no,h.yes⟩
theorem errP_rows (ls:List LineP) (h:errP ls = 0):∀ l ∈ ls,l.fields.length ≤ 40:=by
  induction ls with
  | nil => intro l hl; simp at hl
  | cons a ls ih =>
    have h1:(if rowErrP a.fields = 0 then errP ls else rowErrP a.fields) = 0:=h
    split at h1
    · rename_i h2
      intro l hl
      rcases List.mem_cons.1 hl with rfl | hl
      · unfold rowErrP at h2
        split at h2
        · cases h2
        · omega
      · exact ih h1 l hl
    · rename_i h2
      exact absurd h1 h2
section
variable {s sA:List UInt8} {g:Nat} {p:Option Addr} {tl:Bool} {eo:Int} {rs:List RW} {w:World}
theorem PG.key (h:PG s g p tl eo sA rs w) (h0:loadErrP s = 0) (hs:s.length ≤ 5000):sA = s ∧ rs.length ≤ 400 ∧ ∀ r ∈ rs,r.1.n = r.2.length ∧ r.2.length ≤ 40 ∧ ∀ c ∈ r.2,(plc c.sp).length ≤ 1000000:=by
  obtain ⟨h1,hv,_,_,h4⟩:=h.yes h0
  have h5:errP (allLines s) = 0:=by
    unfold loadErrP at h0
    split at h0
    · cases h0
    · split at h0
      · cases h0
      · exact h0
  refine ⟨h1,by rw [view_len hv]; omega,fun r hr => ⟨(h.ok r hr).1,?_,fun c hc => ?_⟩⟩
  · have h6:r.2.length ∈ rs.map (·.2.length):=List.mem_map.2 ⟨r,hr,rfl⟩
    rw [view_flds hv] at h6
    obtain ⟨l,hl,hl2⟩:=List.mem_map.1 h6
    have:=errP_rows _ h5 l hl
    omega
  · have h1:rview r ∈ (allLines s).map lview:=by rw [← hv]; exact List.mem_map.2 ⟨r,hr,rfl⟩
    obtain ⟨l,hl,hl2⟩:=List.mem_map.1 h1
    have h2:r.2.map CV.view = l.fields.map fview:=congrArg (fun x => x.2.2) hl2.symm
    have h3:CV.view c ∈ l.fields.map fview:=by rw [← h2]; exact List.mem_map.2 ⟨c,hc,rfl⟩
    obtain ⟨f,hf,hf2⟩:=List.mem_map.1 h3
    have h5:plc c.sp = f.places:=(congrArg Prod.fst hf2).symm
    have:=(linesP_bd s (s.length + 1) 0 l hl f hf).2
    rw [h5]
    omega
end
end Go.Proofs.YteohomdiklkbfaaGreat
