import Derived.Test.YteohomdiklkbfaaGreatA38
import Derived.Test.YteohomdiklkbfaaGreatA17
import Derived.Test.YteohomdiklkbfaaGreatA28
import Derived.Test.YteohomdiklkbfaaGreatA29
import Derived.Test.YteohomdiklkbfaaGreatA22
import Derived.IntWalk
import Derived.Deep.LoopGhost
namespace Go.Proofs.YteohomdiklkbfaaGreat
open Go.RowKit Go.Proofs.Dm

def NewG (E:List (Option Nat)) (N i rn:Nat) (re:Int) (cs:List CV) (xs:List RV) (q:Option Addr) (w:World):Prop :=
  ∃ A c,rn ≤ c ∧ Kp E w (RowAt N A cs) ∧ TreeAt TN E w q (xs.set i ⟨A,rn,c,re,true⟩)
theorem NewG.fr {E:List (Option Nat)} {N i rn:Nat} {re:Int} {cs:List CV} {xs:List RV} {q:Option Addr} {w w':World} (h:NewG E N i rn re cs xs q w) (hf:Fr E w w'):NewG E N i rn re cs xs q w':=by
  obtain ⟨A,c,h1,h2,h3⟩:=h
  exact ⟨A,c,h1,h2.fr hf,h3.fr hf⟩
structure HG (E:List (Option Nat)) (s:List UInt8) (g:Nat) (p:Option Addr) (tl:Bool) (eo:Int) (rs:List RW) (x:GD) (w:World):Prop where
  ar:Kp E w (ArAt g s)
  tr:TreeAt TN E w p (rs.map Prod.fst)
  ok:RowsAt E w s.length rs
  gd:Kp E w (GDAt x)
  pic:(rs.map (rpic s),tl,eo) = x.pic
  len:rs.length ≤ 400
  bd:∀ r ∈ rs,r.2.length ≤ 40 ∧ ∀ c ∈ r.2,(plc c.sp).length ≤ 1000000
  sl:s.length ≤ 5000
section
variable {E E':List (Option Nat)} {s:List UInt8} {g:Nat} {p:Option Addr} {tl:Bool} {eo:Int} {rs:List RW} {x:GD} {w w':World}
theorem HG.grow (h:HG E s g p tl eo rs x w) (hf:Fr E w w') (hE:∀ k,some k ∈ E' → some k ∈ E ∨ w.heap.size ≤ k):HG E' s g p tl eo rs x w' :=
  ⟨h.ar.grow hf hE,h.tr.grow hf hE,h.ok.grow hf hE,h.gd.grow hf hE,h.pic,h.len,h.bd,h.sl⟩
theorem HG.fr0 (h:HG E s g p tl eo rs x w) (hf:Fr [] w w'):HG E s g p tl eo rs x w':=h.grow hf.of_nil fun _ hk => .inl hk
theorem HG.frE (h:HG E s g p tl eo rs x w) (hf:Fr E w w'):HG E s g p tl eo rs x w':=h.grow hf fun _ hk => .inl hk
theorem HG.xl (h:HG E s g p tl eo rs x w):x.m = rs.length ∧ x.rs.length = rs.length ∧ x.t = tl ∧ x.e = eo:=by
  have h1:rs.map (rpic s) = x.rs.map RD.pic:=congrArg Prod.fst h.pic
  have h2:=congrArg List.length h1
  rw [List.length_map,List.length_map] at h2
  exact ⟨by rw [h.gd.now.2.1]; exact h2.symm,h2.symm,(congrArg (fun y => y.2.1) h.pic).symm,(congrArg (fun y => y.2.2) h.pic).symm⟩
theorem HG.of {sA:List UInt8} (h:PGk E s g p tl eo sA rs w) (hx:x.pic = docPic s) (hg:Kp E w (GDAt x)) (hs:s.length ≤ 5000):HG E sA g p tl eo rs x w:=by
  refine ⟨h.ar,h.tr,h.ok,hg,h.pic.trans hx.symm,?_,?_,?_⟩
  · by_cases h0:loadErrP s = 0
    · exact (h.pg.key h0 hs).2.1
    · rw [(h.no h0).1]; exact Nat.zero_le _
  · by_cases h0:loadErrP s = 0
    · intro r hr
      have:=(h.pg.key h0 hs).2.2 r hr
      exact ⟨this.2.1,this.2.2⟩
    · rw [(h.no h0).1]; intro r hr; simp at hr
  · by_cases h0:loadErrP s = 0
    · rw [(h.yes h0).1]; exact hs
    · rw [(h.no h0).2.1]; exact Nat.zero_le _
theorem mem_set {α:Type} {l:List α} {i:Nat} {a b:α} (h:b ∈ l.set i a):b ∈ l ∨ b = a:=List.mem_or_eq_of_mem_set h
theorem HG.hide {i:Nat} {A:Option Addr} {c:Nat} {C:Option Addr} {d:Nat} {q:Option Addr} {r:RW} {y:RD} (h:HG E s g p tl eo rs x w) (hr:rs[i]? = some r) (hy:x.rs[i]? = some y)
    (hc:r.1.n ≤ c) (hk:Kp E w (RowAt s.length A r.2)) (ht:TreeAt TN E w q ((rs.map Prod.fst).set i ⟨A,r.1.n,c,r.1.e,true⟩)) (hd:Kp E w fun w => Sl w C (rdc (x.rs.set i ⟨y.B,y.m,y.d,y.cs,y.e,true⟩))) :
    HG E s g q tl eo (rs.set i (⟨A,r.1.n,c,r.1.e,true⟩,r.2)) ⟨C,x.rs.length,d,x.rs.set i ⟨y.B,y.m,y.d,y.cs,y.e,true⟩,x.t,x.e⟩ w:=by
  have hrm:r ∈ rs:=List.mem_of_getElem? hr
  have hym:y ∈ x.rs:=List.mem_of_getElem? hy
  have hp:rs.map (rpic s) = x.rs.map RD.pic:=congrArg Prod.fst h.pic
  have hpi:rpic s r = y.pic:=by
    have h1:(rs.map (rpic s))[i]? = (x.rs.map RD.pic)[i]?:=by rw [hp]
    rw [List.getElem?_map,List.getElem?_map,hr,hy] at h1
    injection h1
  refine ⟨h.ar,by rw [List.map_set]; exact ht,fun b hb => ?_,fun w' hf => ⟨hd w' hf,(List.length_set).symm,fun b hb => ?_⟩,?_,by rw [List.length_set]; exact h.len,fun b hb => ?_,h.sl⟩
  · rcases mem_set hb with hb | hb
    · exact h.ok b hb
    · rw [hb]; exact ⟨(h.ok r hrm).1,hc,hk⟩
  · rcases mem_set hb with hb | hb
    · exact (h.gd w' hf).2.2 b hb
    · rw [hb]; exact (h.gd w' hf).2.2 y hym
  · have h2:tl = x.t ∧ eo = x.e:=⟨h.xl.2.2.1.symm,h.xl.2.2.2.symm⟩
    rw [h2.1,h2.2]
    show (_,_,_) = ((x.rs.set i _).map RD.pic,_,_)
    congr 1
    rw [List.map_set,List.map_set,hp]
    congr 1
    have h3:r.2.map (ccell s) = y.cs ∧ r.1.e = y.e:=⟨congrArg Prod.fst hpi,congrArg (fun z => z.2.1) hpi⟩
    show (r.2.map (ccell s),r.1.e,true) = (y.cs,y.e,true)
    rw [h3.1,h3.2]
  · rcases mem_set hb with hb | hb
    · exact h.bd b hb
    · rw [hb]; exact h.bd r hrm
end
structure R9h (E:List (Option Nat)) (W0:World) (GB N i rn rc:Nat) (p rA:Option Addr) (tl rh:Bool) (eo re:Int) (cs:List CV) (xs:List RV) (f:Nat → Bool) (u51 u52 u53 u54 u55 u56 u57 u58:Value) (w:World):Prop where
  w0:Fr [some GB] W0 w
  w1:f 8 = false → Fr [] W0 w
  d8:f 8 = true → f 6 = true
  s0:f 0 = true → u52 = .agg #[.pointer p,.bool tl,.int .i64 eo]
  s1:f 1 = true → u53 = .int .i64 (i:Nat)
  s2:f 2 = true → u54 = .agg #[.slice rA rn rc,.int .i64 re,.bool rh]
  s3:f 3 = true → ∃ A c,u55 = .agg #[.slice A rn c,.int .i64 re,.bool true] ∧ rn ≤ c ∧ Kp E w (RowAt N A cs)
  s4:f 4 = true → ∃ q,u56 = .tuple #[.agg #[.pointer q,.bool tl,.int .i64 eo],.int .i64 0] ∧ NewG E N i rn re cs xs q w
  s5:f 5 = true → ∃ q,u51 = .tuple #[.agg #[.pointer q,.bool tl,.int .i64 eo],.int .i64 0] ∧ NewG E N i rn re cs xs q w
  s6:f 6 = true → ∃ q,u57 = .agg #[.pointer q,.bool tl,.int .i64 eo] ∧ NewG E N i rn re cs xs q w ∧ (f 8 = true → Blk w GB TGr #[.pointer q,.bool tl,.int .i64 eo])
  s7:f 7 = true → u58 = .int .i64 0
section
variable {E:List (Option Nat)} {W0 w w2:World} {GB N i rn rc:Nat} {p rA:Option Addr} {tl rh:Bool} {eo re:Int} {cs:List CV} {xs:List RV} {f:Nat → Bool} {u51 u52 u53 u54 u55 u56 u57 u58:Value}
theorem R9h.p0 (h:R9h E W0 GB N i rn rc p rA tl rh eo re cs xs f u51 u52 u53 u54 u55 u56 u57 u58 w):R9h E W0 GB N i rn rc p rA tl rh eo re cs xs (addB f 0) u51 (.agg #[.pointer p,.bool tl,.int .i64 eo]) u53 u54 u55 u56 u57 u58 w:=by
  exact ⟨h.w0,
    (kpB h.w1),
    (fun hh => addB_of _ (h.d8 ((addB_ne (by decide)).symm.trans hh))),
    (fun _ => rfl),
    (kpB h.s1),
    (kpB h.s2),
    (fun hh => by obtain ⟨A,c,x1,x2,x3⟩:=h.s3 ((addB_ne (by decide)).symm.trans hh); exact ⟨A,c,x1,x2,x3⟩),
    (fun hh => by obtain ⟨q,x1,x2⟩:=h.s4 ((addB_ne (by decide)).symm.trans hh); exact ⟨q,x1,x2⟩),
    (fun hh => by obtain ⟨q,x1,x2⟩:=h.s5 ((addB_ne (by decide)).symm.trans hh); exact ⟨q,x1,x2⟩),
    (fun hh => by obtain ⟨q,x1,x2,x3⟩:=h.s6 ((addB_ne (by decide)).symm.trans hh); exact ⟨q,x1,x2,fun q8 => x3 ((addB_ne (by decide)).symm.trans q8)⟩),
    (kpB h.s7)⟩
theorem R9h.p1 (h:R9h E W0 GB N i rn rc p rA tl rh eo re cs xs f u51 u52 u53 u54 u55 u56 u57 u58 w):R9h E W0 GB N i rn rc p rA tl rh eo re cs xs (addB f 1) u51 u52 (.int .i64 (i:Nat)) u54 u55 u56 u57 u58 w:=by
  exact ⟨h.w0,
    (kpB h.w1),
    (fun hh => addB_of _ (h.d8 ((addB_ne (by decide)).symm.trans hh))),
    (kpB h.s0),
    (fun _ => rfl),
    (kpB h.s2),
    (fun hh => by obtain ⟨A,c,x1,x2,x3⟩:=h.s3 ((addB_ne (by decide)).symm.trans hh); exact ⟨A,c,x1,x2,x3⟩),
    (fun hh => by obtain ⟨q,x1,x2⟩:=h.s4 ((addB_ne (by decide)).symm.trans hh); exact ⟨q,x1,x2⟩),
    (fun hh => by obtain ⟨q,x1,x2⟩:=h.s5 ((addB_ne (by decide)).symm.trans hh); exact ⟨q,x1,x2⟩),
    (fun hh => by obtain ⟨q,x1,x2,x3⟩:=h.s6 ((addB_ne (by decide)).symm.trans hh); exact ⟨q,x1,x2,fun q8 => x3 ((addB_ne (by decide)).symm.trans q8)⟩),
    (kpB h.s7)⟩
theorem R9h.p2 (h:R9h E W0 GB N i rn rc p rA tl rh eo re cs xs f u51 u52 u53 u54 u55 u56 u57 u58 w):R9h E W0 GB N i rn rc p rA tl rh eo re cs xs (addB f 2) u51 u52 u53 (.agg #[.slice rA rn rc,.int .i64 re,.bool rh]) u55 u56 u57 u58 w:=by
  exact ⟨h.w0,
    (kpB h.w1),
    (fun hh => addB_of _ (h.d8 ((addB_ne (by decide)).symm.trans hh))),
    (kpB h.s0),
    (kpB h.s1),
    (fun _ => rfl),
    (fun hh => by obtain ⟨A,c,x1,x2,x3⟩:=h.s3 ((addB_ne (by decide)).symm.trans hh); exact ⟨A,c,x1,x2,x3⟩),
    (fun hh => by obtain ⟨q,x1,x2⟩:=h.s4 ((addB_ne (by decide)).symm.trans hh); exact ⟨q,x1,x2⟩),
    (fun hh => by obtain ⟨q,x1,x2⟩:=h.s5 ((addB_ne (by decide)).symm.trans hh); exact ⟨q,x1,x2⟩),
    (fun hh => by obtain ⟨q,x1,x2,x3⟩:=h.s6 ((addB_ne (by decide)).symm.trans hh); exact ⟨q,x1,x2,fun q8 => x3 ((addB_ne (by decide)).symm.trans q8)⟩),
    (kpB h.s7)⟩
theorem R9h.p7 (h:R9h E W0 GB N i rn rc p rA tl rh eo re cs xs f u51 u52 u53 u54 u55 u56 u57 u58 w):R9h E W0 GB N i rn rc p rA tl rh eo re cs xs (addB f 7) u51 u52 u53 u54 u55 u56 u57 (.int .i64 0) w:=by
  exact ⟨h.w0,
    (kpB h.w1),
    (fun hh => addB_of _ (h.d8 ((addB_ne (by decide)).symm.trans hh))),
    (kpB h.s0),
    (kpB h.s1),
    (kpB h.s2),
    (fun hh => by obtain ⟨A,c,x1,x2,x3⟩:=h.s3 ((addB_ne (by decide)).symm.trans hh); exact ⟨A,c,x1,x2,x3⟩),
    (fun hh => by obtain ⟨q,x1,x2⟩:=h.s4 ((addB_ne (by decide)).symm.trans hh); exact ⟨q,x1,x2⟩),
    (fun hh => by obtain ⟨q,x1,x2⟩:=h.s5 ((addB_ne (by decide)).symm.trans hh); exact ⟨q,x1,x2⟩),
    (fun hh => by obtain ⟨q,x1,x2,x3⟩:=h.s6 ((addB_ne (by decide)).symm.trans hh); exact ⟨q,x1,x2,fun q8 => x3 ((addB_ne (by decide)).symm.trans q8)⟩),
    (fun _ => rfl)⟩
theorem R9h.p3 {A:Option Addr} {c:Nat} (hc:rn ≤ c) (hk:Kp E w2 (RowAt N A cs)) (hf:Fr [] w w2) (n8:f 8 = false) (h:R9h E W0 GB N i rn rc p rA tl rh eo re cs xs f u51 u52 u53 u54 u55 u56 u57 u58 w):R9h E W0 GB N i rn rc p rA tl rh eo re cs xs (addB f 3) u51 u52 u53 u54 (.agg #[.slice A rn c,.int .i64 re,.bool true]) u56 u57 u58 w2:=by
  exact ⟨h.w0.trans hf.of_nil,
    (fun hh => (h.w1 n8).trans hf),
    (fun hh => absurd ((addB_ne (by decide)).symm.trans hh) (by rw [n8]; simp)),
    (kpB h.s0),
    (kpB h.s1),
    (kpB h.s2),
    (fun _ => ⟨A,c,rfl,hc,hk⟩),
    (fun hh => by obtain ⟨q,x1,x2⟩:=h.s4 ((addB_ne (by decide)).symm.trans hh); exact ⟨q,x1,(x2).fr hf.of_nil⟩),
    (fun hh => by obtain ⟨q,x1,x2⟩:=h.s5 ((addB_ne (by decide)).symm.trans hh); exact ⟨q,x1,(x2).fr hf.of_nil⟩),
    (fun hh => by obtain ⟨q,x1,x2,x3⟩:=h.s6 ((addB_ne (by decide)).symm.trans hh); exact ⟨q,x1,x2.fr hf.of_nil,fun q8 => absurd (((addB_ne (by decide)).symm.trans q8)) (by rw [n8]; simp)⟩),
    (kpB h.s7)⟩
theorem R9h.p4 {q:Option Addr} (hg:NewG E N i rn re cs xs q w2) (hf:Fr [] w w2) (n8:f 8 = false) (h:R9h E W0 GB N i rn rc p rA tl rh eo re cs xs f u51 u52 u53 u54 u55 u56 u57 u58 w):R9h E W0 GB N i rn rc p rA tl rh eo re cs xs (addB f 4) u51 u52 u53 u54 u55 (.tuple #[.agg #[.pointer q,.bool tl,.int .i64 eo],.int .i64 0]) u57 u58 w2:=by
  exact ⟨h.w0.trans hf.of_nil,
    (fun hh => (h.w1 n8).trans hf),
    (fun hh => absurd ((addB_ne (by decide)).symm.trans hh) (by rw [n8]; simp)),
    (kpB h.s0),
    (kpB h.s1),
    (kpB h.s2),
    (fun hh => by obtain ⟨A,c,x1,x2,x3⟩:=h.s3 ((addB_ne (by decide)).symm.trans hh); exact ⟨A,c,x1,x2,(x3).fr hf.of_nil⟩),
    (fun _ => ⟨q,rfl,hg⟩),
    (fun hh => by obtain ⟨q,x1,x2⟩:=h.s5 ((addB_ne (by decide)).symm.trans hh); exact ⟨q,x1,(x2).fr hf.of_nil⟩),
    (fun hh => by obtain ⟨q,x1,x2,x3⟩:=h.s6 ((addB_ne (by decide)).symm.trans hh); exact ⟨q,x1,x2.fr hf.of_nil,fun q8 => absurd (((addB_ne (by decide)).symm.trans q8)) (by rw [n8]; simp)⟩),
    (kpB h.s7)⟩
theorem R9h.p5 (d4:f 4 = true) (h:R9h E W0 GB N i rn rc p rA tl rh eo re cs xs f u51 u52 u53 u54 u55 u56 u57 u58 w):R9h E W0 GB N i rn rc p rA tl rh eo re cs xs (addB f 5) (u56) u52 u53 u54 u55 u56 u57 u58 w:=by
  exact ⟨h.w0,
    (kpB h.w1),
    (fun hh => addB_of _ (h.d8 ((addB_ne (by decide)).symm.trans hh))),
    (kpB h.s0),
    (kpB h.s1),
    (kpB h.s2),
    (fun hh => by obtain ⟨A,c,x1,x2,x3⟩:=h.s3 ((addB_ne (by decide)).symm.trans hh); exact ⟨A,c,x1,x2,x3⟩),
    (fun hh => by obtain ⟨q,x1,x2⟩:=h.s4 ((addB_ne (by decide)).symm.trans hh); exact ⟨q,x1,x2⟩),
    (fun _ => h.s4 d4),
    (fun hh => by obtain ⟨q,x1,x2,x3⟩:=h.s6 ((addB_ne (by decide)).symm.trans hh); exact ⟨q,x1,x2,fun q8 => x3 ((addB_ne (by decide)).symm.trans q8)⟩),
    (kpB h.s7)⟩
theorem R9h.p6 {q:Option Addr} (hg:NewG E N i rn re cs xs q w) (n8:f 8 = false) (h:R9h E W0 GB N i rn rc p rA tl rh eo re cs xs f u51 u52 u53 u54 u55 u56 u57 u58 w):R9h E W0 GB N i rn rc p rA tl rh eo re cs xs (addB f 6) u51 u52 u53 u54 u55 u56 (.agg #[.pointer q,.bool tl,.int .i64 eo]) u58 w:=by
  exact ⟨h.w0,
    (kpB h.w1),
    (fun hh => absurd ((addB_ne (by decide)).symm.trans hh) (by rw [n8]; simp)),
    (kpB h.s0),
    (kpB h.s1),
    (kpB h.s2),
    (fun hh => by obtain ⟨A,c,x1,x2,x3⟩:=h.s3 ((addB_ne (by decide)).symm.trans hh); exact ⟨A,c,x1,x2,x3⟩),
    (fun hh => by obtain ⟨q,x1,x2⟩:=h.s4 ((addB_ne (by decide)).symm.trans hh); exact ⟨q,x1,x2⟩),
    (fun hh => by obtain ⟨q,x1,x2⟩:=h.s5 ((addB_ne (by decide)).symm.trans hh); exact ⟨q,x1,x2⟩),
    (fun _ => ⟨q,rfl,hg,fun q8 => absurd (((addB_ne (by decide)).symm.trans q8)) (by rw [n8]; simp)⟩),
    (kpB h.s7)⟩
theorem R9h.p8 {q:Option Addr} (e6:u57 = .agg #[.pointer q,.bool tl,.int .i64 eo]) (hg:NewG E N i rn re cs xs q w) (hE:some GB ∈ E) (hf:Fr [some GB] w w2) (hb:Blk w2 GB TGr #[.pointer q,.bool tl,.int .i64 eo]) (d6:f 6 = true) (h:R9h E W0 GB N i rn rc p rA tl rh eo re cs xs f u51 u52 u53 u54 u55 u56 u57 u58 w):R9h E W0 GB N i rn rc p rA tl rh eo re cs xs (addB f 8) u51 u52 u53 u54 u55 u56 u57 u58 w2:=by
  exact ⟨h.w0.trans hf,
    (fun hh => by rw [addB_self] at hh; cases hh),
    (fun _ => addB_of _ d6),
    (kpB h.s0),
    (kpB h.s1),
    (kpB h.s2),
    (fun hh => by obtain ⟨A,c,x1,x2,x3⟩:=h.s3 ((addB_ne (by decide)).symm.trans hh); exact ⟨A,c,x1,x2,(x3).fr (hf.weaken fun _ _ e => by rw [List.mem_singleton] at e; rw [e]; exact hE)⟩),
    (fun hh => by obtain ⟨q,x1,x2⟩:=h.s4 ((addB_ne (by decide)).symm.trans hh); exact ⟨q,x1,(x2).fr (hf.weaken fun _ _ e => by rw [List.mem_singleton] at e; rw [e]; exact hE)⟩),
    (fun hh => by obtain ⟨q,x1,x2⟩:=h.s5 ((addB_ne (by decide)).symm.trans hh); exact ⟨q,x1,(x2).fr (hf.weaken fun _ _ e => by rw [List.mem_singleton] at e; rw [e]; exact hE)⟩),
    (fun _ => ⟨q,e6,hg.fr (hf.weaken fun _ _ e => by rw [List.mem_singleton] at e; rw [e]; exact hE),fun _ => hb⟩),
    (kpB h.s7)⟩
end
end Go.Proofs.YteohomdiklkbfaaGreat
namespace Go.Proofs.YteohomdiklkbfaaGreat
open Go.RowKit Go.Proofs.Dm

theorem HG.tr0 {E:List (Option Nat)} {s:List UInt8} {g:Nat} {p:Option Addr} {tl:Bool} {eo:Int} {rs:List RW} {x:GD} {w:World} (h:HG E s g p tl eo rs x w):TreeAt TN [] w p (rs.map Prod.fst):=h.tr.grow (Fr.refl _ _) fun k hk => by simp at hk
def HideG (w:World) (en:Ending) (w':World):Prop :=
  ∃ (g:Nat) (p:Option Addr) (tl:Bool) (eo:Int) (s:List UInt8) (rs:List RW) (x:GD) (ok:Bool),en = .returned (.tuple #[.agg #[.pointer p,.bool tl,.int .i64 eo],.pointer (some ⟨g,0,none⟩),.agg #[.slice x.B x.m x.d,.bool x.t,.int .i64 x.e],.bool ok]) ∧ HG [] s g p tl eo rs x w' ∧ Fr [] w w'
structure HLp (W3 w:World) (G8 D10:Nat) (E:List (Option Nat)) (s:List UInt8) (g n:Nat) (tl:Bool) (eo:Int) (p:Option Addr) (rs:List RW) (x:GD):Prop where
  gb:Blk w G8 TGr #[.pointer p,.bool tl,.int .i64 eo]
  db:Blk w D10 TD11 #[.slice x.B x.m x.d,.bool x.t,.int .i64 x.e]
  hg:HG E s g p tl eo rs x w
  ln:rs.length = n
  fr:Fr [some G8,some D10] W3 w
theorem HLp.fr0 {W3 w w':World} {G8 D10:Nat} {E:List (Option Nat)} {s:List UInt8} {g n:Nat} {tl:Bool} {eo:Int} {p:Option Addr} {rs:List RW} {x:GD} (h:HLp W3 w G8 D10 E s g n tl eo p rs x) (hf:Fr [] w w'):HLp W3 w' G8 D10 E s g n tl eo p rs x :=
  ⟨h.gb.fr hf (by simp),h.db.fr hf (by simp),h.hg.fr0 hf,h.ln,h.fr.trans hf.of_nil⟩
set_option maxRecDepth 100000 in
set_option maxHeartbeats 3200000 in
theorem hide_any (w:World) (s0:List UInt8) (m:Int):Calls Tryz.prog 7 #[.string ⟨s0.toArray⟩,.int .u64 m] w (HideG w):=by
  obtain ⟨s,hs⟩:∃ s,s = s0.take 1500:=⟨_,rfl⟩
  obtain ⟨W1,hW1⟩:∃ W1,W1 = (w.alloc (.cells #[.pointer none,.bool false,.int .i64 0] TGr)).alloc (.cells #[.slice none 0 0,.bool false,.int .i64 0] TD11):=⟨_,rfl⟩
  have HC:=Lib.hid (cut_k W1 s0 1500 (by omega))
  rw [← hs] at HC
  have HS:Hid (s.length ≤ 5000):=by show _ ≤ _; rw [hs,List.length_take]; omega
  have HW:Hid (Fr [] w W1 ∧ Blk W1 w.heap.size TGr #[.pointer none,.bool false,.int .i64 0] ∧ Blk W1 (w.heap.size + 1) TD11 #[.slice none 0 0,.bool false,.int .i64 0]):=by
    have b1:=Blk.new (w.alloc (.cells #[.pointer none,.bool false,.int .i64 0] TGr)) TD11 #[.slice none 0 0,.bool false,.int .i64 0]
    simp only [World.size_alloc] at b1
    rw [← hW1] at b1
    exact ⟨by rw [hW1]; exact ((Fr.refl [] w).alloc _).alloc _,by rw [hW1]; exact (Blk.new w _ _).alloc _,b1⟩
  obtain ⟨R4,hR4⟩:∃ R4,R4 = w.heap.size:=⟨_,rfl⟩
  obtain ⟨R6,hR6⟩:∃ R6,R6 = w.heap.size + 1:=⟨_,rfl⟩
  have HRN:Hid (R4 = w.heap.size ∧ R6 = w.heap.size + 1):=⟨hR4,hR6⟩
  rw [← hR6,← hR4] at HW
  have HBG:=Lib.hid (begun_allE [some R4,some R6] W1 s (fun k hk => by
    rcases List.mem_cons.1 hk with e | e
    · injection e with e; rw [e]; exact HW.out.2.1.lt
    · rw [List.mem_singleton] at e; injection e with e; rw [e]; exact HW.out.2.2.lt) HS.out)
  obtain ⟨ok,hok⟩:∃ ok,ok = decide (loadErrP s = 0):=⟨_,rfl⟩
  have HOK:=Lib.hid hok
  have HW1:=Lib.hid hW1
  clear hs hok hW1
  go_enter Tryz.func7,Tryz.ntmps7
  go_wp2_with fail
  rw [← HW1.out,← hR6,← hR4]
  clear hR4 hR6
  refine HC.out.mono ?_
  rintro en w1 ⟨rfl,rfl⟩
  clear HC
  go_wp2_with fail
  refine HBG.out.mono ?_
  rintro en w2 ⟨g,p0,tl,eo,sA,rs0,⟨xB,xm,xd,xrs,xt,xe⟩,rfl,hpg,hxp,hxa,hf2⟩
  rw [← HOK.out]
  have HG2:=Lib.hid (HG.of hpg hxp hxa HS.out)
  have HF2:=Lib.hid hf2
  clear hpg hxp hxa hf2 HBG HOK
  simp only
  obtain ⟨G8,hG8⟩:∃ G8,G8 = w2.heap.size:=⟨_,rfl⟩
  obtain ⟨D10,hD10⟩:∃ D10,D10 = w2.heap.size + 1:=⟨_,rfl⟩
  obtain ⟨W3,hW3⟩:∃ W3,W3 = (w2.alloc (.cells #[.pointer p0,.bool tl,.int .i64 eo] TGr)).alloc (.cells #[.slice xB xm xd,.bool xt,.int .i64 xe] TD11):=⟨_,rfl⟩
  have HE3:Hid (HLp W3 W3 G8 D10 [some G8,some D10,some R4,some R6] sA g rs0.length tl eo p0 rs0 ⟨xB,xm,xd,xrs,xt,xe⟩ ∧ Fr [] W1 W3):=by
    have b2:=Blk.new (w2.alloc (.cells #[.pointer p0,.bool tl,.int .i64 eo] TGr)) TD11 #[.slice xB xm xd,.bool xt,.int .i64 xe]
    rw [World.size_alloc,← hW3,← hD10] at b2
    have hf:Fr [] w2 W3:=by rw [hW3]; exact ((Fr.refl [] w2).alloc _).alloc _
    refine ⟨⟨by rw [hW3,hG8]; exact (Blk.new w2 TGr _).alloc _,b2,HG2.out.grow hf.of_nil (fun k hk => ?_),rfl,Fr.refl _ _⟩,HF2.out.trans hf⟩
    rcases List.mem_cons.1 hk with e | e
    · injection e with e; exact .inr (by omega)
    rcases List.mem_cons.1 e with e | e
    · injection e with e; exact .inr (by omega)
    · exact .inl e
  have HNE:Hid (R4 < w2.heap.size ∧ R6 < w2.heap.size ∧ R4 ≠ R6 ∧ G8 = w2.heap.size ∧ D10 = w2.heap.size + 1 ∧ w.heap.size ≤ w2.heap.size):=by
    have h1:=(HW.out.2.1.fr HF2.out (by simp)).lt
    have h2:=(HW.out.2.2.fr HF2.out (by simp)).lt
    have h3:=HRN.out
    have h4:=(HW.out.1.trans HF2.out).size
    exact ⟨h1,h2,by omega,hG8,hD10,h4⟩
  have HRB:Hid (∀ w',Fr [some G8,some D10] W3 w' → Blk w' R4 TGr #[.pointer none,.bool false,.int .i64 0] ∧ Blk w' R6 TD11 #[.slice none 0 0,.bool false,.int .i64 0]):=by
    show ∀ _,_
    intro w' hf
    have hn:=HNE.out
    have key:∀ k,k < w2.heap.size → some k ∉ [some G8,some D10]:=fun k hk e => by
      rcases List.mem_cons.1 e with e | e
      · injection e with e; omega
      · rw [List.mem_singleton] at e; injection e with e; omega
    exact ⟨(HW.out.2.1.fr HE3.out.2 (by simp)).fr hf (key _ hn.1),(HW.out.2.2.fr HE3.out.2 (by simp)).fr hf (key _ hn.2.1)⟩
  -- the end: from any such world
  have HFIN:Hid (∀ (w' w'':World) (p':Option Addr) (rs':List RW) (x':GD) (b:Bool),HLp W3 w' G8 D10 [some G8,some D10,some R4,some R6] sA g rs0.length tl eo p' rs' x' → Fr [some R4,some R6] w' w'' → HideG w (.returned (.tuple #[.agg #[.pointer p',.bool tl,.int .i64 eo],.pointer (some ⟨g,0,none⟩),.agg #[.slice x'.B x'.m x'.d,.bool x'.t,.int .i64 x'.e],.bool b])) w''):=by
    show ∀ _,_
    intro w' w'' p' rs' x' b h hf
    have hn:=HNE.out
    have hr:=HRN.out
    refine ⟨g,p',tl,eo,sA,rs',x',b,rfl,h.hg.grow (hf.weaken fun i _ e => ?_) (fun k hk => by simp at hk),((HW.out.1.trans HE3.out.2).seq h.fr fun i hi => ?_).seq hf fun i hi => ?_⟩
    · exact List.mem_cons_of_mem _ (List.mem_cons_of_mem _ e)
    · rcases List.mem_cons.1 hi with e | e
      · exact .inr (.inr ⟨G8,by omega,e⟩)
      · rw [List.mem_singleton] at e; exact .inr (.inr ⟨D10,by omega,e⟩)
    · rcases List.mem_cons.1 hi with e | e
      · exact .inr (.inr ⟨R4,by omega,e⟩)
      · rw [List.mem_singleton] at e; exact .inr (.inr ⟨R6,by omega,e⟩)
  have ne1:¬ R4 = R6:=HNE.out.2.2.1
  have ne2:¬ R6 = R4:=fun e => ne1 e.symm
  have ne3:¬ G8 = R4:=by have:=HNE.out; omega
  have ne4:¬ G8 = R6:=by have:=HNE.out; omega
  have ne5:¬ D10 = R4:=by have:=HNE.out; omega
  have ne6:¬ D10 = R6:=by have:=HNE.out; omega
  have ne7:¬ G8 = D10:=by have:=HNE.out; omega
  have ne8:¬ D10 = G8:=fun e => ne7 e.symm
  have HW3:=Lib.hid hW3
  clear hW3
  cases ok with
  | false =>
    go_wp2_with fail
    rw [← HW3.out,← hD10,← hG8]
    clear hD10 hG8
    have k3:=HE3.out.1.gb
    have k2:=HE3.out.1.db
    obtain ⟨k4,k5⟩:=HRB.out W3 (Fr.refl _ _)
    have t0:W3.cell? ⟨G8,0,none⟩ = some (.pointer p0):=k3.cell 0
    have t1:W3.cell? ⟨G8,1,none⟩ = some (.bool tl):=k3.cell 1
    have t2:W3.cell? ⟨G8,2,none⟩ = some (.int .i64 eo):=k3.cell 2
    have d0:W3.cell? ⟨D10,0,none⟩ = some (.slice xB xm xd):=k2.cell 0
    have d1:W3.cell? ⟨D10,1,none⟩ = some (.bool xt):=k2.cell 1
    have d2:W3.cell? ⟨D10,2,none⟩ = some (.int .i64 xe):=k2.cell 2
    have a0:W3.cell? ⟨R4,0,none⟩ = some (.pointer none):=k4.cell 0
    have a1:W3.cell? ⟨R4,1,none⟩ = some (.bool false):=k4.cell 1
    have a2:W3.cell? ⟨R4,2,none⟩ = some (.int .i64 0):=k4.cell 2
    have b0:W3.cell? ⟨R6,0,none⟩ = some (.slice none 0 0):=k5.cell 0
    have b1:W3.cell? ⟨R6,1,none⟩ = some (.bool false):=k5.cell 1
    have b2:W3.cell? ⟨R6,2,none⟩ = some (.int .i64 0):=k5.cell 2
    have y0:=k4.frozen 0
    have y1:=k4.frozen 1
    have y2:=k4.frozen 2
    have z0:=k5.frozen 0
    have z1:=k5.frozen 1
    have z2:=k5.frozen 2
    have ly:=k4.lt
    have lz:=k5.lt
    have HEND:=Lib.hid (fun w'' => HFIN.out W3 w'' p0 rs0 ⟨xB,xm,xd,xrs,xt,xe⟩ false HE3.out.1)
    clear k2 k3 k4 k5
    go_region
    go_wp2_with fail
    refine bodyPost_ret (v:=.tuple #[.agg #[.pointer p0,.bool tl,.int .i64 eo],.pointer (some ⟨g,0,none⟩),.agg #[.slice xB xm xd,.bool xt,.int .i64 xe],.bool false]) (by simp [results,Tryz.results7,go_sem, *]) rfl ?_
    refine HEND.out _ ?_
    exact (((((((Fr.refl [some R4,some R6] W3).setB (fun _ => by simp) _ _).setB (fun _ => by simp) _ _).setB (fun _ => by simp) _ _).setB (fun _ => by simp) _ _).setB (fun _ => by simp) _ _).setB (fun _ => by simp) _ _).drew
  | true =>
    obtain ⟨n,hn⟩:∃ n,n = rs0.length:=⟨_,rfl⟩
    have HN:Hid (n = rs0.length ∧ n ≤ 400):=⟨hn,by rw [hn]; exact HG2.out.len⟩
    rw [← hn] at HE3 HFIN
    have hn4:(n:Int) ≤ 400:=by have:=HN.out; omega
    go_wp2_with fail
    rw [← HW3.out,← hD10,← hG8]
    clear hD10 hG8 hn
    go_loopg [12] n (fun k iv wr => ∃ (i:Nat) (p:Option Addr) (rs:List RW) (x:GD),k + i = n ∧ iv = .int .i64 i ∧ Hid (HLp W3 wr G8 D10 [some G8,some D10,some R4,some R6] sA g n tl eo p rs x))
    case atStart => exact ⟨0,p0,rs0,_,by omega,rfl,HE3.out.1⟩
    case round =>
      clear HE3 HG2
      obtain ⟨i,p,rs,⟨zB,zm,zd,zrs,zt,ze⟩,hi,rfl,HD⟩:=hrel
      have HLN:Hid (Calls Tryz.prog 27 #[.agg #[.pointer p,.bool tl,.int .i64 eo]] wr fun en w'' => en = .returned (.int .i64 (n:Nat)) ∧ Fr [] wr w''):=by
        have:=glen_any [] p (rs.map Prod.fst) tl eo wr HD.out.hg.tr0
        rw [List.length_map,HD.out.ln] at this
        exact this
      have hgb:=HD.out.gb
      have g0:wr.cell? ⟨G8,0,none⟩ = some (.pointer p):=hgb.cell 0
      have g1:wr.cell? ⟨G8,1,none⟩ = some (.bool tl):=hgb.cell 1
      have g2:wr.cell? ⟨G8,2,none⟩ = some (.int .i64 eo):=hgb.cell 2
      clear hgb
      by_cases hin:i < n
      · have hi1:(i:Int) < (n:Int):=by omega
        by_cases h64:i < 64
        · have hi2:(i:Int) < 64:=by omega
          have hi0:(0:Int) ≤ (i:Int):=by omega
          cases hbit:(bits BinOp.and .u64 (m / 2 ^ i) 1 == 0) with
          | true =>
            go_wp2_with fail
            refine HLN.out.mono ?_
            rintro en w1 ⟨rfl,hf1⟩
            have HD1:=Lib.hid (HD.out.fr0 hf1)
            clear hf1 HLN HD g0 g1 g2
            go_wp2_with fail
            go_roundg (n - (i + 1))
            case rel => exact ⟨i + 1,p,rs,_,by omega,by go_num,HD1.out⟩
            case measure => omega
          | false =>
            obtain ⟨r,hr⟩:∃ r,rs[i]? = some r:=⟨_,List.getElem?_eq_getElem (by have:=HD.out.ln; omega)⟩
            obtain ⟨y,hy⟩:∃ y,zrs[i]? = some y:=⟨_,List.getElem?_eq_getElem (by have h1:=HD.out.ln; have h2:zrs.length = rs.length:=HD.out.hg.xl.2.1; omega)⟩
            have HRY:Hid (rs[i]? = some r ∧ zrs[i]? = some y):=⟨hr,hy⟩
            clear hr hy
            obtain ⟨⟨rA,rn,rc,re,rh⟩,cs⟩:=r
            obtain ⟨yB,ym,yd,ycs,ye,yh⟩:=y
            go_wp2_with fail
            refine HLN.out.mono ?_
            rintro en w1 ⟨rfl,hf1⟩
            have HD1:=Lib.hid (HD.out.fr0 hf1)
            clear hf1 HLN HD g0 g1 g2
            have hgb:=HD1.out.gb
            have g0:w1.cell? ⟨G8,0,none⟩ = some (.pointer p):=hgb.cell 0
            have g1:w1.cell? ⟨G8,1,none⟩ = some (.bool tl):=hgb.cell 1
            have g2:w1.cell? ⟨G8,2,none⟩ = some (.int .i64 eo):=hgb.cell 2
            have HRO:Hid (Calls Tryz.prog 18 #[.agg #[.pointer p,.bool tl,.int .i64 eo],.int .i64 (i:Nat)] w1 fun e w' => e = .returned (.tuple #[.agg #[.slice rA rn rc,.int .i64 re,.bool rh],.bool true]) ∧ Fr [] w1 w'):=by
              refine grow_any p (rs.map Prod.fst) tl eo i ⟨rA,rn,rc,re,rh⟩ w1 HD1.out.hg.tr0 (by rw [List.getElem?_map,HRY.out.1]; rfl) ?_
              rw [List.length_map]
              have:=HD1.out.hg.len
              omega
            clear hgb
            go_wp2_with fail
            refine HRO.out.mono ?_
            rintro en w5 ⟨rfl,hf5⟩
            have HD5:=Lib.hid (HD1.out.fr0 hf5)
            clear hf5 HRO HD1 g0 g1 g2
            go_wp2_with fail
            obtain ⟨E,hE⟩:∃ E,E = [some G8,some D10,some R4,some R6]:=⟨_,rfl⟩
            have HEI:Hid (some G8 ∈ E ∧ some D10 ∈ E):=by rw [hE]; exact ⟨by simp,by simp⟩
            obtain ⟨W0,hW0⟩:∃ W0,W0 = w5.alloc (.cells #[.slice rA rn rc,.int .i64 re,.bool rh] TRow):=⟨_,rfl⟩
            obtain ⟨XB,hXB⟩:∃ XB,XB = w5.heap.size:=⟨_,rfl⟩
            have HD6:Hid (HLp W3 W0 G8 D10 E sA g n tl eo p rs ⟨zB,zm,zd,zrs,zt,ze⟩ ∧ Blk W0 XB TRow #[.slice rA rn rc,.int .i64 re,.bool rh]):=by
              rw [hW0,hXB,hE]
              exact ⟨HD5.out.fr0 ((Fr.refl [] w5).alloc _),Blk.new w5 _ _⟩
            have HOE:Hid (Old E W0):=fun k hk => by
              have hn:=HNE.out
              have hs:=HD6.out.1.fr.size
              have h1:=HD6.out.1.gb.lt
              have h2:=HD6.out.1.db.lt
              rw [hE] at hk
              simp only [List.mem_cons,List.not_mem_nil,or_false,Option.some.injEq] at hk
              rcases hk with e | e | e | e
              · omega
              · omega
              · rw [e]; exact Nat.lt_of_lt_of_le ((HRB.out W3 (Fr.refl _ _)).1.lt) hs
              · rw [e]; exact Nat.lt_of_lt_of_le ((HRB.out W3 (Fr.refl _ _)).2.lt) hs
            rw [← hW0,← hXB]
            have HEE:=Lib.hid hE
            clear hW0 hXB hE HD5
            have HCEL:Hid (∀ w',Fr [] W0 w' → w'.cell? ⟨G8,0,none⟩ = some (.pointer p) ∧ w'.cell? ⟨G8,1,none⟩ = some (.bool tl) ∧ w'.cell? ⟨G8,2,none⟩ = some (.int .i64 eo) ∧ w'.cell? ⟨XB,0,none⟩ = some (.slice rA rn rc) ∧ w'.cell? ⟨XB,1,none⟩ = some (.int .i64 re) ∧ w'.cell? ⟨XB,2,none⟩ = some (.bool rh)):=by
              show ∀ _,_
              intro w' hf
              have h1:=HD6.out.1.gb.fr hf (by simp)
              have h2:=HD6.out.2.fr hf (by simp)
              exact ⟨h1.cell 0,h1.cell 1,h1.cell 2,h2.cell 0,h2.cell 1,h2.cell 2⟩
            have HG0:Hid (Blk W0 G8 TGr #[.pointer p,.bool tl,.int .i64 eo]):=HD6.out.1.gb
            have HEG:Hid (some G8 ∈ E):=HEI.out.1
            obtain ⟨N,hN⟩:∃ N,N = sA.length:=⟨_,rfl⟩
            obtain ⟨xs,hxs⟩:∃ xs,xs = rs.map Prod.fst:=⟨_,rfl⟩
            have HNX:Hid (N = sA.length ∧ xs = rs.map Prod.fst):=⟨hN,hxs⟩
            have HHD:Hid (∀ w',Fr [] W0 w' → Calls Tryz.prog 29 #[.agg #[.slice rA rn rc,.int .i64 re,.bool rh],.bool true] w' (HideAns E w' N cs rn re)):=by
              show ∀ _,_
              intro w' hf
              have h1:=HD6.out.1.hg.ok _ (List.mem_of_getElem? HRY.out.1)
              have h2:=(HD6.out.1.hg.bd _ (List.mem_of_getElem? HRY.out.1)).1
              have h3:rn = cs.length:=h1.1
              have h4:cs.length ≤ 40:=h2
              refine rhide_yes E w' rA rn rc N re rh cs (HOE.out.fr hf) ?_ h3 (by omega)
              rw [hN]
              exact h1.2.2.fr0 hf
            have HPT:Hid (∀ w' A c,Fr [] W0 w' → Calls Tryz.prog 28 #[.agg #[.pointer p,.bool tl,.int .i64 eo],.int .i64 (i:Nat),.agg #[.slice A rn c,.int .i64 re,.bool true]] w' (GPutAns E w' (xs.set i ⟨A,rn,c,re,true⟩) tl eo)):=by
              show ∀ _,_
              intro w' A c hf
              have h1:=HD6.out.1.ln
              have h2:=HD6.out.1.hg.len
              refine gput_yes E w' p tl eo xs i ⟨A,rn,c,re,true⟩ ?_ (HOE.out.fr hf) (by rw [hxs,List.length_map]; omega) (by rw [hxs,List.length_map]; omega)
              rw [hxs]
              exact (HD6.out.1.hg.fr0 hf).tr
            clear hN hxs
            refine wp_region_invc (by kernel_rfl) (fun f a w' => ∃ u51 u52 u53 u54 u55 u56 u57 u58,a = { tmps:=#[.string ⟨s0.toArray⟩,.int .u64 m,undef,undef,.pointer (some ⟨R4,0,none⟩),.pointer none,.pointer (some ⟨R6,0,none⟩),.bool false,.pointer (some ⟨G8,0,none⟩),.pointer (some ⟨g,0,none⟩),.pointer (some ⟨D10,0,none⟩),.bool true,.int .i64 i,.pointer (some ⟨XB,0,none⟩),.bool true,u15,.tuple #[.agg #[.pointer p0,.bool tl,.int .i64 eo],.pointer (some ⟨g,0,none⟩),.agg #[.slice xB xm xd,.bool xt,.int .i64 xe],.bool true],.string ⟨s0.toArray⟩,.string ⟨s.toArray⟩,.tuple #[.agg #[.pointer p0,.bool tl,.int .i64 eo],.pointer (some ⟨g,0,none⟩),.agg #[.slice xB xm xd,.bool xt,.int .i64 xe],.bool true],.agg #[.pointer p0,.bool tl,.int .i64 eo],.pointer (some ⟨g,0,none⟩),.agg #[.slice xB xm xd,.bool xt,.int .i64 xe],.bool true,.bool true,.bool false,undef,undef,undef,.int .i64 i,.agg #[.pointer p,.bool tl,.int .i64 eo],.int .i64 n,.bool true,.bool true,.int .i64 i,.bool true,.bool true,u37,u38,.int .u64 m,.int .i64 i,.int .u64 i,.int .u64 (m / 2 ^ i),.int .u64 (bits BinOp.and .u64 (m / 2 ^ i) 1),.bool false,.tuple #[.agg #[.slice rA rn rc,.int .i64 re,.bool rh],.bool true],.agg #[.pointer p,.bool tl,.int .i64 eo],.int .i64 i,.tuple #[.agg #[.slice rA rn rc,.int .i64 re,.bool rh],.bool true],.agg #[.slice rA rn rc,.int .i64 re,.bool rh],.bool true,u51,u52,u53,u54,u55,u56,u57,u58,u59,u60,u61,u62,u63,u64,u65,u66,u67,u68,u69,u70,u71,undef,undef,undef],defers:=[] } ∧ Hid (R9h E W0 G8 N i rn rc p rA tl rh eo re cs xs f u51 u52 u53 u54 u55 u56 u57 u58 w')) (by kernel_rfl) ?_ ?_ ?_
            · refine ⟨_,_,_,_,_,_,_,_,rfl,?_⟩
              exact (⟨(Fr.refl _ _).drew,fun _ => (Fr.refl _ _).drew,fun h => (by cases h),fun h => (by cases h),fun h => (by cases h),fun h => (by cases h),fun h => (by cases h),fun h => (by cases h),fun h => (by cases h),fun h => (by cases h),fun h => (by cases h)⟩:R9h E W0 G8 N i rn rc p rA tl rh eo re cs xs (fun _ => false) _ _ _ _ _ _ _ _ _)
            · simp only [EachOp]
              refine ⟨?_,?_,?_,?_,?_,?_,?_,?_,?_,trivial⟩
              · rintro f a w' hfi hdep hcl ⟨u51,u52,u53,u54,u55,u56,u57,u58,rfl,HI⟩ K hK
                have n8:f 8 = false:=by
                  cases q:f 8 with
                  | false => rfl
                  | true => rw [hcl 8 _ rfl q { on:=0,ground:=.phase } (by simp) rfl] at hfi; cases hfi
                obtain ⟨b0,b1,b2,c0,c1,c2⟩:=HCEL.out w' (HI.out.w1 n8)
                go_simp
                exact hK _ _ ⟨_,_,_,_,_,_,_,_,rfl,HI.out.p0⟩
              · rintro f a w' hfi hdep hcl ⟨u51,u52,u53,u54,u55,u56,u57,u58,rfl,HI⟩ K hK
                go_simp
                exact hK _ _ ⟨_,_,_,_,_,_,_,_,rfl,HI.out.p1⟩
              · rintro f a w' hfi hdep hcl ⟨u51,u52,u53,u54,u55,u56,u57,u58,rfl,HI⟩ K hK
                have n8:f 8 = false:=by
                  cases q:f 8 with
                  | false => rfl
                  | true => rw [hcl 8 _ rfl q { on:=2,ground:=.phase } (by simp) rfl] at hfi; cases hfi
                obtain ⟨b0,b1,b2,c0,c1,c2⟩:=HCEL.out w' (HI.out.w1 n8)
                go_simp
                exact hK _ _ ⟨_,_,_,_,_,_,_,_,rfl,HI.out.p2⟩
              · rintro f a w' hfi hdep hcl ⟨u51,u52,u53,u54,u55,u56,u57,u58,rfl,HI⟩ K hK
                have n8:f 8 = false:=by
                  cases q:f 8 with
                  | false => rfl
                  | true => rw [hcl 8 _ rfl q { on:=3,ground:=.phase } (by simp) rfl] at hfi; cases hfi
                have d2:f 2 = true:=hdep { on:=2,ground:=.data } (by simp) rfl
                have e2:=HI.out.s2 d2
                subst e2
                refine step_call _ (by rfl) 29 #[.agg #[.slice rA rn rc,.int .i64 re,.bool rh],.bool true] (by go_simp) _ (HHD.out w' (HI.out.w1 n8)) (by rintro e w' ⟨A,c,he,_⟩; exact ⟨_,he⟩) ?_
                rintro v4 w4 ⟨A,c,hv4,hc4,hk4,hf4⟩
                injection hv4 with hv4
                subst hv4
                try go_simp
                exact hK _ _ ⟨_,_,_,_,_,_,_,_,rfl,HI.out.p3 hc4 hk4 hf4 n8⟩
              · rintro f a w' hfi hdep hcl ⟨u51,u52,u53,u54,u55,u56,u57,u58,rfl,HI⟩ K hK
                have n8:f 8 = false:=by
                  cases q:f 8 with
                  | false => rfl
                  | true => rw [hcl 8 _ rfl q { on:=4,ground:=.phase } (by simp) rfl] at hfi; cases hfi
                have d0:f 0 = true:=hdep { on:=0,ground:=.data } (by simp) rfl
                have e0:=HI.out.s0 d0
                subst e0
                have d1:f 1 = true:=hdep { on:=1,ground:=.data } (by simp) rfl
                have e1:=HI.out.s1 d1
                subst e1
                have d3:f 3 = true:=hdep { on:=3,ground:=.data } (by simp) rfl
                obtain ⟨A,c,x1,x2,x3⟩:=HI.out.s3 d3
                subst x1
                refine step_call _ (by rfl) 28 #[.agg #[.pointer p,.bool tl,.int .i64 eo],.int .i64 (i:Nat),.agg #[.slice A rn c,.int .i64 re,.bool true]] (by go_simp) _ (HPT.out w' A c (HI.out.w1 n8)) (by rintro e w' ⟨q,he,_⟩; exact ⟨_,he⟩) ?_
                rintro v4 w4 ⟨q,hv4,ht4,hf4⟩
                injection hv4 with hv4
                subst hv4
                try go_simp
                exact hK _ _ ⟨_,_,_,_,_,_,_,_,rfl,HI.out.p4 ⟨A,c,x2,x3.fr0 hf4,ht4⟩ hf4 n8⟩
              · rintro f a w' hfi hdep hcl ⟨u51,u52,u53,u54,u55,u56,u57,u58,rfl,HI⟩ K hK
                have d4:f 4 = true:=hdep { on:=4,ground:=.data } (by simp) rfl
                go_simp
                exact hK _ _ ⟨_,_,_,_,_,_,_,_,rfl,HI.out.p5 d4⟩
              · rintro f a w' hfi hdep hcl ⟨u51,u52,u53,u54,u55,u56,u57,u58,rfl,HI⟩ K hK
                have n8:f 8 = false:=by
                  cases q:f 8 with
                  | false => rfl
                  | true => rw [hcl 8 _ rfl q { on:=6,ground:=.phase } (by simp) rfl] at hfi; cases hfi
                have d5:f 5 = true:=hdep { on:=5,ground:=.data } (by simp) rfl
                obtain ⟨q,x1,x2⟩:=HI.out.s5 d5
                subst x1
                go_simp
                exact hK _ _ ⟨_,_,_,_,_,_,_,_,rfl,HI.out.p6 x2 n8⟩
              · rintro f a w' hfi hdep hcl ⟨u51,u52,u53,u54,u55,u56,u57,u58,rfl,HI⟩ K hK
                have d5:f 5 = true:=hdep { on:=5,ground:=.data } (by simp) rfl
                obtain ⟨q,x1,x2⟩:=HI.out.s5 d5
                subst x1
                go_simp
                exact hK _ _ ⟨_,_,_,_,_,_,_,_,rfl,HI.out.p7⟩
              · rintro f a w' hfi hdep hcl ⟨u51,u52,u53,u54,u55,u56,u57,u58,rfl,HI⟩ K hK
                have d6:f 6 = true:=hdep { on:=6,ground:=.data } (by simp) rfl
                obtain ⟨q,x1,x2,x3⟩:=HI.out.s6 d6
                subst x1
                have hb:=HG0.out.fr (HI.out.w1 hfi) (by simp)
                have l0:w'.cell? ⟨G8,0,none⟩ = some (.pointer p):=hb.cell 0
                have l1:w'.cell? ⟨G8,1,none⟩ = some (.bool tl):=hb.cell 1
                have l2:w'.cell? ⟨G8,2,none⟩ = some (.int .i64 eo):=hb.cell 2
                have y0:=hb.frozen 0
                have y1:=hb.frozen 1
                have y2:=hb.frozen 2
                have ll:=hb.lt
                have hb3:=((hb.set_ 0 (.pointer q)).set_ 1 (.bool tl)).set_ 2 (.int .i64 eo)
                clear hb
                go_simp
                exact hK _ _ ⟨_,_,_,_,_,_,_,_,rfl,HI.out.p8 rfl x2 HEG.out ((((Fr.refl [some G8] _).setB (fun _ => by simp) 0 _).setB (fun _ => by simp) 1 _).setB (fun _ => by simp) 2 _) (by simpa using hb3) d6⟩
            rintro f a w6 hall ⟨u51,u52,u53,u54,u55,u56,u57,u58,rfl,HI⟩
            have HQ6:Hid (Fr [some G8] W0 w6 ∧ ∃ q,Blk w6 G8 TGr #[.pointer q,.bool tl,.int .i64 eo] ∧ NewG E N i rn re cs xs q w6):=by
              obtain ⟨q,_,h1,h2⟩:=HI.out.s6 (hall 6 (by decide))
              exact ⟨HI.out.w0,q,h2 (hall 8 (by decide)),h1⟩
            clear HI hall HHD HPT HG0 HCEL
            obtain ⟨hf6,q,hb6,hn6⟩:=HQ6.out
            have HB6:=Lib.hid hb6
            have HN6:=Lib.hid hn6
            have HF6:=Lib.hid hf6
            have HF6E:Hid (Fr E W0 w6):=hf6.weaken fun _ _ e => by rw [List.mem_singleton] at e; rw [e]; exact HEI.out.1
            have HX6:=Lib.hid (HD6.out.1.hg.frE HF6E.out)
            have hdn:some D10 ∉ [some G8]:=fun e => by rw [List.mem_singleton] at e; injection e with e; exact ne8 e
            have HDB6:Hid (Blk w6 D10 TD11 #[.slice zB zm zd,.bool zt,.int .i64 ze]):=HD6.out.1.db.fr hf6 hdn
            have hzl:zm = n ∧ zrs.length = n:=by
              have h1:zm = rs.length ∧ zrs.length = rs.length ∧ _:=HX6.out.xl
              have h2:=HD6.out.1.ln
              exact ⟨by omega,by omega⟩
            have HZL:=Lib.hid hzl
            obtain ⟨bd,hbd,e0,e1⟩:=sl_elem (f:=RD.cells) (sz:=3) (fun _ => rfl) (show Sl w6 zB (rdc zrs) from HX6.out.gd.now.1) (j:=i) (by omega) (by omega)
            obtain rfl:zB = some bd:=hbd
            have hyi:zrs[i]'(by omega) = ⟨yB,ym,yd,ycs,ye,yh⟩:=by
              have h1:=HRY.out.2
              rw [List.getElem?_eq_getElem (by omega)] at h1
              injection h1
            rw [hyi] at e0 e1
            have a0:w6.cell? (bd.add (i * 3)) = some (.slice yB ym yd):=e0 _ rfl
            have a1:w6.cell? ⟨(bd.add (i * 3)).block,(bd.add (i * 3)).off + 1,none⟩ = some (.int .i64 ye):=e1 0 _ rfl
            have a2:w6.cell? ⟨(bd.add (i * 3)).block,(bd.add (i * 3)).off + 2,none⟩ = some (.bool yh):=e1 1 _ rfl
            have hdb7:=HDB6.out.alloc (.cells #[.slice yB ym yd,.int .i64 ye,.bool true] TD8)
            have hb0:w6.cell? ⟨D10,0,none⟩ = some (.slice (some bd) zm zd):=HDB6.out.cell 0
            have c0:(w6.alloc (.cells #[.slice yB ym yd,.int .i64 ye,.bool true] TD8)).cell? ⟨D10,0,none⟩ = some (.slice (some bd) zm zd):=hdb7.cell 0
            have c1:(w6.alloc (.cells #[.slice yB ym yd,.int .i64 ye,.bool true] TD8)).cell? ⟨D10,1,none⟩ = some (.bool zt):=hdb7.cell 1
            have c2:(w6.alloc (.cells #[.slice yB ym yd,.int .i64 ye,.bool true] TD8)).cell? ⟨D10,2,none⟩ = some (.int .i64 ze):=hdb7.cell 2
            have him:(i:Int) < (zm:Int):=by omega
            have HPU:Hid (∀ w',Fr [] w6 w' → Calls Tryz.prog 30 #[.agg #[.slice (some bd) zm zd,.bool zt,.int .i64 ze],.int .i64 (i:Nat),.agg #[.slice yB ym yd,.int .i64 ye,.bool true]] w' (DPutAns w' (zrs.set i ⟨yB,ym,yd,ycs,ye,true⟩) zt ze)):=by
              show ∀ _,_
              intro w' hf
              exact dput_yes w' (some bd) zm zd i zt ze zrs ⟨yB,ym,yd,ycs,ye,true⟩ (show Sl w' (some bd) (rdc zrs) from (HX6.out.fr0 hf).gd.now.1) (by omega) (by omega) (by omega)
            clear hf6 hb6 hn6 hdn hzl e0 e1 hyi hdb7
            go_wp2_with fail
            have HF7:Hid (Fr [] w6 (w6.alloc (.cells #[.slice yB ym yd,.int .i64 ye,.bool true] TD8))):=(Fr.refl [] w6).alloc _
            refine (HPU.out _ HF7.out).mono ?_
            rintro en w8 ⟨C,cc,rfl,hr8,hc8,hf8⟩
            have HF8:Hid (Fr [] w6 w8):=HF7.out.trans hf8
            have HR8:Hid (ORow w8 TD8 3 C cc (zrs.set i ⟨yB,ym,yd,ycs,ye,true⟩).length (rdc (zrs.set i ⟨yB,ym,yd,ycs,ye,true⟩)) ∧ ∀ k,bk C = some k → w6.heap.size ≤ k):=⟨hr8,fun k hk => by have h1:=hc8 k hk; have h2:=HF7.out.size; omega⟩
            have hdb8:=HDB6.out.fr HF8.out (by simp)
            have HDB8:=Lib.hid hdb8
            have k0:w8.cell? ⟨D10,0,none⟩ = some (.slice (some bd) zm zd):=hdb8.cell 0
            have k1:w8.cell? ⟨D10,1,none⟩ = some (.bool zt):=hdb8.cell 1
            have k2:w8.cell? ⟨D10,2,none⟩ = some (.int .i64 ze):=hdb8.cell 2
            have y0:=hdb8.frozen 0
            have y1:=hdb8.frozen 1
            have y2:=hdb8.frozen 2
            have ll:=hdb8.lt
            have hlz:(zrs.set i ⟨yB,ym,yd,ycs,ye,true⟩).length = zrs.length:=List.length_set
            rw [hlz] at HR8
            rw [hlz]
            clear hr8 hc8 hf8 hdb8 a0 a1 a2 c0 c1 c2 hb0 hlz
            have HEND:Hid (∀ W,W = ((w8.setCell ⟨D10,0,none⟩ (.slice C zrs.length cc)).setCell ⟨D10,1,none⟩ (.bool zt)).setCell ⟨D10,2,none⟩ (.int .i64 ze) → ∃ rs',HLp W3 W G8 D10 [some G8,some D10,some R4,some R6] sA g n tl eo q rs' ⟨C,zrs.length,cc,zrs.set i ⟨yB,ym,yd,ycs,ye,true⟩,zt,ze⟩):=by
              show ∀ _,_
              intro W hW
              have hm:D10 < w8.heap.size → some D10 ∈ [some D10]:=fun _ => by simp
              have hfD:Fr [some D10] w8 W:=by rw [hW]; exact (((Fr.refl [some D10] w8).setB hm _ _).setB hm _ _).setB hm _ _
              have hfE:Fr E w8 W:=hfD.weaken fun _ _ e => by rw [List.mem_singleton] at e; rw [e]; exact HEI.out.2
              obtain ⟨A,c,n1,n2,n3⟩:=HN6.out
              have h8:=HX6.out.fr0 HF8.out
              have hkd:Kp E w8 fun w => Sl w C (rdc (zrs.set i ⟨yB,ym,yd,ycs,ye,true⟩)):=by
                refine Kp.sl (ORow.sl HR8.out.1) ?_
                cases hB:bk C with
                | none => exact .inl rfl
                | some k =>
                  refine .inr fun e => ?_
                  have h1:=HR8.out.2 k hB
                  have h2:=HOE.out k e
                  have h3:=HF6.out.size
                  omega
              have hh:=h8.hide (A:=A) (c:=c) (C:=C) (d:=cc) (q:=q) HRY.out.1 HRY.out.2 n1 (by rw [← HNX.out.1]; exact n2.fr0 HF8.out) (by rw [← HNX.out.2]; exact n3.fr0 HF8.out) hkd
              have hz:=HZL.out
              have hgn:some G8 ∉ [some D10]:=fun e => by rw [List.mem_singleton] at e; injection e with e; exact ne7 e
              refine ⟨rs.set i (⟨A,rn,c,re,true⟩,cs),(HB6.out.fr HF8.out (by simp)).fr hfD hgn,?_,?_,by rw [List.length_set]; exact HD6.out.1.ln,?_⟩
              · rw [hW]
                have:=((HDB8.out.set_ 0 (.slice C zrs.length cc)).set_ 1 (.bool zt)).set_ 2 (.int .i64 ze)
                simpa using this
              · rw [← HEE.out]
                exact hh.frE hfE
              · refine ((HD6.out.1.fr.trans (HF6.out.weaken fun _ _ e => by rw [List.mem_singleton] at e; rw [e]; simp)).trans HF8.out.of_nil).trans (hfD.weaken fun _ _ e => by rw [List.mem_singleton] at e; rw [e]; simp)
            clear HDB8 HDB6
            go_wp2_with fail
            obtain ⟨rs',hrs'⟩:=HEND.out _ rfl
            have HRS:=Lib.hid hrs'
            clear hrs' HEND
            go_roundg (n - (i + 1))
            case rel => exact ⟨i + 1,q,rs',_,by omega,by go_num,HRS.out⟩
            case measure => omega
        · have hi2:¬ (i:Int) < 64:=by omega
          clear h64
          go_wp2_with fail
          refine HLN.out.mono ?_
          rintro en w1 ⟨rfl,hf1⟩
          have HD1:=Lib.hid (HD.out.fr0 hf1)
          clear hf1 HLN HD g0 g1 g2
          have k3:=HD1.out.gb
          have k2:Blk w1 D10 TD11 #[.slice zB zm zd,.bool zt,.int .i64 ze]:=HD1.out.db
          obtain ⟨k4,k5⟩:=HRB.out w1 HD1.out.fr
          have t0:w1.cell? ⟨G8,0,none⟩ = some (.pointer p):=k3.cell 0
          have t1:w1.cell? ⟨G8,1,none⟩ = some (.bool tl):=k3.cell 1
          have t2:w1.cell? ⟨G8,2,none⟩ = some (.int .i64 eo):=k3.cell 2
          have d0:w1.cell? ⟨D10,0,none⟩ = some (.slice zB zm zd):=k2.cell 0
          have d1:w1.cell? ⟨D10,1,none⟩ = some (.bool zt):=k2.cell 1
          have d2:w1.cell? ⟨D10,2,none⟩ = some (.int .i64 ze):=k2.cell 2
          have a0:w1.cell? ⟨R4,0,none⟩ = some (.pointer none):=k4.cell 0
          have a1:w1.cell? ⟨R4,1,none⟩ = some (.bool false):=k4.cell 1
          have a2:w1.cell? ⟨R4,2,none⟩ = some (.int .i64 0):=k4.cell 2
          have b0:w1.cell? ⟨R6,0,none⟩ = some (.slice none 0 0):=k5.cell 0
          have b1:w1.cell? ⟨R6,1,none⟩ = some (.bool false):=k5.cell 1
          have b2:w1.cell? ⟨R6,2,none⟩ = some (.int .i64 0):=k5.cell 2
          have y0:=k4.frozen 0
          have y1:=k4.frozen 1
          have y2:=k4.frozen 2
          have z0:=k5.frozen 0
          have z1:=k5.frozen 1
          have z2:=k5.frozen 2
          have ly:=k4.lt
          have lz:=k5.lt
          have HEND:=Lib.hid (fun w'' => HFIN.out w1 w'' p rs ⟨zB,zm,zd,zrs,zt,ze⟩ true HD1.out)
          clear k2 k3 k4 k5
          go_wp2_with fail
          go_region
          go_wp2_with fail
          refine bodyPost_ret (v:=.tuple #[.agg #[.pointer p,.bool tl,.int .i64 eo],.pointer (some ⟨g,0,none⟩),.agg #[.slice zB zm zd,.bool zt,.int .i64 ze],.bool true]) (by simp [results,Tryz.results7,go_sem, *]) rfl ?_
          refine HEND.out _ ?_
          exact (((((((Fr.refl [some R4,some R6] w1).setB (fun _ => by simp) _ _).setB (fun _ => by simp) _ _).setB (fun _ => by simp) _ _).setB (fun _ => by simp) _ _).setB (fun _ => by simp) _ _).setB (fun _ => by simp) _ _).drew
      · have hi1:¬ (i:Int) < (n:Int):=by omega
        clear hin
        go_wp2_with fail
        refine HLN.out.mono ?_
        rintro en w1 ⟨rfl,hf1⟩
        have HD1:=Lib.hid (HD.out.fr0 hf1)
        clear hf1 HLN HD g0 g1 g2
        have k3:=HD1.out.gb
        have k2:Blk w1 D10 TD11 #[.slice zB zm zd,.bool zt,.int .i64 ze]:=HD1.out.db
        obtain ⟨k4,k5⟩:=HRB.out w1 HD1.out.fr
        have t0:w1.cell? ⟨G8,0,none⟩ = some (.pointer p):=k3.cell 0
        have t1:w1.cell? ⟨G8,1,none⟩ = some (.bool tl):=k3.cell 1
        have t2:w1.cell? ⟨G8,2,none⟩ = some (.int .i64 eo):=k3.cell 2
        have d0:w1.cell? ⟨D10,0,none⟩ = some (.slice zB zm zd):=k2.cell 0
        have d1:w1.cell? ⟨D10,1,none⟩ = some (.bool zt):=k2.cell 1
        have d2:w1.cell? ⟨D10,2,none⟩ = some (.int .i64 ze):=k2.cell 2
        have a0:w1.cell? ⟨R4,0,none⟩ = some (.pointer none):=k4.cell 0
        have a1:w1.cell? ⟨R4,1,none⟩ = some (.bool false):=k4.cell 1
        have a2:w1.cell? ⟨R4,2,none⟩ = some (.int .i64 0):=k4.cell 2
        have b0:w1.cell? ⟨R6,0,none⟩ = some (.slice none 0 0):=k5.cell 0
        have b1:w1.cell? ⟨R6,1,none⟩ = some (.bool false):=k5.cell 1
        have b2:w1.cell? ⟨R6,2,none⟩ = some (.int .i64 0):=k5.cell 2
        have y0:=k4.frozen 0
        have y1:=k4.frozen 1
        have y2:=k4.frozen 2
        have z0:=k5.frozen 0
        have z1:=k5.frozen 1
        have z2:=k5.frozen 2
        have ly:=k4.lt
        have lz:=k5.lt
        have HEND:=Lib.hid (fun w'' => HFIN.out w1 w'' p rs ⟨zB,zm,zd,zrs,zt,ze⟩ true HD1.out)
        clear k2 k3 k4 k5
        go_wp2_with fail
        go_region
        go_wp2_with fail
        refine bodyPost_ret (v:=.tuple #[.agg #[.pointer p,.bool tl,.int .i64 eo],.pointer (some ⟨g,0,none⟩),.agg #[.slice zB zm zd,.bool zt,.int .i64 ze],.bool true]) (by simp [results,Tryz.results7,go_sem, *]) rfl ?_
        refine HEND.out _ ?_
        exact (((((((Fr.refl [some R4,some R6] w1).setB (fun _ => by simp) _ _).setB (fun _ => by simp) _ _).setB (fun _ => by simp) _ _).setB (fun _ => by simp) _ _).setB (fun _ => by simp) _ _).setB (fun _ => by simp) _ _).drew
end Go.Proofs.YteohomdiklkbfaaGreat
