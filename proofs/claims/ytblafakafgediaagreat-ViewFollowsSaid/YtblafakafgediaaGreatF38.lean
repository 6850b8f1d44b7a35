import Derived.Test.YtblafakafgediaaGreatF35
import Derived.Test.YtblafakafgediaaGreatF29
import Derived.Test.YtblafakafgediaaGreatF17
namespace Go.Proofs.YtblafakafgediaaGreat
open Go.RowKit Go.Shelf Go.Proofs.Dm
attribute [local go_sem] Oper.semAt_some

theorem stepIn_app {P:Program} {l k:Nat} {ops:Array Oper} {Q:Exit → Act → World → Prop} {o:Oper} {a:Act} {K:Act → World → Prop} {E:Prop} (w:World) (hgd:o.guard = none) (s x:Operand) (t e:TypeId)
    (ho:o.op = .call { callee:=.builtin .append,args:=#[s,x],argTypes:=#[t,t] }) (z:Value) (sz bytes:Nat)
    (ht:P.underlying t = some (.slice e)) (hinfo:(P.info? e).map (fun i => (i.zero,i.size,i.bytes)) = some (some z,sz,bytes)) (hzs:z.cells.size = sz) (hsz:0 < sz)
    (A:Option Addr) (c n1:Nat) (cs:List Value) (hs:a.eval s = .slice A n1 c) (hown:ORow w e sz A c n1 cs) (A2:Option Addr) (m c2:Nat) (news:List Value) (hx:a.eval x = .slice A2 m c2)
    (hl:news.length = m * sz) (hsl:Sl w A2 news) (h1:∀ u ∈ news,u.oneCell' = true) (h63:n1 + m ≤ maxLen) (hbytes:(n1 + m) * bytes ≤ 140737488355328)
    (h:∀ A' c' w',ORow w' e sz A' c' (n1 + m) (cs ++ news) → Fr [bk A] w w' → (bk A' = bk A ∨ bk A' = some w.heap.size) → K (a.put o.dst (.slice A' (n1 + m) c')) w') :
    if Region.wanted o (yielded ops a.tmps) = true then Oper.wpIn (Fence.wide.inRound l) k P o a w K Q else E:=by
  rw [if_pos (by simp [Region.wanted,hgd])]
  obtain ⟨A',c',w',hr,h2,h3,h4⟩:=run_app (P:=P) w t o.type e z sz bytes ht hinfo hzs hsz A c n1 cs hown A2 m c2 news hl hsl h1 h63 hbytes
  refine wpIn_val (fun c hc => by rw [ho] at hc; cases hc) (v:=.slice A' (n1 + m) c') (w':=w') ?_ (h A' c' w' h2 h3 h4)
  unfold execOp
  simp only [ho,resolve,invoke,builtin,Sem.run_bind,Sem.run_pure,Result.andThen_ok,List.map_toArray,List.map_cons,List.map_nil,hs,hx,hr]
def tvs (m:Nat) (l:List (Nat × List (List UInt8))):List Value:=l.map fun x => .slice (some ⟨x.1,0,none⟩) m m
structure TKs (w2 W:World) (OB:Nat) (C:Option Addr) (c n m:Nat) (l:List (Nat × List (List UInt8))):Prop where
  g:GRo 56 128 1 w2 W OB C c n (tvs m l)
  b:∀ x ∈ l,Blk W x.1 9 (strV x.2).toArray ∧ w2.heap.size ≤ x.1
theorem TKs.ch {w2 W W':World} {OB c n m:Nat} {C:Option Addr} {l:List (Nat × List (List UInt8))} (h:TKs w2 W OB C c n m l) (hc:ChI w2.heap.size W W'):TKs w2 W' OB C c n m l :=
  ⟨h.g.ch hc,fun x hx => ⟨hc.block _ _ (h.b x hx).1 (.inr (by simp [itT]; decide)),(h.b x hx).2⟩⟩
def cellsOf (rs:List RW) (q:Nat):List CV:=((rs[q]?).map (·.2)).getD []
theorem allR_gen (xs:List RV) (a b:Nat) (pre:List (Nat × RV)) (q:Nat) (r:RV) (h:pre ++ [(q,r)] <+: allR xs a b):q < b ∧ r = xs.getD q RV.none:=by
  obtain ⟨t,ht⟩:=h
  have h1:(allR xs a b)[pre.length]? = some (q,r):=by rw [← ht,List.append_assoc,List.getElem?_append_right (Nat.le_refl _)]; simp
  unfold allR at h1
  rw [List.getElem?_map] at h1
  cases h2:(List.range' a (b - a))[pre.length]? with
  | none => rw [h2] at h1; cases h1
  | some k =>
    rw [h2] at h1
    injection h1 with h1
    injection h1 with h1 h3
    have h4:=List.mem_of_getElem? h2
    rw [List.mem_range'_1] at h4
    subst h1
    exact ⟨by omega,h3.symm⟩
theorem infoTS:(Tryz.prog.info? 128).map (fun i => (i.zero,i.size,i.bytes)) = some (some (Value.slice none 0 0),1,24):=by kernel_rfl
def TakeAns (w:World) (ls:List (List (List UInt8))) (m:Nat) (en:Ending) (w':World):Prop :=
  ∃ (C:Option Addr) (n c:Nat) (l:List (Nat × List (List UInt8))),en = .returned (.slice C n c) ∧ n = l.length ∧ l.map (·.2) = ls ∧ Sl w' C (tvs m l) ∧ (∀ x ∈ l,Blk w' x.1 9 (strV x.2).toArray) ∧ Fr [] w w'
structure R6t (W0:World) (OB:Nat) (C:Option Addr) (c n m g XB cc:Nat) (G:Value) (ls:List (List UInt8)) (vs:List Value) (f:Nat → Bool) (u25 u26 u27 u28 u29 u30 u31 u32 u33 u34:Value) (w:World):Prop where
  w0:f 9 = false → Fr [] W0 w
  s0:f 0 = true → u25 = .slice C n c
  s1:f 1 = true → u26 = G
  s2:f 2 = true → u27 = .pointer (some ⟨g,0,none⟩)
  s3:f 3 = true → u28 = .pointer (some ⟨XB,1,none⟩)
  s4:f 4 = true → u29 = .int .i64 (cc:Nat)
  s5:f 5 = true → u30 = .pointer (some ⟨XB,3,none⟩)
  s6:f 6 = true → u31 = .int .i64 (m:Nat)
  s7:f 7 = true → ∃ R,u32 = .slice (some ⟨R,0,none⟩) m m ∧ Blk w R 9 (strV ls).toArray ∧ W0.heap.size ≤ R
  s8:f 8 = true → ∃ X,u33 = .slice (some ⟨X,0,none⟩) 1 1 ∧ (f 9 = false → Blk w X 128 #[u32])
  s9:f 9 = true → ∃ C1 c1 wa w9,u34 = .slice C1 (n + 1) c1 ∧ Fr [] W0 wa ∧ Fr [bk C] wa w9 ∧ ORow w9 128 1 C1 c1 (n + 1) (vs ++ [u32]) ∧ (bk C1 = bk C ∨ bk C1 = some wa.heap.size) ∧ (f 10 = false → w = w9) ∧ (f 10 = true → w = w9.setCell ⟨OB,0,none⟩ u34)
section
variable {W0 w w2:World} {OB c n m g XB cc:Nat} {C:Option Addr} {G:Value} {ls:List (List UInt8)} {vs:List Value} {f:Nat → Bool} {u25 u26 u27 u28 u29 u30 u31 u32 u33 u34:Value}
theorem R6t.p0 (h:R6t W0 OB C c n m g XB cc G ls vs f u25 u26 u27 u28 u29 u30 u31 u32 u33 u34 w):R6t W0 OB C c n m g XB cc G ls vs (addB f 0) (.slice C n c) u26 u27 u28 u29 u30 u31 u32 u33 u34 w:=by
  exact ⟨(kpB h.w0),
    (fun _ => rfl),
    (kpB h.s1),
    (kpB h.s2),
    (kpB h.s3),
    (kpB h.s4),
    (kpB h.s5),
    (kpB h.s6),
    (kpB h.s7),
    (fun hh => by obtain ⟨X,x1,x2⟩:=h.s8 ((addB_ne (by decide)).symm.trans hh); exact ⟨X,x1,fun h9 => x2 ((addB_ne (by decide)).symm.trans h9)⟩),
    (fun hh => by obtain ⟨C1,c1,wa,w9,x1,x2,x3,x4,x5,x6,x7⟩:=h.s9 ((addB_ne (by decide)).symm.trans hh); exact ⟨C1,c1,wa,w9,x1,x2,x3,x4,x5,fun q => x6 ((addB_ne (by decide)).symm.trans q),fun q => x7 ((addB_ne (by decide)).symm.trans q)⟩)⟩
theorem R6t.p1 (h:R6t W0 OB C c n m g XB cc G ls vs f u25 u26 u27 u28 u29 u30 u31 u32 u33 u34 w):R6t W0 OB C c n m g XB cc G ls vs (addB f 1) u25 (G) u27 u28 u29 u30 u31 u32 u33 u34 w:=by
  exact ⟨(kpB h.w0),
    (kpB h.s0),
    (fun _ => rfl),
    (kpB h.s2),
    (kpB h.s3),
    (kpB h.s4),
    (kpB h.s5),
    (kpB h.s6),
    (kpB h.s7),
    (fun hh => by obtain ⟨X,x1,x2⟩:=h.s8 ((addB_ne (by decide)).symm.trans hh); exact ⟨X,x1,fun h9 => x2 ((addB_ne (by decide)).symm.trans h9)⟩),
    (fun hh => by obtain ⟨C1,c1,wa,w9,x1,x2,x3,x4,x5,x6,x7⟩:=h.s9 ((addB_ne (by decide)).symm.trans hh); exact ⟨C1,c1,wa,w9,x1,x2,x3,x4,x5,fun q => x6 ((addB_ne (by decide)).symm.trans q),fun q => x7 ((addB_ne (by decide)).symm.trans q)⟩)⟩
theorem R6t.p2 (h:R6t W0 OB C c n m g XB cc G ls vs f u25 u26 u27 u28 u29 u30 u31 u32 u33 u34 w):R6t W0 OB C c n m g XB cc G ls vs (addB f 2) u25 u26 (.pointer (some ⟨g,0,none⟩)) u28 u29 u30 u31 u32 u33 u34 w:=by
  exact ⟨(kpB h.w0),
    (kpB h.s0),
    (kpB h.s1),
    (fun _ => rfl),
    (kpB h.s3),
    (kpB h.s4),
    (kpB h.s5),
    (kpB h.s6),
    (kpB h.s7),
    (fun hh => by obtain ⟨X,x1,x2⟩:=h.s8 ((addB_ne (by decide)).symm.trans hh); exact ⟨X,x1,fun h9 => x2 ((addB_ne (by decide)).symm.trans h9)⟩),
    (fun hh => by obtain ⟨C1,c1,wa,w9,x1,x2,x3,x4,x5,x6,x7⟩:=h.s9 ((addB_ne (by decide)).symm.trans hh); exact ⟨C1,c1,wa,w9,x1,x2,x3,x4,x5,fun q => x6 ((addB_ne (by decide)).symm.trans q),fun q => x7 ((addB_ne (by decide)).symm.trans q)⟩)⟩
theorem R6t.p3 (h:R6t W0 OB C c n m g XB cc G ls vs f u25 u26 u27 u28 u29 u30 u31 u32 u33 u34 w):R6t W0 OB C c n m g XB cc G ls vs (addB f 3) u25 u26 u27 (.pointer (some ⟨XB,1,none⟩)) u29 u30 u31 u32 u33 u34 w:=by
  exact ⟨(kpB h.w0),
    (kpB h.s0),
    (kpB h.s1),
    (kpB h.s2),
    (fun _ => rfl),
    (kpB h.s4),
    (kpB h.s5),
    (kpB h.s6),
    (kpB h.s7),
    (fun hh => by obtain ⟨X,x1,x2⟩:=h.s8 ((addB_ne (by decide)).symm.trans hh); exact ⟨X,x1,fun h9 => x2 ((addB_ne (by decide)).symm.trans h9)⟩),
    (fun hh => by obtain ⟨C1,c1,wa,w9,x1,x2,x3,x4,x5,x6,x7⟩:=h.s9 ((addB_ne (by decide)).symm.trans hh); exact ⟨C1,c1,wa,w9,x1,x2,x3,x4,x5,fun q => x6 ((addB_ne (by decide)).symm.trans q),fun q => x7 ((addB_ne (by decide)).symm.trans q)⟩)⟩
theorem R6t.p4 (h:R6t W0 OB C c n m g XB cc G ls vs f u25 u26 u27 u28 u29 u30 u31 u32 u33 u34 w):R6t W0 OB C c n m g XB cc G ls vs (addB f 4) u25 u26 u27 u28 (.int .i64 (cc:Nat)) u30 u31 u32 u33 u34 w:=by
  exact ⟨(kpB h.w0),
    (kpB h.s0),
    (kpB h.s1),
    (kpB h.s2),
    (kpB h.s3),
    (fun _ => rfl),
    (kpB h.s5),
    (kpB h.s6),
    (kpB h.s7),
    (fun hh => by obtain ⟨X,x1,x2⟩:=h.s8 ((addB_ne (by decide)).symm.trans hh); exact ⟨X,x1,fun h9 => x2 ((addB_ne (by decide)).symm.trans h9)⟩),
    (fun hh => by obtain ⟨C1,c1,wa,w9,x1,x2,x3,x4,x5,x6,x7⟩:=h.s9 ((addB_ne (by decide)).symm.trans hh); exact ⟨C1,c1,wa,w9,x1,x2,x3,x4,x5,fun q => x6 ((addB_ne (by decide)).symm.trans q),fun q => x7 ((addB_ne (by decide)).symm.trans q)⟩)⟩
theorem R6t.p5 (h:R6t W0 OB C c n m g XB cc G ls vs f u25 u26 u27 u28 u29 u30 u31 u32 u33 u34 w):R6t W0 OB C c n m g XB cc G ls vs (addB f 5) u25 u26 u27 u28 u29 (.pointer (some ⟨XB,3,none⟩)) u31 u32 u33 u34 w:=by
  exact ⟨(kpB h.w0),
    (kpB h.s0),
    (kpB h.s1),
    (kpB h.s2),
    (kpB h.s3),
    (kpB h.s4),
    (fun _ => rfl),
    (kpB h.s6),
    (kpB h.s7),
    (fun hh => by obtain ⟨X,x1,x2⟩:=h.s8 ((addB_ne (by decide)).symm.trans hh); exact ⟨X,x1,fun h9 => x2 ((addB_ne (by decide)).symm.trans h9)⟩),
    (fun hh => by obtain ⟨C1,c1,wa,w9,x1,x2,x3,x4,x5,x6,x7⟩:=h.s9 ((addB_ne (by decide)).symm.trans hh); exact ⟨C1,c1,wa,w9,x1,x2,x3,x4,x5,fun q => x6 ((addB_ne (by decide)).symm.trans q),fun q => x7 ((addB_ne (by decide)).symm.trans q)⟩)⟩
theorem R6t.p6 (h:R6t W0 OB C c n m g XB cc G ls vs f u25 u26 u27 u28 u29 u30 u31 u32 u33 u34 w):R6t W0 OB C c n m g XB cc G ls vs (addB f 6) u25 u26 u27 u28 u29 u30 (.int .i64 (m:Nat)) u32 u33 u34 w:=by
  exact ⟨(kpB h.w0),
    (kpB h.s0),
    (kpB h.s1),
    (kpB h.s2),
    (kpB h.s3),
    (kpB h.s4),
    (kpB h.s5),
    (fun _ => rfl),
    (kpB h.s7),
    (fun hh => by obtain ⟨X,x1,x2⟩:=h.s8 ((addB_ne (by decide)).symm.trans hh); exact ⟨X,x1,fun h9 => x2 ((addB_ne (by decide)).symm.trans h9)⟩),
    (fun hh => by obtain ⟨C1,c1,wa,w9,x1,x2,x3,x4,x5,x6,x7⟩:=h.s9 ((addB_ne (by decide)).symm.trans hh); exact ⟨C1,c1,wa,w9,x1,x2,x3,x4,x5,fun q => x6 ((addB_ne (by decide)).symm.trans q),fun q => x7 ((addB_ne (by decide)).symm.trans q)⟩)⟩
theorem R6t.p7 {R:Nat} (hf:Fr [] w w2) (hb:Blk w2 R 9 (strV ls).toArray) (hR:w.heap.size ≤ R) (n8:f 8 = false) (n9:f 9 = false) (h:R6t W0 OB C c n m g XB cc G ls vs f u25 u26 u27 u28 u29 u30 u31 u32 u33 u34 w):R6t W0 OB C c n m g XB cc G ls vs (addB f 7) u25 u26 u27 u28 u29 u30 u31 (.slice (some ⟨R,0,none⟩) m m) u33 u34 w2:=by
  exact ⟨(fun hh => (h.w0 n9).trans hf),
    (kpB h.s0),
    (kpB h.s1),
    (kpB h.s2),
    (kpB h.s3),
    (kpB h.s4),
    (kpB h.s5),
    (kpB h.s6),
    (fun _ => ⟨R,rfl,hb,Nat.le_trans (h.w0 n9).size hR⟩),
    (fun hh => absurd ((addB_ne (by decide)).symm.trans hh) (by rw [n8]; simp)),
    (fun hh => absurd ((addB_ne (by decide)).symm.trans hh) (by rw [n9]; simp))⟩
theorem R6t.p8 (n9:f 9 = false) (h:R6t W0 OB C c n m g XB cc G ls vs f u25 u26 u27 u28 u29 u30 u31 u32 u33 u34 w):R6t W0 OB C c n m g XB cc G ls vs (addB f 8) u25 u26 u27 u28 u29 u30 u31 u32 (.slice (some ⟨w.heap.size,0,none⟩) 1 1) u34 (w.alloc (.cells #[u32] 128)):=by
  exact ⟨(fun hh => (h.w0 n9).alloc _),
    (kpB h.s0),
    (kpB h.s1),
    (kpB h.s2),
    (kpB h.s3),
    (kpB h.s4),
    (kpB h.s5),
    (kpB h.s6),
    (fun hh => by obtain ⟨R,x1,x2,x3⟩:=h.s7 ((addB_ne (by decide)).symm.trans hh); exact ⟨R,x1,x2.alloc _,x3⟩),
    (fun _ => ⟨_,rfl,fun _ => Blk.new w _ _⟩),
    (fun hh => absurd ((addB_ne (by decide)).symm.trans hh) (by rw [n9]; simp))⟩
theorem R6t.p9 {C1:Option Addr} {c1:Nat} (hr:ORow w2 128 1 C1 c1 (n + 1) (vs ++ [u32])) (hg:Fr [bk C] w w2) (hb:bk C1 = bk C ∨ bk C1 = some w.heap.size) (hC:∀ j,bk C = some j → j < W0.heap.size) (n9:f 9 = false) (n10:f 10 = false) (h:R6t W0 OB C c n m g XB cc G ls vs f u25 u26 u27 u28 u29 u30 u31 u32 u33 u34 w):R6t W0 OB C c n m g XB cc G ls vs (addB f 9) u25 u26 u27 u28 u29 u30 u31 u32 u33 (.slice C1 (n + 1) c1) w2:=by
  exact ⟨(fun hh => by rw [addB_self] at hh; cases hh),
    (kpB h.s0),
    (kpB h.s1),
    (kpB h.s2),
    (kpB h.s3),
    (kpB h.s4),
    (kpB h.s5),
    (kpB h.s6),
    (fun hh => by obtain ⟨R,x1,x2,x3⟩:=h.s7 ((addB_ne (by decide)).symm.trans hh); exact ⟨R,x1,x2.fr hg (fun e => by rw [List.mem_singleton] at e; have:=hC R e.symm; omega),x3⟩),
    (fun hh => by obtain ⟨X,x1,x2⟩:=h.s8 ((addB_ne (by decide)).symm.trans hh); exact ⟨X,x1,fun q => by rw [addB_self] at q; cases q⟩),
    (fun _ => ⟨C1,c1,w,w2,rfl,h.w0 n9,hg,hr,hb,fun _ => rfl,fun q => absurd ((addB_ne (by decide)).symm.trans q) (by rw [n10]; simp)⟩)⟩
theorem R6t.p10 (hO:OB < W0.heap.size) (d9:f 9 = true) (n10:f 10 = false) (h:R6t W0 OB C c n m g XB cc G ls vs f u25 u26 u27 u28 u29 u30 u31 u32 u33 u34 w):R6t W0 OB C c n m g XB cc G ls vs (addB f 10) u25 u26 u27 u28 u29 u30 u31 u32 u33 u34 (w.setCell ⟨OB,0,none⟩ u34):=by
  exact ⟨(fun hh => by rw [addB_ne (by decide),d9] at hh; cases hh),
    (kpB h.s0),
    (kpB h.s1),
    (kpB h.s2),
    (kpB h.s3),
    (kpB h.s4),
    (kpB h.s5),
    (kpB h.s6),
    (fun hh => by obtain ⟨R,x1,x2,x3⟩:=h.s7 ((addB_ne (by decide)).symm.trans hh); exact ⟨R,x1,x2.far (fun e => by have e:R = OB:=e; omega) _,x3⟩),
    (fun hh => by obtain ⟨X,x1,x2⟩:=h.s8 ((addB_ne (by decide)).symm.trans hh); exact ⟨X,x1,fun q => by rw [addB_ne (by decide),d9] at q; cases q⟩),
    (fun hh => by obtain ⟨C1,c1,wa,w9,x1,x2,x3,x4,x5,x6,x7⟩:=h.s9 ((addB_ne (by decide)).symm.trans hh); exact ⟨C1,c1,wa,w9,x1,x2,x3,x4,x5,(fun q => by rw [addB_self] at q; cases q),(fun _ => by rw [x6 n10])⟩)⟩
end
set_option maxRecDepth 100000 in
set_option maxHeartbeats 1600000 in
theorem block_take (w:World) (p:Option Addr) (tl:Bool) (eo:Int) (g r cc h m a b k:Nat) (s:List UInt8) (rs:List RW) (ha:ArAt g s w) (ht:TreeAt TN [] w p (rs.map Prod.fst)) (hr:RowsAt [] w s.length rs) (hk:k = rs.length) (hk7:k ≤ 700) (hh:1 ≤ h) (hrh:r + h ≤ 400) (hm:1 ≤ m) (hcm:cc + m ≤ 40) (hA:BegAt k (r:Nat) a) (hB:EndAt k a ((r:Nat) + (h:Nat):Int) b)
    (hp:∀ r ∈ rs,∀ c ∈ r.2,(plc c.sp).length ≤ 1000000) (hc:∀ r ∈ rs,r.2.length ≤ 1000000) (hl:s.length ≤ 1000000) :
    Calls Tryz.prog 76 #[.agg #[.pointer p,.bool tl,.int .i64 eo],.pointer (some ⟨g,0,none⟩),.agg #[.int .i64 (r:Nat),.int .i64 (cc:Nat),.int .i64 (h:Nat),.int .i64 (m:Nat)]] w (TakeAns w ((allR (rs.map Prod.fst) a b).map fun x => textsP s (cellsOf rs x.1) cc m) m):=by
  have hxn:(rs.map Prod.fst).length = k:=by rw [List.length_map,hk]
  have HRT:Hid (∀ w',Calls Tryz.prog 137 #[.agg #[.int .i64 (r:Nat),.int .i64 (cc:Nat),.int .i64 (h:Nat),.int .i64 (m:Nat)]] w' fun e w'' => e = .returned (.bool true) ∧ Fr [] w' w''):=fun w' => bright_yes w' r cc h m hh hrh hm hcm
  have HRG:Hid (∀ w',Fr [] w w' → Calls Tryz.prog 71 #[.agg #[.pointer p],.int .i64 (r:Nat),.int .i64 ((r:Nat) + (h:Nat):Int)] w' (FuncNew w' p a b)):=by
    show ∀ _,_
    intro w' hf
    exact range_gen [] p (rs.map Prod.fst) w' (r:Nat) ((r:Nat) + (h:Nat):Int) a b (ht.fr0 hf) (by omega) (by rw [hxn]; exact hA) (by rw [hxn]; exact hB)
  have HW:Hid (∀ W0,W0 = ((w.alloc (.cells #[.pointer p,.bool tl,.int .i64 eo] TGr)).alloc (.cells #[.pointer (some ⟨g,0,none⟩)] 34)).alloc (.cells #[.int .i64 (r:Nat),.int .i64 (cc:Nat),.int .i64 (h:Nat),.int .i64 (m:Nat)] 137) →
      Fr [] w W0 ∧ Blk W0 w.heap.size TGr #[.pointer p,.bool tl,.int .i64 eo] ∧ Blk W0 (w.heap.size + 1) 34 #[.pointer (some ⟨g,0,none⟩)] ∧ Blk W0 (w.heap.size + 1 + 1) 137 #[.int .i64 (r:Nat),.int .i64 (cc:Nat),.int .i64 (h:Nat),.int .i64 (m:Nat)]):=by
    show ∀ _,_
    rintro W0 rfl
    have b1:=Blk.new (w.alloc (.cells #[.pointer p,.bool tl,.int .i64 eo] TGr)) 34 #[.pointer (some ⟨g,0,none⟩)]
    have b2:=Blk.new ((w.alloc (.cells #[.pointer p,.bool tl,.int .i64 eo] TGr)).alloc (.cells #[.pointer (some ⟨g,0,none⟩)] 34)) 137 #[.int .i64 (r:Nat),.int .i64 (cc:Nat),.int .i64 (h:Nat),.int .i64 (m:Nat)]
    have b3:=b1.alloc (.cells #[.int .i64 (r:Nat),.int .i64 (cc:Nat),.int .i64 (h:Nat),.int .i64 (m:Nat)] 137)
    simp only [World.size_alloc] at b2 b3
    exact ⟨(((Fr.refl [] w).alloc _).alloc _).alloc _,((Blk.new w _ _).alloc _).alloc _,b3,b2⟩
  have HIN:Hid (ArAt g s w ∧ TreeAt TN [] w p (rs.map Prod.fst) ∧ RowsAt [] w s.length rs):=⟨ha,ht,hr⟩
  have hab:=hA.le
  have hbb:=hB.le hab
  have HN:Hid (k = rs.length ∧ k ≤ 700 ∧ a ≤ b ∧ b ≤ k ∧ cc ≤ 1000 ∧ m ≤ 1000):=⟨hk,hk7,hbb.1,hbb.2,by omega,by omega⟩
  have HP:=Lib.hid hp
  have HC:=Lib.hid hc
  have HL:=Lib.hid hl
  have hw1:IntKind.i64.wrap ((r:Int) + (h:Int)) = (r:Int) + (h:Int):=IntWalk.i64_in _ (by omega)
  clear ha ht hr hk hk7 hh hrh hm hcm hA hB hp hc hl hxn hab hbb
  refine callsIn_wide.1 (callsIn_of_wp_marks (n:=3) Tryz.func76 rfl trivial (wpIn_wide.2 ?_))
  simp only [Tryz.ntmps76,List.size_toArray,List.length_cons,List.length_nil,Nat.reduceAdd,Nat.reduceSub,Array.replicate_succ,Array.replicate_zero,List.push_toArray,List.append_toArray,List.nil_append,List.cons_append]
  go_wp2_with fail
  obtain ⟨W0,hW0⟩:∃ W0,W0 = ((w.alloc (.cells #[.pointer p,.bool tl,.int .i64 eo] TGr)).alloc (.cells #[.pointer (some ⟨g,0,none⟩)] 34)).alloc (.cells #[.int .i64 (r:Nat),.int .i64 (cc:Nat),.int .i64 (h:Nat),.int .i64 (m:Nat)] 137):=⟨_,rfl⟩
  obtain ⟨k1,k2,k3,k4⟩:=HW.out W0 hW0
  rw [← hW0]
  obtain ⟨XB,hXB⟩:∃ XB,XB = w.heap.size + 1 + 1:=⟨_,rfl⟩
  obtain ⟨AB,hAB⟩:∃ AB,AB = w.heap.size + 1:=⟨_,rfl⟩
  obtain ⟨GB,hGB⟩:∃ GB,GB = w.heap.size:=⟨_,rfl⟩
  rw [← hXB] at k4 ⊢
  rw [← hAB] at k3 ⊢
  rw [← hGB] at k2 ⊢
  have HB0:Hid (Fr [] w W0 ∧ Blk W0 GB TGr #[.pointer p,.bool tl,.int .i64 eo] ∧ Blk W0 AB 34 #[.pointer (some ⟨g,0,none⟩)] ∧ Blk W0 XB 137 #[.int .i64 (r:Nat),.int .i64 (cc:Nat),.int .i64 (h:Nat),.int .i64 (m:Nat)]):=⟨k1,k2,k3,k4⟩
  have HNB:Hid (GB = w.heap.size ∧ AB = w.heap.size + 1 ∧ XB = w.heap.size + 1 + 1):=⟨hGB,hAB,hXB⟩
  clear hW0 k1 k2 k3 k4 hXB hAB hGB HW
  refine (HRT.out W0).mono ?_
  rintro en w1 ⟨rfl,hf1⟩
  have HF1:=Lib.hid hf1
  have HCEL:Hid (∀ w',Fr [] W0 w' → w'.cell? ⟨GB,0,none⟩ = some (.pointer p) ∧ w'.cell? ⟨XB,0,none⟩ = some (.int .i64 (r:Nat)) ∧ w'.cell? ⟨XB,2,none⟩ = some (.int .i64 (h:Nat))):=by
    show ∀ _,_
    intro w' hf
    have h1:=HB0.out.2.1.fr hf (by simp)
    have h2:=HB0.out.2.2.2.fr hf (by simp)
    exact ⟨h1.cell 0,h2.cell 0,h2.cell 2⟩
  obtain ⟨g0,x0,x2⟩:=HCEL.out (w1.alloc (.cells #[.slice none 0 0] 56)) (hf1.alloc _)
  clear hf1
  go_wp2_with fail
  obtain ⟨W2,hW2⟩:∃ W2,W2 = w1.alloc (.cells #[.slice none 0 0] 56):=⟨_,rfl⟩
  obtain ⟨OB,hOB⟩:∃ OB,OB = w1.heap.size:=⟨_,rfl⟩
  have HO2:Hid (Fr [] W0 W2 ∧ Blk W2 OB 56 #[.slice none 0 0] ∧ W0.heap.size ≤ OB):=by
    rw [hW2,hOB]
    exact ⟨HF1.out.alloc _,Blk.new w1 _ _,HF1.out.size⟩
  rw [← hW2,← hOB]
  clear hW2 hOB g0 x0 x2
  refine (HRG.out W2 (HB0.out.1.trans HO2.out.1)).mono ?_
  rintro e w5 ⟨bi,bj,bt,rfl,hbi,hbj,hbt,hf5,hx1,hx2,hx3⟩
  have HF5:Hid (Fr [] W0 w5):=HO2.out.1.trans hf5
  have HBB:Hid (w5.cell? ⟨bi,0,none⟩ = some (.int .i64 (a:Nat)) ∧ w5.cell? ⟨bj,0,none⟩ = some (.int .i64 (b:Nat)) ∧ w5.cell? ⟨bt,0,none⟩ = some (.pointer p)):=⟨hbi,hbj,hbt⟩
  have HBX:Hid (W2.heap.size ≤ bi ∧ W2.heap.size ≤ bj ∧ W2.heap.size ≤ bt):=⟨hx1,hx2,hx3⟩
  have HOB5:=Lib.hid (HO2.out.2.1.fr hf5 (by simp))
  have HOBN:Hid (OB < W2.heap.size ∧ w.heap.size + 3 ≤ OB):=⟨HO2.out.2.1.lt,by have h1:=HO2.out.2.2; have h2:=HB0.out.2.2.2.lt; have h3:=HNB.out; omega⟩
  clear hbi hbj hbt hf5 hx1 hx2 hx3
  go_wp2_with fail
  have HTR:Hid (TreeAt TN [some OB] w5 p (rs.map Prod.fst)):=by
    refine HIN.out.2.1.grow (E':=[some OB]) (HB0.out.1.trans HF5.out) fun k hk => ?_
    rw [List.mem_singleton] at hk
    injection hk with hk
    exact .inr (by have:=HOBN.out; omega)
  have HTK0:Hid (TKs w5 w5 OB none 0 0 m []):=⟨⟨HOB5.out,ORow.nil_ _ _ _,Fr.refl _ _,HOB5.out.lt,fun j hj => (by cases hj),fun cs => ⟨by simp [itT]; decide,by simp [itT]; decide⟩⟩,fun x hx => by simp at hx⟩
  have HBX5:Hid (Blk w5 XB 137 #[.int .i64 (r:Nat),.int .i64 (cc:Nat),.int .i64 (h:Nat),.int .i64 (m:Nat)] ∧ Blk w5 AB 34 #[.pointer (some ⟨g,0,none⟩)] ∧ XB ≠ OB ∧ AB ≠ OB):=⟨HB0.out.2.2.2.fr HF5.out (by simp),HB0.out.2.2.1.fr HF5.out (by simp),by have:=HNB.out; have:=HOBN.out; omega,by have:=HNB.out; have:=HOBN.out; omega⟩
  rw [← wpIn_wide (n:=3)]
  refine range_law (E:=[some OB]) (F:=Fence.wide) rfl (by omega) (gf:=131) rfl trivial (enters_of Tryz.func131 (by kernel_rfl) rfl)
    (range_stops (3 - 1) bi bj bt a b w5 p (rs.map Prod.fst) HN.out.2.2.1 (by rw [List.length_map,← HN.out.1]; exact HN.out.2.2.2.1) (by have:=HN.out; rw [List.length_map]; omega) HTR.out HBB.out.1 HBB.out.2.1 HBB.out.2.2 ?hne) (Fr.refl _ _) (fun _ => rfl)
    (fun pre W => ∃ (C:Option Addr) (c n:Nat) (l:List (Nat × List (List UInt8))),n = pre.length ∧ l.map (·.2) = pre.map (fun x => textsP s (cellsOf rs x.1) cc m) ∧ Hid (TKs w5 W OB C c n m l)) (fun _ _ _ => False) ?hI (fun _ _ _ _ h _ => h) ?h0
    (fun x a₁ W => ∃ b,a₁ = { tmps:=#[.agg #[.pointer p,.bool tl,.int .i64 eo],.pointer (some ⟨g,0,none⟩),.agg #[.int .i64 (r:Nat),.int .i64 (cc:Nat),.int .i64 (h:Nat),.int .i64 (m:Nat)],.pointer (some ⟨GB,0,none⟩),.pointer (some ⟨AB,0,none⟩),.pointer (some ⟨XB,0,none⟩),.slice none 0 0,.pointer (some ⟨OB,0,none⟩),undef,.pointer (some ⟨b,0,none⟩),.agg #[.int .i64 (r:Nat),.int .i64 (cc:Nat),.int .i64 (h:Nat),.int .i64 (m:Nat)],.bool true,.bool false,.pointer (some ⟨GB,0,none⟩),.agg #[.pointer p],.pointer (some ⟨XB,0,none⟩),.int .i64 (r:Nat),.pointer (some ⟨XB,0,none⟩),.int .i64 (r:Nat),.pointer (some ⟨XB,2,none⟩),.int .i64 (h:Nat),.int .i64 ((r:Nat) + (h:Nat):Int),.func (.func 131) #[] #[.pointer (some ⟨bi,0,none⟩),.pointer (some ⟨bj,0,none⟩),.pointer (some ⟨bt,0,none⟩)],.int .i64 (x.1:Nat),x.2.val,undef,undef,undef,undef,undef,undef,undef,undef,undef,undef,undef],defers:=[] } ∧ Blk W b TRow #[.slice x.2.A x.2.n x.2.c,.int .i64 x.2.e,.bool x.2.h]) ?hAx ?assign ?body ?done ?stop
  case hne =>
    have key:∀ (x:Nat),W2.heap.size ≤ x → some x ∉ [some OB]:=fun x hx e => by
      rw [List.mem_singleton] at e
      injection e with e
      have:=HOBN.out
      omega
    exact ⟨key bi HBX.out.1,key bj HBX.out.2.1,key bt HBX.out.2.2⟩
  case hI =>
    rintro pre W W' ⟨C,c,n,l,h1,h2,h3⟩ hc
    exact ⟨C,c,n,l,h1,h2,h3.out.ch hc⟩
  case h0 => exact ⟨none,0,0,[],rfl,rfl,HTK0.out⟩
  case hAx =>
    rintro x a₁ W l o o' hl ho ⟨b,rfl,hb⟩
    refine ⟨b,rfl,?_⟩
    unfold Blk at hb ⊢
    rw [World.putObj_heap_other]
    · exact hb
    · intro e; subst e; rw [hb] at hl; injection hl with hl; subst hl; cases ho
  case assign =>
    intro l x W K hK
    obtain ⟨xq,⟨rA,rn,rc,re,rh⟩⟩:=x
    simp only [encR,RV.val]
    gi_wp2
    refine hK _ _ ((Fr.refl [] W).alloc _) ⟨W.heap.size,rfl,Blk.new W TRow _⟩
  case body =>
    rintro lo pre x a₁ W ⟨C,c,n,l,hnl,hls,HTK⟩ hpx ⟨b,rfl,hb⟩
    obtain ⟨xq,⟨rA,rn,rc,re,rh⟩⟩:=x
    simp only [RV.val] at hb ⊢
    obtain ⟨hq1,hq2⟩:=allR_gen _ _ _ _ _ _ hpx
    have hql:xq < rs.length:=by have:=HN.out; omega
    obtain ⟨⟨rv,rcs⟩,hrw⟩:∃ r,r = rs[xq]:=⟨_,rfl⟩
    have hrv:rv = ⟨rA,rn,rc,re,rh⟩:=by
      rw [hq2,List.getD_eq_getElem?_getD,List.getElem?_map,List.getElem?_eq_getElem hql,← hrw]
      rfl
    subst hrv
    have hrm:(⟨rA,rn,rc,re,rh⟩,rcs) ∈ rs:=by rw [hrw]; exact List.getElem_mem hql
    have hco:cellsOf rs xq = rcs:=by unfold cellsOf; rw [List.getElem?_eq_getElem hql,← hrw]; rfl
    obtain ⟨r1,r2,r3⟩:=HIN.out.2.2 _ hrm
    simp only at r1 r2 r3
    have hpp:=HP.out _ hrm
    have hcc:=HC.out _ hrm
    simp only at hpp hcc
    have hfW:Fr [] w W:=(HB0.out.1.trans HF5.out).seq HTK.out.g.fr fun y hy => by
      rw [List.mem_singleton] at hy
      exact .inr (.inr ⟨OB,by have:=HOBN.out; omega,hy⟩)
    have HTX:Hid (∀ w',Fr [] W w' → Calls Tryz.prog 138 #[.agg #[.slice rA rn rc,.int .i64 re,.bool rh],.pointer (some ⟨g,0,none⟩),.int .i64 (cc:Nat),.int .i64 (m:Nat)] w' (TextsAns w' (textsP s rcs cc m) m)):=by
      show ∀ _,_
      intro w' hf
      exact texts_any w' g rn rc cc m re rh rA rcs s (HIN.out.1.fr0 (hfW.trans hf)) ((r3.fr0 (hfW.trans hf)).now) r1 (by omega) HN.out.2.2.2.2.1 HN.out.2.2.2.2.2 hpp HL.out
    have HLD:Hid (∀ w',Fr [] W w' → w'.cell? ⟨OB,0,none⟩ = some (.slice C n c) ∧ w'.cell? ⟨b,0,none⟩ = some (.slice rA rn rc) ∧ w'.cell? ⟨b,1,none⟩ = some (.int .i64 re) ∧ w'.cell? ⟨b,2,none⟩ = some (.bool rh) ∧ w'.cell? ⟨AB,0,none⟩ = some (.pointer (some ⟨g,0,none⟩)) ∧ w'.cell? ⟨XB,1,none⟩ = some (.int .i64 (cc:Nat)) ∧ w'.cell? ⟨XB,3,none⟩ = some (.int .i64 (m:Nat))):=by
      show ∀ _,_
      intro w' hf
      have key:∀ z,z ≠ OB → some z ∉ [some OB]:=fun z hz e => by rw [List.mem_singleton] at e; injection e with e; exact hz e
      have q1:=HTK.out.g.box.fr hf (by simp)
      have q2:=hb.fr hf (by simp)
      have q3:=(HBX5.out.2.1.fr HTK.out.g.fr (key _ HBX5.out.2.2.2)).fr hf (by simp)
      have q4:=(HBX5.out.1.fr HTK.out.g.fr (key _ HBX5.out.2.2.1)).fr hf (by simp)
      exact ⟨q1.cell 0,q2.cell 0,q2.cell 1,q2.cell 2,q3.cell 0,q4.cell 1,q4.cell 3⟩
    have HN9:Hid (n ≤ 1000000):=by
      obtain ⟨t,ht⟩:=hpx
      have h1:=congrArg List.length ht
      rw [List.length_append,List.length_append,allR_len] at h1
      have:=HN.out
      show _ ≤ _
      omega
    have HCO:Hid (∀ j,bk C = some j → j < W.heap.size):=fun j hj => ORow.lt HTK.out.g.own hj
    have HOO:Hid (OB < W.heap.size):=HTK.out.g.box.lt
    have HOC:Hid (∀ wa w9,Fr [] W wa → Fr [bk C] wa w9 → w9.cell? ⟨OB,0,none⟩ = some (.slice C n c) ∧ w9.frozen? ⟨OB,0,none⟩ = false ∧ OB < w9.heap.size):=by
      show ∀ _,_
      intro wa w9 h1 h2
      have q:=(HTK.out.g.box.fr h1 (by simp)).fr h2 (fun e => by rw [List.mem_singleton] at e; exact HTK.out.g.ne e.symm)
      exact ⟨q.cell 0,q.frozen 0,q.lt⟩
    have HLS:Hid (n = pre.length ∧ l.map (·.2) = pre.map (fun x => textsP s (cellsOf rs x.1) cc m) ∧ cellsOf rs xq = rcs):=⟨hnl,hls,hco⟩
    clear hnl hls hb hpx hq1 hq2 hql hrw hrm hco r1 r2 r3 hpp hcc hfW
    gi_wp2
    refine wpIn_region_invc (by kernel_rfl) (fun f a' w' => ∃ u25 u26 u27 u28 u29 u30 u31 u32 u33 u34,a' = { tmps:=#[.agg #[.pointer p,.bool tl,.int .i64 eo],.pointer (some ⟨g,0,none⟩),.agg #[.int .i64 (r:Nat),.int .i64 (cc:Nat),.int .i64 (h:Nat),.int .i64 (m:Nat)],.pointer (some ⟨GB,0,none⟩),.pointer (some ⟨AB,0,none⟩),.pointer (some ⟨XB,0,none⟩),.slice none 0 0,.pointer (some ⟨OB,0,none⟩),undef,.pointer (some ⟨b,0,none⟩),.agg #[.int .i64 (r:Nat),.int .i64 (cc:Nat),.int .i64 (h:Nat),.int .i64 (m:Nat)],.bool true,.bool false,.pointer (some ⟨GB,0,none⟩),.agg #[.pointer p],.pointer (some ⟨XB,0,none⟩),.int .i64 (r:Nat),.pointer (some ⟨XB,0,none⟩),.int .i64 (r:Nat),.pointer (some ⟨XB,2,none⟩),.int .i64 (h:Nat),.int .i64 ((r:Nat) + (h:Nat):Int),.func (.func 131) #[] #[.pointer (some ⟨bi,0,none⟩),.pointer (some ⟨bj,0,none⟩),.pointer (some ⟨bt,0,none⟩)],.int .i64 (xq:Nat),.agg #[.slice rA rn rc,.int .i64 re,.bool rh],u25,u26,u27,u28,u29,u30,u31,u32,u33,u34,undef],defers:=[] } ∧ Hid (R6t W OB C c n m g XB cc (.agg #[.slice rA rn rc,.int .i64 re,.bool rh]) (textsP s rcs cc m) (tvs m l) f u25 u26 u27 u28 u29 u30 u31 u32 u33 u34 w')) (by kernel_rfl) ?_ ?_ ?_
    · refine ⟨_,_,_,_,_,_,_,_,_,_,rfl,?_⟩
      exact (⟨fun _ => (Fr.refl _ _).drew,fun h => (by cases h),fun h => (by cases h),fun h => (by cases h),fun h => (by cases h),fun h => (by cases h),fun h => (by cases h),fun h => (by cases h),fun h => (by cases h),fun h => (by cases h),fun h => (by cases h)⟩:R6t W OB C c n m g XB cc _ _ _ (fun _ => false) _ _ _ _ _ _ _ _ _ _ _)
    · simp only [EachOp]
      refine ⟨?_,?_,?_,?_,?_,?_,?_,?_,?_,?_,?_,trivial⟩
      · rintro f a' w' hfi hdep hcl ⟨u25,u26,u27,u28,u29,u30,u31,u32,u33,u34,rfl,HI⟩ K hK
        have n9:f 9 = false:=by
          cases q:f 9 with
          | false => rfl
          | true =>
            have q0:f 0 = true:=hcl 9 _ rfl q { on:=0,ground:=.data } (by simp) rfl
            rw [q0] at hfi; cases hfi
        obtain ⟨l0,b0,b1,b2,a0,x1,x3⟩:=HLD.out w' (HI.out.w0 n9)
        go_simp
        exact hK _ _ ⟨_,_,_,_,_,_,_,_,_,_,rfl,HI.out.p0⟩
      · rintro f a' w' hfi hdep hcl ⟨u25,u26,u27,u28,u29,u30,u31,u32,u33,u34,rfl,HI⟩ K hK
        have n9:f 9 = false:=by
          cases q:f 9 with
          | false => rfl
          | true =>
            have q8:f 8 = true:=hcl 9 _ rfl q { on:=8,ground:=.data } (by simp) rfl
            have q7:f 7 = true:=hcl 8 _ rfl q8 { on:=7,ground:=.data } (by simp) rfl
            have q1:f 1 = true:=hcl 7 _ rfl q7 { on:=1,ground:=.data } (by simp) rfl
            rw [q1] at hfi; cases hfi
        obtain ⟨l0,b0,b1,b2,a0,x1,x3⟩:=HLD.out w' (HI.out.w0 n9)
        go_simp
        exact hK _ _ ⟨_,_,_,_,_,_,_,_,_,_,rfl,HI.out.p1⟩
      · rintro f a' w' hfi hdep hcl ⟨u25,u26,u27,u28,u29,u30,u31,u32,u33,u34,rfl,HI⟩ K hK
        have n9:f 9 = false:=by
          cases q:f 9 with
          | false => rfl
          | true =>
            have q8:f 8 = true:=hcl 9 _ rfl q { on:=8,ground:=.data } (by simp) rfl
            have q7:f 7 = true:=hcl 8 _ rfl q8 { on:=7,ground:=.data } (by simp) rfl
            have q2:f 2 = true:=hcl 7 _ rfl q7 { on:=2,ground:=.data } (by simp) rfl
            rw [q2] at hfi; cases hfi
        obtain ⟨l0,b0,b1,b2,a0,x1,x3⟩:=HLD.out w' (HI.out.w0 n9)
        go_simp
        exact hK _ _ ⟨_,_,_,_,_,_,_,_,_,_,rfl,HI.out.p2⟩
      · rintro f a' w' hfi hdep hcl ⟨u25,u26,u27,u28,u29,u30,u31,u32,u33,u34,rfl,HI⟩ K hK
        go_simp
        exact hK _ _ ⟨_,_,_,_,_,_,_,_,_,_,rfl,HI.out.p3⟩
      · rintro f a' w' hfi hdep hcl ⟨u25,u26,u27,u28,u29,u30,u31,u32,u33,u34,rfl,HI⟩ K hK
        have n9:f 9 = false:=by
          cases q:f 9 with
          | false => rfl
          | true =>
            have q8:f 8 = true:=hcl 9 _ rfl q { on:=8,ground:=.data } (by simp) rfl
            have q7:f 7 = true:=hcl 8 _ rfl q8 { on:=7,ground:=.data } (by simp) rfl
            have q4:f 4 = true:=hcl 7 _ rfl q7 { on:=4,ground:=.data } (by simp) rfl
            rw [q4] at hfi; cases hfi
        have d3:f 3 = true:=hdep { on:=3,ground:=.data } (by simp) rfl
        have e3:=HI.out.s3 d3
        subst e3
        obtain ⟨l0,b0,b1,b2,a0,x1,x3⟩:=HLD.out w' (HI.out.w0 n9)
        go_simp
        exact hK _ _ ⟨_,_,_,_,_,_,_,_,_,_,rfl,HI.out.p4⟩
      · rintro f a' w' hfi hdep hcl ⟨u25,u26,u27,u28,u29,u30,u31,u32,u33,u34,rfl,HI⟩ K hK
        go_simp
        exact hK _ _ ⟨_,_,_,_,_,_,_,_,_,_,rfl,HI.out.p5⟩
      · rintro f a' w' hfi hdep hcl ⟨u25,u26,u27,u28,u29,u30,u31,u32,u33,u34,rfl,HI⟩ K hK
        have n9:f 9 = false:=by
          cases q:f 9 with
          | false => rfl
          | true =>
            have q8:f 8 = true:=hcl 9 _ rfl q { on:=8,ground:=.data } (by simp) rfl
            have q7:f 7 = true:=hcl 8 _ rfl q8 { on:=7,ground:=.data } (by simp) rfl
            have q6:f 6 = true:=hcl 7 _ rfl q7 { on:=6,ground:=.data } (by simp) rfl
            rw [q6] at hfi; cases hfi
        have d5:f 5 = true:=hdep { on:=5,ground:=.data } (by simp) rfl
        have e5:=HI.out.s5 d5
        subst e5
        obtain ⟨l0,b0,b1,b2,a0,x1,x3⟩:=HLD.out w' (HI.out.w0 n9)
        go_simp
        exact hK _ _ ⟨_,_,_,_,_,_,_,_,_,_,rfl,HI.out.p6⟩
      · rintro f a' w' hfi hdep hcl ⟨u25,u26,u27,u28,u29,u30,u31,u32,u33,u34,rfl,HI⟩ K hK
        have d1:f 1 = true:=hdep { on:=1,ground:=.data } (by simp) rfl
        have e1:=HI.out.s1 d1
        subst e1
        have d2:f 2 = true:=hdep { on:=2,ground:=.data } (by simp) rfl
        have e2:=HI.out.s2 d2
        subst e2
        have d4:f 4 = true:=hdep { on:=4,ground:=.data } (by simp) rfl
        have e4:=HI.out.s4 d4
        subst e4
        have d6:f 6 = true:=hdep { on:=6,ground:=.data } (by simp) rfl
        have e6:=HI.out.s6 d6
        subst e6
        have n9:f 9 = false:=by
          cases q:f 9 with
          | false => rfl
          | true =>
            have q8:f 8 = true:=hcl 9 _ rfl q { on:=8,ground:=.data } (by simp) rfl
            have q7:f 7 = true:=hcl 8 _ rfl q8 { on:=7,ground:=.data } (by simp) rfl
            rw [q7] at hfi; cases hfi
        have n8:f 8 = false:=by
          cases q:f 8 with
          | false => rfl
          | true =>
            have q7:f 7 = true:=hcl 8 _ rfl q { on:=7,ground:=.data } (by simp) rfl
            rw [q7] at hfi; cases hfi
        rw [if_pos (by simp [Region.wanted])]
        refine wpIn_call (by intro c h; cases h) (f:=138) (vs:=#[.agg #[.slice rA rn rc,.int .i64 re,.bool rh],.pointer (some ⟨g,0,none⟩),.int .i64 (cc:Nat),.int .i64 (m:Nat)]) (by go_simp) (HTX.out w' (HI.out.w0 n9)) (by rintro e w' ⟨R,he,_⟩; exact ⟨_,he⟩) ?_
        rintro v4 w4 ⟨R,hv4,hb4,hf4,hR4⟩
        injection hv4 with hv4
        subst hv4
        try go_simp
        exact hK _ _ ⟨_,_,_,_,_,_,_,_,_,_,rfl,HI.out.p7 hf4 hb4 hR4 n8 n9⟩
      · rintro f a' w' hfi hdep hcl ⟨u25,u26,u27,u28,u29,u30,u31,u32,u33,u34,rfl,HI⟩ K hK
        have d7:f 7 = true:=hdep { on:=7,ground:=.data } (by simp) rfl
        have n9:f 9 = false:=by
          cases q:f 9 with
          | false => rfl
          | true =>
            have q8:f 8 = true:=hcl 9 _ rfl q { on:=8,ground:=.data } (by simp) rfl
            rw [q8] at hfi; cases hfi
        obtain ⟨R,r1,r2,r3⟩:=HI.out.s7 d7
        subst r1
        go_simp
        exact hK _ _ ⟨_,_,_,_,_,_,_,_,_,_,rfl,HI.out.p8 n9⟩
      · rintro f a' w' hfi hdep hcl ⟨u25,u26,u27,u28,u29,u30,u31,u32,u33,u34,rfl,HI⟩ K hK
        have d0:f 0 = true:=hdep { on:=0,ground:=.data } (by simp) rfl
        have e0:=HI.out.s0 d0
        subst e0
        have d8:f 8 = true:=hdep { on:=8,ground:=.data } (by simp) rfl
        have d7:f 7 = true:=hcl 8 _ rfl d8 { on:=7,ground:=.data } (by simp) rfl
        have n10:f 10 = false:=by
          cases q:f 10 with
          | false => rfl
          | true =>
            have q9:f 9 = true:=hcl 10 _ rfl q { on:=9,ground:=.data } (by simp) rfl
            rw [q9] at hfi; cases hfi
        obtain ⟨R,r1,r2,r3⟩:=HI.out.s7 d7
        obtain ⟨X,x1,x2⟩:=HI.out.s8 d8
        subst r1 x1
        refine stepIn_app w' rfl _ _ 56 128 rfl (Value.slice none 0 0) 1 24 Tryz.underlying56 infoTS rfl (by decide) C c n (tvs m l) rfl (ORow.fr HTK.out.g.own (HI.out.w0 hfi) (.inr List.not_mem_nil)) _ 1 1 [.slice (some ⟨R,0,none⟩) m m] rfl rfl (by exact blk_sl (x2 hfi) 1) (by simp [Value.oneCell']) (by have:=HN9.out; simp only [maxLen]; omega) (by have:=HN9.out; omega) ?_
        intro C1 c1 w7 hr7 hg7 hb7
        try go_simp
        exact hK _ _ ⟨_,_,_,_,_,_,_,_,_,_,rfl,HI.out.p9 hr7 hg7 hb7 HCO.out hfi n10⟩
      · rintro f a' w' hfi hdep hcl ⟨u25,u26,u27,u28,u29,u30,u31,u32,u33,u34,rfl,HI⟩ K hK
        have d9:f 9 = true:=hdep { on:=9,ground:=.data } (by simp) rfl
        obtain ⟨C1,c1,wa,w9,x1,x2,x3,x4,x5,x6,x7⟩:=HI.out.s9 d9
        subst x1
        have e9:=x6 hfi
        subst e9
        obtain ⟨o0,oz,ol⟩:=HOC.out _ _ x2 x3
        go_simp
        exact hK _ _ ⟨_,_,_,_,_,_,_,_,_,_,rfl,HI.out.p10 HOO.out d9 hfi⟩
    · rintro f a' w' hall ⟨u25,u26,u27,u28,u29,u30,u31,u32,u33,u34,rfl,HI⟩
      obtain ⟨R,x1,hbR,hR⟩:=HI.out.s7 (hall 7 (by decide))
      obtain ⟨C1,c1,wa,w9,y1,y2,y3,y4,y5,_,y7⟩:=HI.out.s9 (hall 9 (by decide))
      subst x1 y1
      have hw:=y7 (hall 10 (by decide))
      have hput:=HTK.out.g.put y2 y4 y3 y5
      rw [← hw] at hput
      have HPU:=Lib.hid hput
      have HRB:Hid (Blk w' R 9 (strV (textsP s rcs cc m)).toArray ∧ W.heap.size ≤ R):=⟨hbR,hR⟩
      have HY:=Lib.hid y2
      clear HI hall hbR hR y2 y3 y4 y5 y7 hw hput
      gi_wp2
      refine ⟨HTK.out.g.keeps HPU.out.2.2 rfl (List.mem_singleton.2 rfl),C1,c1,n + 1,l ++ [(R,textsP s rcs cc m)],?_,?_,?_⟩
      · rw [List.length_append,List.length_singleton,HLS.out.1]
      · rw [List.map_append,List.map_append,HLS.out.2.1]
        simp only [List.map_cons,List.map_nil]
        rw [HLS.out.2.2]
      · refine ⟨?_,fun y hy => ?_⟩
        · unfold tvs
          rw [List.map_append]
          exact HPU.out.1
        · rcases List.mem_append.1 hy with h | h
          · refine ⟨(HTK.out.b y h).1.fr HPU.out.2.2 fun e => ?_,(HTK.out.b y h).2⟩
            rcases List.mem_cons.1 e with e | e
            · injection e with e
              have h1:=(HTK.out.b y h).1
              have h2:=HTK.out.g.box
              rw [e] at h1
              unfold Blk at h1 h2
              rw [h1] at h2
              injection h2 with h2
              injection h2 with _ h2 _
              exact absurd h2 (by decide)
            · rw [List.mem_singleton] at e
              rcases ORow.neB HTK.out.g.own (HTK.out.b y h).1 (by decide) with q | q
              · rw [q] at e; cases e
              · exact q e.symm
          · rw [List.mem_singleton] at h
            rw [h]
            exact ⟨HRB.out.1,Nat.le_trans HTK.out.g.fr.size HRB.out.2⟩
  case done =>
    rintro D W hD ⟨C,c,n,l,hnl,hls,HTK⟩ hK
    have o0:W.cell? ⟨OB,0,none⟩ = some (.slice C n c):=HTK.out.g.box.cell 0
    have HLS:=Lib.hid (And.intro hnl hls)
    have HDD:=Lib.hid hD
    have HKD:=Lib.hid hK
    clear hD hK hnl hls
    go_wp2_with fail
    refine ⟨by simp,.inl ⟨_,_,rfl,run_takeDeferred HKD.out,?_⟩⟩
    have hc:=HTK.out.ch (ChI.put (o':=.deferred none) HKD.out rfl HDD.out)
    refine ⟨.slice C n c,by simp [results,Tryz.results76,go_sem],C,n,c,l,rfl,?_,HLS.out.2,ORow.sl hc.g.own,fun x hx => (hc.b x hx).1,(HB0.out.1.trans HF5.out).seq hc.g.fr fun x hx => ?_⟩
    · have h1:=congrArg List.length HLS.out.2
      rw [List.length_map,List.length_map] at h1
      rw [HLS.out.1]
      exact h1.symm
    · rw [List.mem_singleton] at hx
      exact .inr (.inr ⟨OB,by have:=HOBN.out; omega,hx⟩)
  case stop =>
    rintro D c pre W _ h _
    exact h.elim
end Go.Proofs.YtblafakafgediaaGreat
