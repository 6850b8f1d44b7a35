import Derived.Test.YtblafakafgediaaV26
import Derived.Lib.AppendStr
namespace Go.Proofs.Dm
open Go.RowKit
section
variable {P : Program} {l n : Nat} {o : Oper} {a : Act} {w w' : World} {K : Act → World → Prop} {Q : Exit → Act → World → Prop}
theorem wpIn_val (hd : ∀ c, o.op ≠ .defer c) {v : Value} (hr : (execOp a.eval o).run P w = .ok (.value v) w') (h : K (a.put o.dst v) w') : o.wpIn (Fence.wide.inRound l) n P a w K Q := by
  refine ⟨fun _ _ => trivial, ?_⟩
  rw [show (o.semAt (Fence.wide.inRound l).round a.eval) = execOp a.eval o from Oper.semAt_some l _ _ hd, hr]
  exact h
theorem wpIn_call (hd : ∀ c, o.op ≠ .defer c) {f : FuncId} {vs : Array Value} (hr : (execOp a.eval o).run P w = .ok (.enter f vs) w) {R : Ending → World → Prop} (hc : Calls P f vs w R) (hv : ∀ e w', R e w' → ∃ v, e = .returned v)
    (h : ∀ v w', R (.returned v) w' → K (a.put o.dst v) w') : o.wpIn (Fence.wide.inRound l) n P a w K Q := by
  refine ⟨fun _ _ => trivial, ?_⟩
  rw [show (o.semAt (Fence.wide.inRound l).round a.eval) = execOp a.eval o from Oper.semAt_some l _ _ hd, hr, Oper.uponIn_enter]
  refine ⟨fun h => by simp [Fence.inRound, Fence.wide] at h, ?_⟩
  refine CallsIn.inRound l ((callsIn_wide.2 hc).mono fun e w' hr => ?_)
  obtain ⟨v, rfl⟩ := hv e w' hr
  exact h v w' hr
theorem wpListIn_app {ops : Array Oper} {rest : List Oper} (hgd : o.guard = none) (s x : Operand) (t e : TypeId)
    (ho : o.op = .call { callee := .builtin .append, args := #[s, x], argTypes := #[t, t] }) (z : Value) (sz bytes : Nat)
    (ht : P.underlying t = some (.slice e)) (hinfo : (P.info? e).map (fun i => (i.zero, i.size, i.bytes)) = some (some z, sz, bytes)) (hzs : z.cells.size = sz) (hsz : 0 < sz)
    (A : Option Addr) (c n1 : Nat) (cs : List Value) (hs : a.eval s = .slice A n1 c) (hown : ORow w e sz A c n1 cs) (A2 : Option Addr) (m c2 : Nat) (news : List Value) (hx : a.eval x = .slice A2 m c2)
    (hl : news.length = m * sz) (hsl : Sl w A2 news) (h1 : ∀ u ∈ news, u.oneCell' = true) (h63 : n1 + m ≤ maxLen) (hbytes : (n1 + m) * bytes ≤ 140737488355328)
    (h : ∀ A' c' w', ORow w' e sz A' c' (n1 + m) (cs ++ news) → Fr [bk A] w w' → (bk A' = bk A ∨ bk A' = some w.heap.size) → wpListIn (Fence.wide.inRound l) n P ops Q rest (a.put o.dst (.slice A' (n1 + m) c')) w') :
    wpListIn (Fence.wide.inRound l) n P ops Q (o :: rest) a w := by
  obtain ⟨A', c', w', hr, h2, h3, h4⟩ := run_app (P := P) w t o.type e z sz bytes ht hinfo hzs hsz A c n1 cs hown A2 m c2 news hl hsl h1 h63 hbytes
  refine wpListIn_plain hgd fun K hK => wpIn_val (fun c hc => by rw [ho] at hc; cases hc) (v := .slice A' (n1 + m) c') (w' := w') ?_ (hK _ _ (h A' c' w' h2 h3 h4))
  unfold execOp
  simp only [ho, resolve, invoke, builtin, Sem.run_bind, Sem.run_pure, Result.andThen_ok, List.map_toArray, List.map_cons, List.map_nil, hs, hx, hr]
theorem strCells_bts (k : List UInt8) : Lib.strCells ⟨k.toArray⟩ = bts k := by
  simp [Lib.strCells, bts]
/-- 'append(b, s...)': s a text. -/
theorem run_appstr (t u ty e : TypeId) (ht : P.underlying t = some (.slice e)) (hu : P.underlying u = some .string) (hinfo : (P.info? e).map (fun i => (i.zero, i.size, i.bytes)) = some (some (.int .u8 0), 1, 1))
    (A : Option Addr) (c n1 : Nat) (cs : List Value) (hown : ORow w e 1 A c n1 cs) (k : List UInt8) (h63 : n1 + k.length ≤ 140737488355328) (b : Nat) (hb : b ≤ w.heap.size) (hA : ∀ j, bk A = some j → b ≤ j) :
    ∃ A' c' w', (Builtin.append_ #[t, u] ty #[.slice A n1 c, .string ⟨k.toArray⟩]).run P w = .ok (.slice A' (n1 + k.length) c') w' ∧ ORow w' e 1 A' c' (n1 + k.length) (cs ++ bts k) ∧ Fr [bk A] w w' ∧ (∀ j, bk A' = some j → b ≤ j) := by
  obtain ⟨i0, hi, hz0, hz1, hz2⟩ := info_parts hinfo
  have hsz : (⟨k.toArray⟩ : ByteArray).size = k.length := by simp [ByteArray.size]
  have hob : w.ownsRow b e 1 (.slice A n1 c) n1 cs := by
    refine ⟨hown.1, ?_⟩
    rcases hown.2 with h | ⟨g, cap, cur, he, _, rest⟩
    · exact .inl h
    · refine .inr ⟨g, cap, cur, he, ?_, rest⟩
      injection he with he
      subst he
      exact hA g rfl
  obtain ⟨v', w', hr, h2, h3, h4⟩ := Lib.run_append_own_string (P := P) w b t u ty e i0 ht hu hi hz0 hz1 hz2 (.slice A n1 c) n1 cs hob ⟨k.toArray⟩ (by rw [hsz]; simp only [maxLen]; omega) (by rw [hsz]; exact h63) hb
  rw [hsz, strCells_bts] at h2
  have hf : Fr [bk A] w w' := (Fr.refl _ w).grown h3 fun k hk _ => by rw [ownBlock_bk] at hk; simp [hk]
  rcases h2.2 with ⟨he, h0⟩ | ⟨g, cap, cur, he, hbg, rest⟩
  · subst he
    rw [h0] at h2
    refine ⟨none, 0, w', by rw [h0]; exact hr, by rw [h0]; exact ⟨h2.1, .inl ⟨rfl, rfl⟩⟩, hf, fun j hj => by cases hj⟩
  · subst he
    exact ⟨some ⟨g, 0, none⟩, cap, w', hr, ⟨h2.1, .inr ⟨g, cap, cur, rfl, Nat.zero_le _, rest⟩⟩, hf, fun j hj => by injection hj with hj; subst hj; exact hbg⟩
theorem wpIn_appstr (s x : Operand) (t u e : TypeId) (ho : o.op = .call { callee := .builtin .append, args := #[s, x], argTypes := #[t, u] }) (ht : P.underlying t = some (.slice e)) (hu : P.underlying u = some .string)
    (hinfo : (P.info? e).map (fun i => (i.zero, i.size, i.bytes)) = some (some (.int .u8 0), 1, 1)) (A : Option Addr) (c n1 : Nat) (cs : List Value) (hs : a.eval s = .slice A n1 c) (hown : ORow w e 1 A c n1 cs) (k : List UInt8) (hx : a.eval x = .string ⟨k.toArray⟩)
    (h63 : n1 + k.length ≤ 140737488355328) (b : Nat) (hb : b ≤ w.heap.size) (hA : ∀ j, bk A = some j → b ≤ j)
    (h : ∀ A' c' w', ORow w' e 1 A' c' (n1 + k.length) (cs ++ bts k) → Fr [bk A] w w' → (∀ j, bk A' = some j → b ≤ j) → K (a.put o.dst (.slice A' (n1 + k.length) c')) w') :
    o.wpIn (Fence.wide.inRound l) n P a w K Q := by
  obtain ⟨A', c', w', hr, h2, h3, h4⟩ := run_appstr (P := P) (w := w) t u o.type e ht hu hinfo A c n1 cs hown k h63 b hb hA
  refine wpIn_val (fun c hc => by rw [ho] at hc; cases hc) (v := .slice A' (n1 + k.length) c') (w' := w') ?_ (h A' c' w' h2 h3 h4)
  unfold execOp
  simp only [ho, resolve, invoke, builtin, Sem.run_bind, Sem.run_pure, Result.andThen_ok, List.map_toArray, List.map_cons, List.map_nil, hs, hx, hr]
end
/-- What a row is printed as, its end and all: the i-th of n. -/
def pieceP (line : List UInt8) (n i : Nat) (tl : Bool) (eo e : Nat) : List UInt8 := line ++ if i + 1 < n ∨ tl = true ∨ line = [] then markP (if e = 0 then eo else e) else []
theorem markP_len (e : Nat) : (markP e).length ≤ 2 := by unfold markP; split <;> (try split) <;> (try split) <;> simp
end Go.Proofs.Dm
namespace Go.Proofs.Ytblafakafgediaa
open Go.RowKit Go.Proofs.Dm
def savesP (s : List UInt8) (n : Nat) (tl : Bool) (eo : Nat) : Nat → List (Nat × List CV) → List UInt8
  | _, [] => []
  | i, r :: rs => pieceP (rowP s r.2) n i tl eo r.1 ++ savesP s n tl eo (i + 1) rs
theorem savesP_snoc (s : List UInt8) (n : Nat) (tl : Bool) (eo : Nat) : ∀ (rs : List (Nat × List CV)) (i : Nat) (r : Nat × List CV), savesP s n tl eo i (rs ++ [r]) = savesP s n tl eo i rs ++ pieceP (rowP s r.2) n (i + rs.length) tl eo r.1
  | [], i, r => by simp [savesP]
  | a :: rs, i, r => by
    show pieceP _ _ _ _ _ _ ++ savesP s n tl eo (i + 1) (rs ++ [r]) = _
    rw [savesP_snoc s n tl eo rs (i + 1) r, show i + 1 + rs.length = i + (a :: rs).length by rw [List.length_cons]; omega]
    simp [savesP]
theorem savesP_le (s : List UInt8) (n : Nat) (tl : Bool) (eo M : Nat) : ∀ (rs : List (Nat × List CV)) (i : Nat), (∀ r ∈ rs, (rowP s r.2).length ≤ M) → (savesP s n tl eo i rs).length ≤ rs.length * (M + 2)
  | [], i, _ => by simp [savesP]
  | a :: rs, i, h => by
    have h1 := h a (List.mem_cons_self ..)
    have h2 := savesP_le s n tl eo M rs (i + 1) fun r hr => h r (List.mem_cons_of_mem _ hr)
    show (pieceP _ _ _ _ _ _ ++ savesP s n tl eo (i + 1) rs).length ≤ _
    rw [List.length_append, List.length_cons, Nat.add_one_mul]
    have h3 : (pieceP (rowP s a.2) n i tl eo a.1).length ≤ M + 2 := by
      unfold pieceP
      rw [List.length_append]
      have := markP_len (if a.1 = 0 then eo else a.1)
      split <;> simp <;> omega
    omega
/-- What holds between two rounds of Save: OB the box of what is written. -/
structure SV (w2 W : World) (OB : Nat) (C : Option Addr) (c n : Nat) (l : List UInt8) : Prop where
  box : Blk W OB 32 #[.slice C n c]
  own : ORow W TU8 1 C c n (bts l)
  ln : n = l.length
  fr : Fr [some OB] w2 W
  ob : OB < w2.heap.size
  nw : ∀ j, bk C = some j → w2.heap.size ≤ j
section
variable {w2 W W' : World} {OB c n : Nat} {C : Option Addr} {l : List UInt8}
theorem SV.fr0 (h : SV w2 W OB C c n l) (hf : Fr [] W W') : SV w2 W' OB C c n l := ⟨h.box.fr hf (by simp), ORow.fr h.own hf (.inr List.not_mem_nil), h.ln, h.fr.trans hf.of_nil, h.ob, h.nw⟩
theorem SV.ch (h : SV w2 W OB C c n l) (hc : ChI w2.heap.size W W') : SV w2 W' OB C c n l := by
  refine ⟨hc.block _ _ h.box (.inl h.ob), ⟨h.own.1, ?_⟩, h.ln, ⟨hc.os.trans h.fr.os, hc.tape.trans h.fr.tape, hc.output.trans h.fr.output, Nat.le_trans h.fr.size hc.size, fun k hk hn => ?_⟩, h.ob, h.nw⟩
  · rcases h.own.2 with h0 | ⟨g, cap, cur, he, hb, hg, rest⟩
    · exact .inl h0
    · exact .inr ⟨g, cap, cur, he, hb, hc.block _ _ hg (.inr (by simp [itT]; decide)), rest⟩
  · have hold := h.fr.block k hk hn
    have hget : w2.heap[k]? = some w2.heap[k] := Array.getElem?_eq_getElem hk
    rw [hget] at hold ⊢
    exact hc.block k _ hold (.inl hk)
theorem SV.ne (h : SV w2 W OB C c n l) : bk C ≠ some OB := fun e => by have := h.nw OB e; have := h.ob; omega
/-- Something is written, and the box turned. -/
theorem SV.put {W1 : World} {C1 : Option Addr} {c1 : Nat} {k : List UInt8} (h : SV w2 W OB C c n l) (hr : ORow W1 TU8 1 C1 c1 (n + k.length) (bts l ++ bts k)) (hg : Fr [bk C] W W1) (hn : ∀ j, bk C1 = some j → w2.heap.size ≤ j) :
    SV w2 (W1.setCell ⟨OB, 0, none⟩ (.slice C1 (n + k.length) c1)) OB C1 c1 (n + k.length) (l ++ k) ∧ Blk W1 OB 32 #[.slice C n c] := by
  have hb1 := h.box.fr hg (fun e => by rw [List.mem_singleton] at e; exact h.ne e.symm)
  have hob := h.ob
  have hset : Fr [some OB] W1 (W1.setCell ⟨OB, 0, none⟩ (.slice C1 (n + k.length) c1)) := (Fr.refl _ W1).setB (by simp) 0 _
  refine ⟨⟨hb1.set_ 0 _, ?_, by rw [List.length_append, h.ln], ?_, hob, hn⟩, hb1⟩
  · rw [bts_app]
    refine ORow.fr hr hset ?_
    cases hB : bk C1 with
    | none => exact .inl rfl
    | some j => exact .inr fun e => by rw [List.mem_singleton] at e; injection e with e; have := hn j hB; omega
  · refine (h.fr.seq hg fun x hx => ?_).trans hset
    rw [List.mem_singleton] at hx
    subst hx
    cases hB : bk C with
    | none => exact .inr (.inl rfl)
    | some j => exact .inr (.inr ⟨j, h.nw j hB, rfl⟩)
theorem SV.keeps {b : Nat} {E : List (Option Nat)} (h : SV w2 W OB C c n l) (hW : W'.heap.size = W'.heap.size) (hf : Fr [some OB, bk C] W W') (hb : b = w2.heap.size) (hE : some OB ∈ E) : KeepsI E b W W' := by
  subst hb
  refine KeepsI.of_frS hf fun k hk hlt => ?_
  rcases List.mem_cons.1 hk with e | e
  · injection e with e
    subst e
    exact ⟨.inr hE, _, h.box, by simp [itT]; decide⟩
  · rw [List.mem_singleton] at e
    refine ⟨.inl (h.nw k e.symm), ?_⟩
    rcases h.own.2 with ⟨h0, _⟩ | ⟨g, cap, cur, he, hbb, hg, rest⟩
    · injection h0 with h0; subst h0; cases e
    · injection he with he
      subst he
      injection e with e
      subst e
      exact ⟨_, hg, by simp [itT]; decide⟩
end
end Go.Proofs.Ytblafakafgediaa
