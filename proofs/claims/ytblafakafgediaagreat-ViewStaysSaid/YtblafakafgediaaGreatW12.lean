import Derived.Test.YtblafakafgediaaGreatW11
namespace Go.Proofs.Dm
/-- Texts with commas between them. -/
def joinP : List (List UInt8) → List UInt8
  | [] => []
  | [x] => x
  | x :: y :: r => x ++ 44 :: joinP (y :: r)
theorem joinP_snoc : ∀ (l : List (List UInt8)) (x : List UInt8), l ≠ [] → joinP (l ++ [x]) = joinP l ++ [44] ++ x
  | [], _, h => absurd rfl h
  | [a], x, _ => by simp [joinP]
  | a :: b :: r, x, _ => by
    have := joinP_snoc (b :: r) x (by simp)
    show a ++ 44 :: joinP (b :: r ++ [x]) = _
    rw [this]
    simp [joinP]
def cutP (s : List UInt8) (a n : Nat) : List UInt8 := (s.drop a).take n
theorem cutP_len (s : List UInt8) (a n : Nat) (h : a + n ≤ s.length) : (cutP s a n).length = n := by
  unfold cutP; rw [List.length_take, List.length_drop]; omega
theorem joinP_len : ∀ (l : List (List UInt8)), (joinP l).length ≤ (l.map (·.length + 1)).sum
  | [] => by simp [joinP]
  | [a] => by simp [joinP]
  | a :: b :: r => by
    have := joinP_len (b :: r)
    show (a ++ 44 :: joinP (b :: r)).length ≤ _
    rw [List.length_append, List.length_cons, List.map_cons, List.sum_cons]
    omega
end Go.Proofs.Dm
namespace Go.Proofs.YtblafakafgediaaGreat
open Go.RowKit Go.Proofs.Dm

theorem CellAt.fr0 {N : Nat} {x : CV} {w w' : World} (h : CellAt N x w) (hf : Fr [] w w') : CellAt N x w' := ⟨h.1.fr hf (.inr List.not_mem_nil), h.2⟩
theorem RowAt.fr0 {N : Nat} {A : Option Addr} {cs : List CV} {w w' : World} (h : RowAt N A cs w) (hf : Fr [] w w') : RowAt N A cs w' := ⟨h.1.fr hf (.inr List.not_mem_nil), fun c hc => (h.2 c hc).fr0 hf⟩
set_option maxHeartbeats 800000 in
theorem cellbytes_any (w : World) (g m d q a n : Nat) (b : Bool) (B : Option Addr) (sp : List (Nat × Nat)) (s : List UInt8) (ha : ArAt g s w) (hc : CellAt s.length ⟨B, m, d, sp, q, a, n, b⟩ w) (hp : (plc sp).length ≤ 1000000) (hl : s.length ≤ 1000000) :
    Calls Tryz.prog 120 #[.agg #[.slice B m d, .int .i64 (q : Nat), .int .i64 (a : Nat), .int .i64 (n : Nat), .bool b], .pointer (some ⟨g, 0, none⟩)] w (BytesAns w (atP s (plc sp))) := by
  have HC : Hid (∀ w', Fr [] w w' → Calls Tryz.prog 173 #[.agg #[.slice B m d, .int .i64 (q : Nat)], .pointer (some ⟨g, 0, none⟩)] w' (BytesAns w' (atP s (plc sp)))) := by
    show ∀ _, _
    intro w' hf
    have h := hc.fr0 hf
    exact flat_any w' g m d q B sp s (ha.fr0 hf) h.1 h.2.1 h.2.2.2.1 hp hl
  have HF : Hid (Fr [] w (w.alloc (.cells #[.slice B m d, .int .i64 (q : Nat), .int .i64 (a : Nat), .int .i64 (n : Nat), .bool b] TCl))) := (Fr.refl [] w).alloc _
  clear ha hc hp hl
  go_enter Tryz.func120, Tryz.ntmps120
  go_wp2_with fail
  refine (HC.out _ HF.out).mono ?_
  rintro e w2 ⟨B2, k2, d2, rfl, hk2, ho2, hf2, hn2⟩
  have HE : Hid (BytesAns w (atP s (plc sp)) (.returned (.slice B2 k2 d2)) w2) := ⟨B2, k2, d2, rfl, hk2, ho2, HF.out.trans hf2, fun j hj => by have := hn2 j hj; have := HF.out.size; omega⟩
  clear hk2 ho2 hf2 hn2
  go_wp2_with fail
  go_ret
  exact HE.out
set_option maxHeartbeats 800000 in
theorem cellprint_kept (w : World) (g m d q a n : Nat) (B : Option Addr) (s : List UInt8) (ha : ArAt g s w) (hc : a + n ≤ s.length) (hl : s.length ≤ 1000000) :
    Calls Tryz.prog 145 #[.agg #[.slice B m d, .int .i64 (q : Nat), .int .i64 (a : Nat), .int .i64 (n : Nat), .bool true], .pointer (some ⟨g, 0, none⟩)] w (BytesAns w (cutP s a n)) := by
  have HC : Hid (∀ w', Fr [] w w' → Calls Tryz.prog 121 #[.pointer (some ⟨g, 0, none⟩), .agg #[.int .i64 (a : Nat), .int .i64 (n : Nat)]] w' (BytesAns w' (cutP s a n))) := by
    show ∀ _, _
    intro w' hf
    exact bytes_yes w' g a n s (ha.fr0 hf) hc hl
  have HF : Hid (Fr [] w (w.alloc (.cells #[.slice B m d, .int .i64 (q : Nat), .int .i64 (a : Nat), .int .i64 (n : Nat), .bool true] TCl))) := (Fr.refl [] w).alloc _
  clear ha hc hl
  go_enter Tryz.func145, Tryz.ntmps145
  go_wp2_with fail
  refine (HC.out _ HF.out).mono ?_
  rintro e w2 ⟨B2, k2, d2, rfl, hk2, ho2, hf2, hn2⟩
  have HE : Hid (BytesAns w (cutP s a n) (.returned (.slice B2 k2 d2)) w2) := ⟨B2, k2, d2, rfl, hk2, ho2, HF.out.trans hf2, fun j hj => by have := hn2 j hj; have := HF.out.size; omega⟩
  clear hk2 ho2 hf2 hn2
  go_wp2_with fail
  go_ret
  exact HE.out
/-- What a cell is printed as. -/
def printP (s : List UInt8) (c : CV) : List UInt8 := if c.kept then cutP s c.a c.n else quoteP (atP s (plc c.sp))
def Short (c : CV) : Prop := c.kept = true ∨ (plc c.sp).length ≤ 2000
theorem printP_len (s : List UInt8) (c : CV) (h : c.a + c.n ≤ s.length) (hs : Short c) : (printP s c).length ≤ s.length + 4002 := by
  unfold printP
  split
  · rw [cutP_len s _ _ h]; omega
  · rename_i hk
    rcases hs with h1 | h1
    · exact absurd h1 hk
    · have h2 := quoteP_len (atP s (plc c.sp))
      rw [atP_len] at h2
      omega
set_option maxHeartbeats 800000 in
theorem cellprint_any (w : World) (g m d q a n : Nat) (b : Bool) (B : Option Addr) (sp : List (Nat × Nat)) (s : List UInt8) (ha : ArAt g s w) (hc : CellAt s.length ⟨B, m, d, sp, q, a, n, b⟩ w) (hp : Short ⟨B, m, d, sp, q, a, n, b⟩) (hl : s.length ≤ 1000000) :
    Calls Tryz.prog 145 #[.agg #[.slice B m d, .int .i64 (q : Nat), .int .i64 (a : Nat), .int .i64 (n : Nat), .bool b], .pointer (some ⟨g, 0, none⟩)] w (BytesAns w (printP s ⟨B, m, d, sp, q, a, n, b⟩)) := by
  cases b with
  | true => exact cellprint_kept w g m d q a n B s ha hc.2.2.2.2 hl
  | false =>
    have hp2 : (plc sp).length ≤ 2000 := hp.resolve_left (by simp)
    show Calls _ _ _ _ (BytesAns w (quoteP (atP s (plc sp))))
    have HC : Hid (∀ w', Fr [] w w' → Calls Tryz.prog 120 #[.agg #[.slice B m d, .int .i64 (q : Nat), .int .i64 (a : Nat), .int .i64 (n : Nat), .bool false], .pointer (some ⟨g, 0, none⟩)] w' (BytesAns w' (atP s (plc sp)))) := by
      show ∀ _, _
      intro w' hf
      exact cellbytes_any w' g m d q a n false B sp s (ha.fr0 hf) (hc.fr0 hf) (by omega) hl
    have HF : Hid (Fr [] w (w.alloc (.cells #[.slice B m d, .int .i64 (q : Nat), .int .i64 (a : Nat), .int .i64 (n : Nat), .bool false] TCl))) := (Fr.refl [] w).alloc _
    have HL : Hid ((atP s (plc sp)).length ≤ 1000000) := by show _ ≤ _; rw [atP_len]; omega
    clear ha hc hl hp hp2
    go_enter Tryz.func145, Tryz.ntmps145
    go_wp2_with fail
    refine (HC.out _ HF.out).mono ?_
    rintro e w2 ⟨B2, k2, d2, rfl, hk2, ho2, hf2, hn2⟩
    have HP := Lib.hid (qput_any w2 B2 k2 d2 _ (ORow.sl ho2) hk2 (by rw [hk2]; exact HL.out))
    have HF2 := Lib.hid (HF.out.trans hf2)
    clear hk2 ho2 hf2 hn2
    go_wp2_with fail
    refine HP.out.mono ?_
    rintro e w3 ⟨B3, k3, d3, rfl, hk3, ho3, hf3, hn3⟩
    have HE : Hid (BytesAns w (quoteP (atP s (plc sp))) (.returned (.slice B3 k3 d3)) w3) := ⟨B3, k3, d3, rfl, hk3, ho3, HF2.out.trans hf3, fun j hj => by have := hn3 j hj; have := HF2.out.size; omega⟩
    clear hk3 ho3 hf3 hn3
    go_wp2_with fail
    go_ret
    exact HE.out
/-- What a row is printed as. -/
def rowP (s : List UInt8) (cs : List CV) : List UInt8 := joinP (cs.map (printP s))
theorem rowP_step (s : List UInt8) (cs : List CV) (j : Nat) (c : CV) (h : cs[j]? = some c) : rowP s (cs.take (j + 1)) = (if j = 0 then [] else rowP s (cs.take j) ++ [44]) ++ printP s c := by
  have hj : j < cs.length := by
    rcases Nat.lt_or_ge j cs.length with h' | h'
    · exact h'
    · rw [List.getElem?_eq_none h'] at h; cases h
  rw [List.getElem?_eq_getElem hj] at h
  injection h with h
  unfold rowP
  rw [List.take_succ_eq_append_getElem hj, h, List.map_append]
  split
  · rename_i h0; subst h0; simp [joinP]
  · rw [List.map_cons, List.map_nil, joinP_snoc _ _ (by
      intro e
      have := congrArg List.length e
      rw [List.length_map, List.length_take, List.length_nil] at this
      omega)]
theorem rowP_le (s : List UInt8) (cs : List CV) (h : ∀ c ∈ cs, c.a + c.n ≤ s.length) (hs : ∀ c ∈ cs, Short c) : (rowP s cs).length ≤ cs.length * (s.length + 4003) := by
  refine Nat.le_trans (joinP_len _) ?_
  rw [List.map_map]
  induction cs with
  | nil => simp
  | cons c cs ih =>
    have h1 := h c (List.mem_cons_self ..)
    have h2 := ih (fun x hx => h x (List.mem_cons_of_mem _ hx)) (fun x hx => hs x (List.mem_cons_of_mem _ hx))
    have h3 := printP_len s c h1 (hs c (List.mem_cons_self ..))
    rw [List.map_cons, List.sum_cons, List.length_cons, Nat.add_one_mul]
    simp only [Function.comp] at h2 ⊢
    omega
end Go.Proofs.YtblafakafgediaaGreat
namespace Go.Proofs.YtblafakafgediaaGreat
open Go.RowKit Go.Proofs.Dm

theorem sl44 (w : World) (o : Obj) : Sl ((w.alloc o).alloc (.cells #[.int .u8 44] TU8)) (some ⟨w.heap.size + 1, 0, none⟩) (bts [44]) := by
  have := sl_new (w.alloc o) (.int .u8 44) TU8
  simpa [bts] using this
set_option maxRecDepth 100000 in
set_option maxHeartbeats 1600000 in
theorem rowprint_any (w : World) (N g m d e : Nat) (hd : Bool) (A : Option Addr) (cs : List CV) (s : List UInt8) (ha : ArAt g s w) (hN : N = s.length) (hr : RowAt N A cs w) (hm : m = cs.length) (hk : ∀ c ∈ cs, Short c) (hb : cs.length * (s.length + 4003) ≤ 1000000) (hl : s.length ≤ 1000000) :
    Calls Tryz.prog 83 #[.agg #[.slice A m d, .int .i64 (e : Nat), .bool hd], .pointer (some ⟨g, 0, none⟩)] w (BytesAns w (rowP s cs)) := by
  subst hN
  have HA := Lib.hid ha
  have HR := Lib.hid hr
  have HKP := Lib.hid hk
  have HB := Lib.hid hb
  have HL := Lib.hid hl
  have HM := Lib.hid hm
  have hm1 : (m : Int) ≤ 1000000 := by
    have : cs.length ≤ cs.length * (s.length + 4003) := Nat.le_mul_of_pos_right _ (by omega)
    omega
  clear ha hr hk hb hl hm
  go_enter Tryz.func83, Tryz.ntmps83
  go_wp2_with fail
  have HF0 : Hid (Fr [] w (w.alloc (.cells #[.slice A m d, .int .i64 (e : Nat), .bool hd] TRow))) := (Fr.refl [] w).alloc _
  obtain ⟨W0, hW0⟩ : ∃ W0, W0 = w.alloc (.cells #[.slice A m d, .int .i64 (e : Nat), .bool hd] TRow) := ⟨_, rfl⟩
  rw [← hW0] at HF0 ⊢
  clear hW0
  go_loopw [11, 5] (fun iv ov wr => ∃ (j : Nat) (C : Option Addr) (c n : Nat), iv = .int .i64 j ∧ ov = .slice C n c ∧ j ≤ m ∧ Hid (BS w wr C c n (rowP s (cs.take j)))) (fun iv _ _ => m - (intOf iv).toNat)
  case atStart => exact ⟨0, none, 0, 0, rfl, rfl, Nat.zero_le _, (BS.start w).fr0 HF0.out⟩
  case round =>
    obtain ⟨j, C, c, n, rfl, rfl, hj, HBS⟩ := hrel
    by_cases hlt : j < m
    · have hjl : j < cs.length := by rw [← HM.out]; exact hlt
      obtain ⟨bd, rfl, e0, e1⟩ := sl_elem (f := CV.cells) (sz := 5) (fun _ => rfl) (HR.out.1.fr HBS.out.fr (.inr List.not_mem_nil)) hjl (by omega)
      obtain ⟨x, hx⟩ : ∃ x, x = cs[j] := ⟨_, rfl⟩
      rw [← hx] at e0 e1
      have hxm : x ∈ cs := by rw [hx]; exact List.getElem_mem hjl
      have hxa := HR.out.2 x hxm
      have hxk := HKP.out x hxm
      have hst := rowP_step s cs j x (by rw [List.getElem?_eq_getElem hjl, hx])
      obtain ⟨xB, xm, xd, xsp, xq, fa, fn, xk⟩ := x
      obtain ⟨pp, hpp⟩ : ∃ pp, pp = printP s ⟨xB, xm, xd, xsp, xq, fa, fn, xk⟩ := ⟨_, rfl⟩
      obtain ⟨ln, hln⟩ : ∃ ln, ln = pp.length := ⟨_, rfl⟩
      rw [← hpp] at hst
      have c0 : wr.cell? (bd.add (j * 5)) = some (.slice xB xm xd) := e0 _ rfl
      have c1 : wr.cell? ⟨(bd.add (j * 5)).block, (bd.add (j * 5)).off + 1, none⟩ = some (.int .i64 (xq : Nat)) := e1 0 _ rfl
      have c2 : wr.cell? ⟨(bd.add (j * 5)).block, (bd.add (j * 5)).off + 2, none⟩ = some (.int .i64 (fa : Nat)) := e1 1 _ rfl
      have c3 : wr.cell? ⟨(bd.add (j * 5)).block, (bd.add (j * 5)).off + 3, none⟩ = some (.int .i64 (fn : Nat)) := e1 2 _ rfl
      have c4 : wr.cell? ⟨(bd.add (j * 5)).block, (bd.add (j * 5)).off + 4, none⟩ = some (.bool xk) := e1 3 _ rfl
      have hle := rowP_le s (cs.take (j + 1)) (fun c hc => (HR.out.2 c (List.mem_of_mem_take hc)).2.2.2.2) (fun c hc => HKP.out c (List.mem_of_mem_take hc))
      have hle2 : (cs.take (j + 1)).length * (s.length + 4003) ≤ cs.length * (s.length + 4003) := Nat.mul_le_mul_right _ (by rw [List.length_take]; omega)
      have hlen : (rowP s (cs.take (j + 1))).length ≤ 1000000 := by have := HB.out; omega
      have HK : Hid (ln = pp.length) := hln
      have HC : Hid (∀ w', Fr [] w w' → Calls Tryz.prog 145 #[.agg #[.slice xB xm xd, .int .i64 (xq : Nat), .int .i64 (fa : Nat), .int .i64 (fn : Nat), .bool xk], .pointer (some ⟨g, 0, none⟩)] w' (BytesAns w' pp)) := by
        show ∀ _, _
        intro w' hf
        rw [hpp]
        exact cellprint_any w' g xm xd xq fa fn xk xB xsp s (HA.out.fr0 hf) (hxa.fr0 hf) hxk HL.out
      have HFA : Hid (Fr [] wr (wr.alloc (.cells #[.slice xB xm xd, .int .i64 (xq : Nat), .int .i64 (fa : Nat), .int .i64 (fn : Nat), .bool xk] TCl))) := (Fr.refl [] wr).alloc _
      clear e0 e1 hx hjl hxm hxa hxk hpp hln hle hle2
      rcases Nat.eq_zero_or_pos j with hj0 | hj0
      · have HTK : Hid (rowP s (cs.take (j + 1)) = rowP s (cs.take j) ++ pp) := by
          show _ = _
          rw [hst, if_pos hj0, hj0]
          rfl
        have HNK : Hid (n + ln ≤ 1000000) := by
          have h1 := congrArg List.length HTK.out
          rw [List.length_append, ← HK.out, ← HBS.out.ln] at h1
          show _ ≤ _
          omega
        have HBSA := Lib.hid (HBS.out.fr0 HFA.out)
        have hj1 : ¬ (0 : Int) < (j : Int) := by omega
        clear hst hlen hj0
        go_wp2_with fail
        refine (HC.out _ ?_).mono ?_
        · exact HBSA.out.fr
        rintro e w2 ⟨B2, k2, d2, rfl, hk2, ho2, hf2, hn2⟩
        obtain rfl : ln = k2 := by rw [hk2]; exact HK.out
        have HBS2 := Lib.hid (HBSA.out.fr0 hf2)
        have HO2 := Lib.hid (ORow.sl ho2)
        clear hk2 ho2 hf2 hn2 HC
        go_wp2_with (at_builtin; go_must (
          refine wpList_app _ rfl _ _ 66 TU8 rfl (Value.int .u8 0) 1 1 Tryz.underlying66 infoU8 rfl (by decide) C c (n) (bts (rowP s (cs.take j))) rfl HBS2.out.own B2 ln d2 (bts pp) rfl (by rw [bts_len, ← HK.out]) HO2.out (bts_one _) (by have := HNK.out; simp only [maxLen]; omega) (by have := HNK.out; omega) ?_
          intro A5 c5 w5 hr5 hg5 hb5
          have HN5 : Hid (BS w w5 A5 c5 (n + ln) (rowP s (cs.take (j + 1)))) := by
            rw [HTK.out]
            exact HBS2.out.app (Fr.refl _ _) HK.out hr5 hg5 hb5
          clear hr5 hg5 hb5))
        go_roundw
        case rel => exact ⟨j + 1, A5, c5, n + ln, by go_num, by simp, by omega, HN5.out⟩
        case measure => simp [intOf]; omega
      · have hj1 : (0 : Int) < (j : Int) := by omega
        have HTK0 : Hid (rowP s (cs.take (j + 1)) = (rowP s (cs.take j) ++ [44]) ++ pp) := by
          show _ = _
          rw [hst, if_neg (by omega)]
        have HNK : Hid (n + 1 + ln ≤ 1000000) := by
          have h1 := congrArg List.length HTK0.out
          rw [List.length_append, List.length_append, ← HK.out, ← HBS.out.ln, List.length_singleton] at h1
          show _ ≤ _
          omega
        have HBS1 := Lib.hid (HBS.out.fr0 HFA.out)
        clear hst hlen hj0
        go_wp2_with (at_builtin; go_must (
          refine wpList_app _ rfl _ _ 66 TU8 rfl (Value.int .u8 0) 1 1 Tryz.underlying66 infoU8 rfl (by decide) C c n (bts (rowP s (cs.take j))) rfl ((HBS.out.fr0 HFA.out).own.fr ((Fr.refl [] _).alloc _) (.inr List.not_mem_nil)) _ 1 1 (bts [44]) rfl rfl (sl44 _ _) (bts_one _) (by have := HNK.out; simp only [maxLen]; omega) (by have := HNK.out; omega) ?_
          intro A3 c3 w3 hr3 hg3 hb3
          have HBSA : Hid (BS w w3 A3 c3 (n + 1) (rowP s (cs.take j) ++ [44])) := HBS1.out.app (k := [44]) ((Fr.refl [] _).alloc _) rfl hr3 hg3 hb3
          have hno : some wr.heap.size ∉ [bk C] := fun e => by
            rw [List.mem_singleton] at e
            have := ORow.lt HBS.out.own e.symm
            omega
          have hbx := ((Blk.new wr TCl #[.slice xB xm xd, .int .i64 (xq : Nat), .int .i64 (fa : Nat), .int .i64 (fn : Nat), .bool xk]).alloc (.cells #[.int .u8 44] TU8)).fr hg3 hno
          have b0 : w3.cell? ⟨wr.heap.size, 0, none⟩ = some (.slice xB xm xd) := hbx.cell 0
          have b1 : w3.cell? ⟨wr.heap.size, 1, none⟩ = some (.int .i64 (xq : Nat)) := hbx.cell 1
          have b2 : w3.cell? ⟨wr.heap.size, 2, none⟩ = some (.int .i64 (fa : Nat)) := hbx.cell 2
          have b3 : w3.cell? ⟨wr.heap.size, 3, none⟩ = some (.int .i64 (fn : Nat)) := hbx.cell 3
          have b4 : w3.cell? ⟨wr.heap.size, 4, none⟩ = some (.bool xk) := hbx.cell 4
          clear hr3 hg3 hb3 hno hbx))
        have HTK := Lib.hid HTK0.out
        refine (HC.out _ ?_).mono ?_
        · exact HBSA.out.fr
        rintro e w2 ⟨B2, k2, d2, rfl, hk2, ho2, hf2, hn2⟩
        obtain rfl : ln = k2 := by rw [hk2]; exact HK.out
        have HBS2 := Lib.hid (HBSA.out.fr0 hf2)
        have HO2 := Lib.hid (ORow.sl ho2)
        clear hk2 ho2 hf2 hn2 HC
        go_wp2_with (at_builtin; go_must (
          refine wpList_app _ rfl _ _ 66 TU8 rfl (Value.int .u8 0) 1 1 Tryz.underlying66 infoU8 rfl (by decide) A3 c3 (n + 1) (bts (rowP s (cs.take j) ++ [44])) rfl HBS2.out.own B2 ln d2 (bts pp) rfl (by rw [bts_len, ← HK.out]) HO2.out (bts_one _) (by have := HNK.out; simp only [maxLen]; omega) (by have := HNK.out; omega) ?_
          intro A5 c5 w5 hr5 hg5 hb5
          have HN5 : Hid (BS w w5 A5 c5 (n + 1 + ln) (rowP s (cs.take (j + 1)))) := by
            rw [HTK.out]
            exact HBS2.out.app (Fr.refl _ _) HK.out hr5 hg5 hb5
          clear hr5 hg5 hb5))
        go_roundw
        case rel => exact ⟨j + 1, A5, c5, n + 1 + ln, by go_num, by simp, by omega, HN5.out⟩
        case measure => simp [intOf]; omega
    · obtain rfl : j = m := by omega
      have HEND : Hid (BytesAns w (rowP s cs) (.returned (.slice C n c)) wr) := by
        have h := HBS.out.ans
        rw [HM.out, List.take_length] at h
        exact h
      go_wp2_with fail
      go_ret
      exact HEND.out
end Go.Proofs.YtblafakafgediaaGreat
