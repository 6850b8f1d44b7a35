import Derived.Test.YtblafakafgediaaH45
namespace Go.Proofs.Ytblafakafgediaa
open Go.RowKit Go.Shelf Go.Proofs.Dm
attribute [local go_sem] Oper.semAt_some

theorem infoB : (Try.prog.info? 4).map (fun i => (i.zero, i.size, i.bytes)) = some (some (Value.bool false), 1, 1) := by kernel_rfl
theorem run_makeBl (n : Nat) (hn : n ≤ 1000000) (W : World) : (Instr.makeSlice 110 (.int .i64 (n : Int)) (.int .i64 (n : Int))).run Try.prog W = .ok (.slice (some ⟨W.heap.size, 0, none⟩) n n) (W.alloc (.cells (List.replicate n (Value.bool false)).toArray 4)) := by
  obtain ⟨i0, hi, hz0, hz1, hz2⟩ := info_parts infoB
  have h := run_make (P := Try.prog) W 110 4 i0 _ Try.underlying110 hi hz0 .i64 .i64 n n (by omega) (Int.le_refl _) (by rw [hz2]; omega) (by omega)
  simp only [Int.toNat_natCast] at h
  rw [h, hz1]
  have := made_rep (fun v : Value => [v]) (Value.bool false) (Value.bool false).cells rfl (by decide) n
  rw [show (Value.bool false).cells.size = 1 from rfl] at this
  rw [this, show (List.replicate n (Value.bool false)).flatMap (fun v => [v]) = List.replicate n (Value.bool false) from by
    have : ∀ l : List Value, l.flatMap (fun v => [v]) = l := fun l => by induction l with
      | nil => rfl
      | cons a l ih => rw [List.flatMap_cons, ih]; rfl
    exact this _]
set_option maxRecDepth 100000 in
set_option maxHeartbeats 1600000 in
theorem cells_any (E : List (Option Nat)) (w : World) (p : Option Addr) (tl : Bool) (eo : Int) (rs : List RW) (N n c : Nat) (hE : Old E w) (ht : TreeAt TN [] w p (rs.map Prod.fst)) (hr : RowsAt E w N rs) (hn : n = rs.length) (hn7 : n ≤ 700) (hc : ∀ r ∈ rs, r.1.n ≤ 1000000) :
    Calls Try.prog 44 #[.agg #[.pointer p, .bool tl, .int .i64 eo], .int .i64 (c : Nat)] w (CellsAns E w N n c rs) := by
  have hxn : (rs.map Prod.fst).length = n := by rw [List.length_map, hn]
  have HLN : Hid (∀ w', Fr [] w w' → Calls Try.prog 13 #[.agg #[.pointer p, .bool tl, .int .i64 eo]] w' fun en w'' => en = .returned (.int .i64 (n : Nat)) ∧ Fr [] w' w'') := by
    show ∀ _, _
    intro w' hf
    have := glen_any [] p (rs.map Prod.fst) tl eo w' (ht.fr0 hf)
    rw [hxn] at this
    exact this
  have HRG : Hid (∀ w', Fr [] w w' → Calls Try.prog 38 #[.agg #[.pointer p], .int .i64 0, .int .i64 (n : Nat)] w' (FuncNew w' p 0 n)) := by
    show ∀ _, _
    intro w' hf
    have := range_new [] p (rs.map Prod.fst) w' (ht.fr0 hf) (by omega)
    rw [hxn] at this
    exact this
  have HW : Hid (∀ W0, W0 = (w.alloc (.cells #[.pointer p, .bool tl, .int .i64 eo] TGr)).alloc (.cells #[.int .i64 (c : Nat)] 3) →
      Fr [] w W0 ∧ Blk W0 w.heap.size TGr #[.pointer p, .bool tl, .int .i64 eo] ∧ Blk W0 (w.heap.size + 1) 3 #[.int .i64 (c : Nat)]) := by
    show ∀ _, _
    rintro W0 rfl
    have b1 := Blk.new (w.alloc (.cells #[.pointer p, .bool tl, .int .i64 eo] TGr)) 3 #[.int .i64 (c : Nat)]
    refine ⟨((Fr.refl [] w).alloc _).alloc _, (Blk.new w TGr _).alloc _, by simpa using b1⟩
  have HIN : Hid (TreeAt TN [] w p (rs.map Prod.fst)) := ht
  have HR : Hid (RowsAt E w N rs) := hr
  have HN : Hid (n = rs.length ∧ n ≤ 700) := ⟨hn, hn7⟩
  have HC := Lib.hid hc
  have HE := Lib.hid hE
  have HMK := Lib.hid (run_makeCl n (by omega))
  have HMB := Lib.hid (run_makeBl n (by omega))
  clear ht hr hn hn7 hc hE hxn
  refine callsIn_wide.1 (callsIn_of_wp_marks (n := 3) Try.func44 rfl trivial (wpIn_wide.2 ?_))
  simp only [Try.ntmps44, List.size_toArray, List.length_cons, List.length_nil, Nat.reduceAdd, Nat.reduceSub, Array.replicate_succ, Array.replicate_zero, List.push_toArray, List.append_toArray, List.nil_append, List.cons_append]
  go_wp2_with fail
  obtain ⟨W0, hW0⟩ : ∃ W0, W0 = (w.alloc (.cells #[.pointer p, .bool tl, .int .i64 eo] TGr)).alloc (.cells #[.int .i64 (c : Nat)] 3) := ⟨_, rfl⟩
  obtain ⟨k1, k2, k3⟩ := HW.out W0 hW0
  rw [← hW0]
  obtain ⟨CB, hCB⟩ : ∃ CB, CB = w.heap.size + 1 := ⟨_, rfl⟩
  obtain ⟨GB, hGB⟩ : ∃ GB, GB = w.heap.size := ⟨_, rfl⟩
  rw [← hCB] at k3 ⊢
  rw [← hGB] at k2 ⊢
  have HB0 : Hid (Fr [] w W0 ∧ Blk W0 GB TGr #[.pointer p, .bool tl, .int .i64 eo] ∧ Blk W0 CB 3 #[.int .i64 (c : Nat)]) := ⟨k1, k2, k3⟩
  have HNB : Hid (GB = w.heap.size ∧ CB = w.heap.size + 1) := ⟨hGB, hCB⟩
  have HCEL : Hid (∀ W, Fr [] W0 W → W.cell? ⟨GB, 0, none⟩ = some (.pointer p) ∧ W.cell? ⟨GB, 1, none⟩ = some (.bool tl) ∧ W.cell? ⟨GB, 2, none⟩ = some (.int .i64 eo)) := by
    show ∀ _, _
    intro W hf
    have h := k2.fr hf (by simp)
    exact ⟨h.cell 0, h.cell 1, h.cell 2⟩
  clear hW0 k1 k2 k3 hCB hGB HW
  refine wp_region_inv (by kernel_rfl) (fun f a W => ∃ u6 u7 u10 u11 u12 u13 u14 u15, a = { tmps := #[.agg #[.pointer p, .bool tl, .int .i64 eo], .int .i64 (c : Nat), .pointer (some ⟨GB, 0, none⟩), .pointer (some ⟨CB, 0, none⟩), .slice none 0 0, .slice none 0 0, u6, u7, undef, undef, u10, u11, u12, u13, u14, u15, undef, undef, undef, undef, undef, undef, undef, undef, undef, undef, undef, undef, undef, undef, undef, undef, undef, undef, undef, undef, undef], defers := [] } ∧ Hid (R1c W0 n (.agg #[.pointer p, .bool tl, .int .i64 eo]) f u6 u7 u10 u11 u12 u13 u14 u15 W)) (by kernel_rfl) ?_ ?_ ?_
  · refine ⟨_, _, _, _, _, _, _, _, rfl, ?_⟩
    exact (⟨(Fr.refl _ _).drew, fun h => (by cases h), fun h => (by cases h), fun h => (by cases h), fun h => (by cases h), fun h => (by cases h), fun h => (by cases h), fun h => (by cases h), fun h => (by cases h), fun h => (by cases h), fun h => (by cases h)⟩ : R1c W0 n (.agg #[.pointer p, .bool tl, .int .i64 eo]) (fun _ => false) _ _ _ _ _ _ _ _ _)
  · simp only [EachOp]
    refine ⟨?_, ?_, ?_, ?_, ?_, ?_, ?_, ?_, ?_, ?_, trivial⟩
    · rintro f a W hfi hdep ⟨u6, u7, u10, u11, u12, u13, u14, u15, rfl, HI⟩ K hK
      obtain ⟨g0, g1, g2⟩ := HCEL.out W HI.out.fr
      go_simp
      exact hK _ _ ⟨_, _, _, _, _, _, _, _, rfl, HI.out.p0⟩
    · rintro f a W hfi hdep ⟨u6, u7, u10, u11, u12, u13, u14, u15, rfl, HI⟩ K hK
      have d0 : f 0 = true := hdep { on := 0, ground := .data } (by simp) rfl
      have hu := HI.out.s0 d0
      subst hu
      refine step_call _ (by rfl) 13 #[.agg #[.pointer p, .bool tl, .int .i64 eo]] (by go_simp) _ (HLN.out _ (HB0.out.1.trans HI.out.fr)) (by rintro e w' ⟨he, _⟩; exact ⟨_, he⟩) ?_
      rintro v4 w4 ⟨hv4, hf4⟩
      injection hv4 with hv4
      subst hv4
      try go_simp
      exact hK _ _ ⟨_, _, _, _, _, _, _, _, rfl, HI.out.p1 hf4⟩
    · rintro f a W hfi hdep ⟨u6, u7, u10, u11, u12, u13, u14, u15, rfl, HI⟩ K hK
      have d1 : f 1 = true := hdep { on := 1, ground := .data } (by simp) rfl
      have hu := HI.out.s1 d1
      subst hu
      have hmk := HMK.out W
      go_simp
      exact hK _ _ ⟨_, _, _, _, _, _, _, _, rfl, HI.out.p2 hfi⟩
    · rintro f a W hfi hdep ⟨u6, u7, u10, u11, u12, u13, u14, u15, rfl, HI⟩ K hK
      obtain ⟨g0, g1, g2⟩ := HCEL.out W HI.out.fr
      go_simp
      exact hK _ _ ⟨_, _, _, _, _, _, _, _, rfl, HI.out.p3⟩
    · rintro f a W hfi hdep ⟨u6, u7, u10, u11, u12, u13, u14, u15, rfl, HI⟩ K hK
      have d3 : f 3 = true := hdep { on := 3, ground := .data } (by simp) rfl
      have hu := HI.out.s3 d3
      subst hu
      refine step_call _ (by rfl) 13 #[.agg #[.pointer p, .bool tl, .int .i64 eo]] (by go_simp) _ (HLN.out _ (HB0.out.1.trans HI.out.fr)) (by rintro e w' ⟨he, _⟩; exact ⟨_, he⟩) ?_
      rintro v4 w4 ⟨hv4, hf4⟩
      injection hv4 with hv4
      subst hv4
      try go_simp
      exact hK _ _ ⟨_, _, _, _, _, _, _, _, rfl, HI.out.p4 hf4⟩
    · rintro f a W hfi hdep ⟨u6, u7, u10, u11, u12, u13, u14, u15, rfl, HI⟩ K hK
      have d4 : f 4 = true := hdep { on := 4, ground := .data } (by simp) rfl
      have hu := HI.out.s4 d4
      subst hu
      have hmk := HMB.out W
      go_simp
      exact hK _ _ ⟨_, _, _, _, _, _, _, _, rfl, HI.out.p5 hfi⟩
    · rintro f a W hfi hdep ⟨u6, u7, u10, u11, u12, u13, u14, u15, rfl, HI⟩ K hK
      go_simp
      exact hK _ _ ⟨_, _, _, _, _, _, _, _, rfl, HI.out.p6 hfi⟩
    · rintro f a W hfi hdep ⟨u6, u7, u10, u11, u12, u13, u14, u15, rfl, HI⟩ K hK
      go_simp
      exact hK _ _ ⟨_, _, _, _, _, _, _, _, rfl, HI.out.p7 hfi⟩
    · rintro f a W hfi hdep ⟨u6, u7, u10, u11, u12, u13, u14, u15, rfl, HI⟩ K hK
      have d2 : f 2 = true := hdep { on := 2, ground := .data } (by simp) rfl
      have d6 : f 6 = true := hdep { on := 6, ground := .data } (by simp) rfl
      obtain ⟨A, a1, a2, a3⟩ := HI.out.s2 d2
      obtain ⟨L, v, l1, l2, l3, l4⟩ := HI.out.s6 d6
      subst a1 l1
      have c0 : W.cell? ⟨L, 0, none⟩ = some v := l2.cell 0
      have z0 := l2.frozen 0
      have ll := l2.lt
      go_simp
      exact hK _ _ ⟨_, _, _, _, _, _, _, _, rfl, HI.out.p8 d2 d6 rfl l2 l3⟩
    · rintro f a W hfi hdep ⟨u6, u7, u10, u11, u12, u13, u14, u15, rfl, HI⟩ K hK
      have d5 : f 5 = true := hdep { on := 5, ground := .data } (by simp) rfl
      have d7 : f 7 = true := hdep { on := 7, ground := .data } (by simp) rfl
      obtain ⟨A, a1, a2, a3⟩ := HI.out.s5 d5
      obtain ⟨L, v, l1, l2, l3, l4⟩ := HI.out.s7 d7
      subst a1 l1
      have c0 : W.cell? ⟨L, 0, none⟩ = some v := l2.cell 0
      have z0 := l2.frozen 0
      have ll := l2.lt
      go_simp
      exact hK _ _ ⟨_, _, _, _, _, _, _, _, rfl, HI.out.p9 d5 d7 rfl l2 l3⟩
  · rintro f a W hall ⟨u6, u7, u10, u11, u12, u13, u14, u15, rfl, HI⟩
    obtain ⟨LB, HB, A, B, rfl, rfl, rfl, rfl, rfl, rfl, rfl, rfl, hcl, hfw, x1, x2, x3, x4⟩ := HI.out.done hall
    dsimp only
    have HB1 : Hid (Fr [] w W ∧ Blk W GB TGr #[.pointer p, .bool tl, .int .i64 eo] ∧ Blk W CB 3 #[.int .i64 (c : Nat)]) := ⟨HB0.out.1.trans hfw, HB0.out.2.1.fr hfw (by simp), HB0.out.2.2.fr hfw (by simp)⟩
    have HCL := Lib.hid hcl
    have hs0 := HB0.out.1.size
    have HLT : Hid (w.heap.size ≤ A ∧ w.heap.size ≤ B ∧ LB ≠ GB ∧ HB ≠ GB ∧ GB ≠ A ∧ GB ≠ B ∧ CB ≠ A ∧ CB ≠ B) := by
      have h1 := HB0.out.2.1.lt
      have h2 := HB0.out.2.2.lt
      exact ⟨by omega, by omega, by omega, by omega, by omega, by omega, by omega, by omega⟩
    obtain ⟨g0, g1, g2⟩ := HCEL.out W hfw
    clear HI hall hfw hcl x1 x2 x3 x4 hs0 HMK HMB
    obtain ⟨W1, rfl⟩ : ∃ x : World, x = W := ⟨_, rfl⟩
    go_wp2_with fail
    go_region_held3 (fun w' => w'.cell? ⟨GB, 0, none⟩ = some (.pointer p) ∧ w'.cell? ⟨GB, 1, none⟩ = some (.bool tl) ∧ w'.cell? ⟨GB, 2, none⟩ = some (.int .i64 eo)) (go_keep) ((first
      | (go_at_call 13; go_must (
           refine (HLN.out _ (HB1.out.1.drew)).mono ?_
           rintro e w4 ⟨rfl, hf4⟩
           have HF4 : Hid (Fr [] W1 w4) := (Fr.refl [] W1).drew.trans hf4
           have kk := HB1.out.2.1.fr HF4.out (by simp)
           have g0' : w4.cell? ⟨GB, 0, none⟩ = some (.pointer p) := kk.cell 0
           have g1' : w4.cell? ⟨GB, 1, none⟩ = some (.bool tl) := kk.cell 1
           have g2' : w4.cell? ⟨GB, 2, none⟩ = some (.int .i64 eo) := kk.cell 2
           clear hf4 kk))
      | (go_at_call 38; go_must (
           refine (HRG.out _ (HB1.out.1.trans HF4.out)).mono ?_
           rintro e w5 ⟨bi, bj, bt, rfl, hbi, hbj, hbt, hf5, hx1, hx2, hx3⟩
           have HF5 : Hid (Fr [] W1 w5) := HF4.out.trans hf5
           have kk := HB1.out.2.1.fr HF5.out (by simp)
           have g0'' : w5.cell? ⟨GB, 0, none⟩ = some (.pointer p) := kk.cell 0
           have g1'' : w5.cell? ⟨GB, 1, none⟩ = some (.bool tl) := kk.cell 1
           have g2'' : w5.cell? ⟨GB, 2, none⟩ = some (.int .i64 eo) := kk.cell 2
           have HBB : Hid (w5.cell? ⟨bi, 0, none⟩ = some (.int .i64 (0 : Nat)) ∧ w5.cell? ⟨bj, 0, none⟩ = some (.int .i64 (n : Nat)) ∧ w5.cell? ⟨bt, 0, none⟩ = some (.pointer p)) := ⟨hbi, hbj, hbt⟩
           have HBX : Hid (W1.heap.size ≤ bi ∧ W1.heap.size ≤ bj ∧ W1.heap.size ≤ bt) := by have := HF4.out.size; exact ⟨by omega, by omega, by omega⟩
           clear hbi hbj hbt hf5 kk hx1 hx2 hx3))))
    go_wp2_with fail
    have HTR : Hid (TreeAt TN [some A, some B] w5 p (rs.map Prod.fst)) := by
      have := HIN.out
      refine this.grow (E' := [some A, some B]) (HB1.out.1.trans HF5.out) fun k hk => ?_
      have h1 := HLT.out
      rcases List.mem_cons.1 hk with hk | hk
      · injection hk with hk; exact .inr (by omega)
      · rw [List.mem_singleton] at hk; injection hk with hk; exact .inr (by omega)
    have HRS : Hid (RowsAt (some A :: some B :: E) w5 N rs) := by
      show RowsAt _ _ _ _
      have h1 := HLT.out
      refine HR.out.grow (HB1.out.1.trans HF5.out).of_nil fun k hk => ?_
      rcases List.mem_cons.1 hk with hk | hk
      · injection hk with hk; exact .inr (by omega)
      · rcases List.mem_cons.1 hk with hk | hk
        · injection hk with hk; exact .inr (by omega)
        · exact .inl hk
    have HCL5 : Hid (CL w5 w5 LB HB A B n [] [] 0) := (HCL.out.fr0 HF5.out).base
    have HBC : Hid (Blk w5 CB 3 #[.int .i64 (c : Nat)] ∧ CB ≠ A ∧ CB ≠ B) := ⟨HB1.out.2.2.fr HF5.out (by simp), HLT.out.2.2.2.2.2.2.1, HLT.out.2.2.2.2.2.2.2⟩
    rw [← wpIn_wide (n := 3)]
    refine range_law (E := [some A, some B]) (F := Fence.wide) rfl (by omega) (gf := 74) rfl trivial (enters_of Try.func74 (by kernel_rfl) rfl)
      (range_stops (3 - 1) bi bj bt 0 n w5 p (rs.map Prod.fst) (Nat.zero_le _) (by rw [List.length_map, ← HN.out.1]; exact Nat.le_refl _) (by have := HN.out; rw [List.length_map]; omega) HTR.out HBB.out.1 HBB.out.2.1 HBB.out.2.2 ?hne) (Fr.refl _ _) (fun _ => rfl)
      (fun pre W => Hid (CL w5 W LB HB A B n ((colR rs c).take pre.length) ((hasR rs c).take pre.length) pre.length)) (fun _ _ _ => False) ?hI (fun _ _ _ _ h _ => h) ?h0
      (fun x a₁ W => ∃ b, a₁ = { tmps := #[.agg #[.pointer p, .bool tl, .int .i64 eo], .int .i64 (c : Nat), .pointer (some ⟨GB, 0, none⟩), .pointer (some ⟨CB, 0, none⟩), .slice none 0 0, .slice none 0 0, .pointer (some ⟨LB, 0, none⟩), .pointer (some ⟨HB, 0, none⟩), .int .i64 (x.1 : Nat), .pointer (some ⟨b, 0, none⟩), .agg #[.pointer p, .bool tl, .int .i64 eo], .int .i64 (n : Nat), .slice (some ⟨A, 0, none⟩) n n, .agg #[.pointer p, .bool tl, .int .i64 eo], .int .i64 (n : Nat), .slice (some ⟨B, 0, none⟩) n n, .pointer (some ⟨GB, 0, none⟩), .agg #[.pointer p], .agg #[.pointer p, .bool tl, .int .i64 eo], .int .i64 (n : Nat), .func (.func 74) #[] #[.pointer (some ⟨bi, 0, none⟩), .pointer (some ⟨bj, 0, none⟩), .pointer (some ⟨bt, 0, none⟩)], .int .i64 (x.1 : Nat), x.2.val, undef, undef, undef, undef, undef, undef, undef, undef, undef, undef, undef, undef, undef, undef], defers := [] } ∧ Blk W b TRow #[.slice x.2.A x.2.n x.2.c, .int .i64 x.2.e, .bool x.2.h]) ?hAx ?assign ?body ?done ?stop
    case hne =>
      have key : ∀ (x : Nat) (u : Value), W1.heap.size ≤ x → some x ∉ [some A, some B] := fun x u hx e => by
        have h1 := HCL.out.lt
        rcases List.mem_cons.1 e with e | e
        · injection e with e; omega
        · rw [List.mem_singleton] at e; injection e with e; omega
      exact ⟨key bi (.bool true) HBX.out.1, key bj (.bool true) HBX.out.2.1, key bt (.bool true) HBX.out.2.2⟩
    case hI =>
      rintro pre W W' h hc
      exact h.out.ch hc
    case h0 => exact HCL5.out
    case hAx =>
      rintro x a₁ W l o o' hl ho ⟨b, rfl, hb⟩
      refine ⟨b, rfl, ?_⟩
      unfold Blk at hb ⊢
      rw [World.putObj_heap_other]
      · exact hb
      · intro e; subst e; rw [hb] at hl; injection hl with hl; subst hl; cases ho
    case assign =>
      intro l x W K hK
      obtain ⟨xq, ⟨rA, rn, rc, re, rh⟩⟩ := x
      simp only [encR, RV.val]
      gi_wp2
      refine hK _ _ ((Fr.refl [] W).alloc _) ⟨W.heap.size, rfl, Blk.new W TRow _⟩
    case body =>
      rintro l pre x a₁ W HCL' hpx ⟨b, rfl, hb⟩
      obtain ⟨xq, ⟨rA, rn, rc, re, rh⟩⟩ := x
      simp only [RV.val] at hb ⊢
      obtain ⟨hq, hqn, hqr⟩ := allR_at _ _ _ _ _ hpx
      subst hq
      obtain ⟨q, hq⟩ : ∃ q, q = pre.length := ⟨_, rfl⟩
      rw [← hq] at hqn hqr HCL' ⊢
      have hql : q < rs.length := by rw [← HN.out.1]; exact hqn
      obtain ⟨⟨rv, rcs⟩, hrw⟩ : ∃ r, r = rs[q] := ⟨_, rfl⟩
      have hrv : rv = ⟨rA, rn, rc, re, rh⟩ := by
        rw [hqr, List.getD_eq_getElem?_getD, List.getElem?_map, List.getElem?_eq_getElem hql, ← hrw]
        rfl
      subst hrv
      have hrm : (⟨rA, rn, rc, re, rh⟩, rcs) ∈ rs := by rw [hrw]; exact List.getElem_mem hql
      obtain ⟨r1, r2, r3⟩ := HRS.out _ hrm
      simp only at r1 r2 r3
      have hrn := HC.out _ hrm
      simp only at hrn
      have HCQ : Hid (CL w5 W LB HB A B n ((colR rs c).take q) ((hasR rs c).take q) q) := HCL'
      have hfq : Fr (some A :: some B :: E) w5 W := HCQ.out.fr.weaken fun i _ e => by
        rcases List.mem_cons.1 e with e | e
        · rw [e]; exact List.mem_cons_self ..
        · rw [List.mem_singleton] at e; rw [e]; exact List.mem_cons_of_mem _ (List.mem_cons_self ..)
      have HRW := Lib.hid (r3.fr hfq)
      obtain ⟨x, hx⟩ : ∃ x, x = (atC rcs (c : Nat)).getD CV.zero := ⟨_, rfl⟩
      obtain ⟨xb, hxb⟩ : ∃ xb, xb = (atC rcs (c : Nat)).isSome := ⟨_, rfl⟩
      have HNX : Hid ((colR rs c).take (q + 1) = (colR rs c).take q ++ [x] ∧ (hasR rs c).take (q + 1) = (hasR rs c).take q ++ [.bool xb]) := by
        refine ⟨?_, ?_⟩
        · rw [List.take_succ_eq_append_getElem (by rw [colR_len]; exact hql)]
          congr 2
          unfold colR
          rw [List.getElem_map, ← hrw, hx]
        · rw [List.take_succ_eq_append_getElem (by rw [hasR_len]; exact hql)]
          congr 2
          unfold hasR
          rw [List.getElem_map, ← hrw, hxb]
      have HRC0 : Hid (∀ w', Fr [some A, some B] W w' → Calls Try.prog 85 #[.agg #[.slice rA rn rc, .int .i64 re, .bool rh], .int .i64 (c : Nat)] w' fun en w'' => en = .returned (.tuple #[x.val, .bool xb]) ∧ Fr [] w' w'') := by
        show ∀ _, _
        intro w' hf
        have hra := (HRW.out.fr (hf.weaken fun i _ e => by
          rcases List.mem_cons.1 e with e | e
          · rw [e]; exact List.mem_cons_self ..
          · rw [List.mem_singleton] at e; rw [e]; exact List.mem_cons_of_mem _ (List.mem_cons_self ..))).now
        refine (rowat_any w' rA rn rc re (c : Nat) rh rcs hra.1 r1 hrn).mono ?_
        rintro en w'' ⟨xB, xm, xd, xq, xa, xk, xkp, xsp, he, hg, hf2⟩
        rw [← hx] at hg
        rw [hxb, hg]
        exact ⟨he, hf2⟩
      obtain ⟨xB, xm, xd, xsp, xq, xa, xk, xkp⟩ := x
      have HRC : Hid (∀ w', Fr [some A, some B] W w' → Calls Try.prog 85 #[.agg #[.slice rA rn rc, .int .i64 re, .bool rh], .int .i64 (c : Nat)] w' fun en w'' => en = .returned (.tuple #[.agg #[.slice xB xm xd, .int .i64 (xq : Nat), .int .i64 (xa : Nat), .int .i64 (xk : Nat), .bool xkp], .bool xb]) ∧ Fr [] w' w'') := HRC0.out
      obtain ⟨adA, hadA⟩ : ∃ ad : Addr, ad = ⟨A, 0, none⟩ := ⟨_, rfl⟩
      obtain ⟨adB, hadB⟩ : ∃ ad : Addr, ad = ⟨B, 0, none⟩ := ⟨_, rfl⟩
      have HAD : Hid (adA = ⟨A, 0, none⟩ ∧ adB = ⟨B, 0, none⟩) := ⟨hadA, hadB⟩
      have hbA : b ≠ A := blk_ne hb HCQ.out.ab (by decide)
      have hbB : b ≠ B := blk_ne hb HCQ.out.bb (by decide)
      have HLD : Hid (∀ w', Fr [some A, some B] W w' → w'.cell? ⟨LB, 0, none⟩ = some (.slice (some adA) n n) ∧ w'.cell? ⟨HB, 0, none⟩ = some (.slice (some adB) n n) ∧ w'.cell? ⟨b, 0, none⟩ = some (.slice rA rn rc) ∧ w'.cell? ⟨b, 1, none⟩ = some (.int .i64 re) ∧ w'.cell? ⟨b, 2, none⟩ = some (.bool rh) ∧ w'.cell? ⟨CB, 0, none⟩ = some (.int .i64 (c : Nat))) := by
        show ∀ _, _
        intro w' hf
        have key : ∀ k, k ≠ A → k ≠ B → some k ∉ [some A, some B] := fun k h1 h2 e => by
          rcases List.mem_cons.1 e with e | e
          · injection e with e; exact h1 e
          · rw [List.mem_singleton] at e; injection e with e; exact h2 e
        obtain ⟨n1, n2, n3, n4, n5⟩ := HCQ.out.ne
        rw [hadA, hadB]
        have q1 := HCQ.out.lb.fr hf (key _ n2 n3)
        have q2 := HCQ.out.hb.fr hf (key _ n4 n5)
        have q3 := hb.fr hf (key _ hbA hbB)
        have q4 := (HBC.out.1.fr HCQ.out.fr (key _ HBC.out.2.1 HBC.out.2.2)).fr hf (key _ HBC.out.2.1 HBC.out.2.2)
        exact ⟨q1.cell 0, q2.cell 0, q3.cell 0, q3.cell 1, q3.cell 2, q4.cell 0⟩
      have hq0 : (0 : Int) ≤ (q : Int) := by omega
      have hq1 : (q : Int) < (n : Int) := by omega
      have HQP : Hid (q = pre.length) := hq
      clear hq hqr hql hrw hrm r1 r2 r3 hrn hfq hx hxb HRC0 hadA hadB hbA hbB hb HCL' hpx HRW
      gi_wp2
      refine wpIn_region_inv (by kernel_rfl) (fun f a w' => ∃ u23 u24 u25 u26 u27 u28 u29 u30 u31 u32 u33 u34, a = { tmps := #[.agg #[.pointer p, .bool tl, .int .i64 eo], .int .i64 (c : Nat), .pointer (some ⟨GB, 0, none⟩), .pointer (some ⟨CB, 0, none⟩), .slice none 0 0, .slice none 0 0, .pointer (some ⟨LB, 0, none⟩), .pointer (some ⟨HB, 0, none⟩), .int .i64 (q : Nat), .pointer (some ⟨b, 0, none⟩), .agg #[.pointer p, .bool tl, .int .i64 eo], .int .i64 (n : Nat), .slice (some ⟨A, 0, none⟩) n n, .agg #[.pointer p, .bool tl, .int .i64 eo], .int .i64 (n : Nat), .slice (some ⟨B, 0, none⟩) n n, .pointer (some ⟨GB, 0, none⟩), .agg #[.pointer p], .agg #[.pointer p, .bool tl, .int .i64 eo], .int .i64 (n : Nat), .func (.func 74) #[] #[.pointer (some ⟨bi, 0, none⟩), .pointer (some ⟨bj, 0, none⟩), .pointer (some ⟨bt, 0, none⟩)], .int .i64 (q : Nat), .agg #[.slice rA rn rc, .int .i64 re, .bool rh], u23, u24, u25, u26, u27, u28, u29, u30, u31, u32, u33, u34, undef, undef], defers := [] } ∧ Hid (R5c W A B adA adB n q c (.agg #[.slice rA rn rc, .int .i64 re, .bool rh]) (.agg #[.slice xB xm xd, .int .i64 (xq : Nat), .int .i64 (xa : Nat), .int .i64 (xk : Nat), .bool xkp]) xb (cvc ((colR rs c).take q ++ List.replicate (n - q) CV.zero)) (cvc ((colR rs c).take q ++ [⟨xB, xm, xd, xsp, xq, xa, xk, xkp⟩] ++ List.replicate (n - (q + 1)) CV.zero)) ((hasR rs c).take q ++ List.replicate (n - q) (.bool false)) (((hasR rs c).take q ++ [.bool xb]) ++ List.replicate (n - (q + 1)) (.bool false)) f u23 u24 u25 u26 u27 u28 u29 u30 u31 u32 u33 u34 w')) (by kernel_rfl) ?_ ?_ ?_
      · refine ⟨_, _, _, _, _, _, _, _, _, _, _, _, rfl, ?_⟩
        exact (⟨(Fr.refl _ _).drew, fun _ => HCQ.out.ab, fun h => (by cases h), fun _ => HCQ.out.bb, fun h => (by cases h), fun h => (by cases h), fun h => (by cases h), fun h => (by cases h), fun h => (by cases h), fun h => (by cases h), fun h => (by cases h), fun h => (by cases h), fun h => (by cases h), fun h => (by cases h), fun h => (by cases h), fun h => (by cases h), fun h => (by cases h)⟩ : R5c W A B adA adB n q c _ _ xb _ _ _ _ (fun _ => false) _ _ _ _ _ _ _ _ _ _ _ _ _)
      · simp only [EachOp]
        refine ⟨?_, ?_, ?_, ?_, ?_, ?_, ?_, ?_, ?_, ?_, ?_, ?_, ?_, ?_, trivial⟩
        · rintro f a w' hfi hdep ⟨u23, u24, u25, u26, u27, u28, u29, u30, u31, u32, u33, u34, rfl, HI⟩ K hK
          obtain ⟨l0, h0, b0, b1, b2, k0⟩ := HLD.out w' HI.out.fr
          go_simp
          exact hK _ _ ⟨_, _, _, _, _, _, _, _, _, _, _, _, rfl, HI.out.p0⟩
        · rintro f a w' hfi hdep ⟨u23, u24, u25, u26, u27, u28, u29, u30, u31, u32, u33, u34, rfl, HI⟩ K hK
          go_simp
          exact hK _ _ ⟨_, _, _, _, _, _, _, _, _, _, _, _, rfl, HI.out.p1⟩
        · rintro f a w' hfi hdep ⟨u23, u24, u25, u26, u27, u28, u29, u30, u31, u32, u33, u34, rfl, HI⟩ K hK
          obtain ⟨l0, h0, b0, b1, b2, k0⟩ := HLD.out w' HI.out.fr
          go_simp
          exact hK _ _ ⟨_, _, _, _, _, _, _, _, _, _, _, _, rfl, HI.out.p2⟩
        · rintro f a w' hfi hdep ⟨u23, u24, u25, u26, u27, u28, u29, u30, u31, u32, u33, u34, rfl, HI⟩ K hK
          go_simp
          exact hK _ _ ⟨_, _, _, _, _, _, _, _, _, _, _, _, rfl, HI.out.p3⟩
        · rintro f a w' hfi hdep ⟨u23, u24, u25, u26, u27, u28, u29, u30, u31, u32, u33, u34, rfl, HI⟩ K hK
          obtain ⟨l0, h0, b0, b1, b2, k0⟩ := HLD.out w' HI.out.fr
          go_simp
          exact hK _ _ ⟨_, _, _, _, _, _, _, _, _, _, _, _, rfl, HI.out.p4⟩
        · rintro f a w' hfi hdep ⟨u23, u24, u25, u26, u27, u28, u29, u30, u31, u32, u33, u34, rfl, HI⟩ K hK
          obtain ⟨l0, h0, b0, b1, b2, k0⟩ := HLD.out w' HI.out.fr
          go_simp
          exact hK _ _ ⟨_, _, _, _, _, _, _, _, _, _, _, _, rfl, HI.out.p5⟩
        · rintro f a w' hfi hdep ⟨u23, u24, u25, u26, u27, u28, u29, u30, u31, u32, u33, u34, rfl, HI⟩ K hK
          have d4 : f 4 = true := hdep { on := 4, ground := .data } (by simp) rfl
          have e4 := HI.out.s4 d4
          subst e4
          have d5 : f 5 = true := hdep { on := 5, ground := .data } (by simp) rfl
          have e5 := HI.out.s5 d5
          subst e5
          rw [if_pos (by simp [Region.wanted])]
          refine wpIn_call (by intro c h; cases h) (f := 85) (vs := #[.agg #[.slice rA rn rc, .int .i64 re, .bool rh], .int .i64 (c : Nat)]) (by go_simp) (HRC.out _ HI.out.fr) (by rintro e w' ⟨he, _⟩; exact ⟨_, he⟩) ?_
          rintro v4 w4 ⟨hv4, hf4⟩
          injection hv4 with hv4
          subst hv4
          try go_simp
          exact hK _ _ ⟨_, _, _, _, _, _, _, _, _, _, _, _, rfl, HI.out.p6 hf4⟩
        · rintro f a w' hfi hdep ⟨u23, u24, u25, u26, u27, u28, u29, u30, u31, u32, u33, u34, rfl, HI⟩ K hK
          have d6 : f 6 = true := hdep { on := 6, ground := .data } (by simp) rfl
          have e6 := HI.out.s6 d6
          subst e6
          go_simp
          exact hK _ _ ⟨_, _, _, _, _, _, _, _, _, _, _, _, rfl, HI.out.p7⟩
        · rintro f a w' hfi hdep ⟨u23, u24, u25, u26, u27, u28, u29, u30, u31, u32, u33, u34, rfl, HI⟩ K hK
          have d7 : f 7 = true := hdep { on := 7, ground := .data } (by simp) rfl
          have e7 := HI.out.s7 d7
          subst e7
          go_simp
          exact hK _ _ ⟨_, _, _, _, _, _, _, _, _, _, _, _, rfl, HI.out.p8⟩
        · rintro f a w' hfi hdep ⟨u23, u24, u25, u26, u27, u28, u29, u30, u31, u32, u33, u34, rfl, HI⟩ K hK
          have d7 : f 7 = true := hdep { on := 7, ground := .data } (by simp) rfl
          have e7 := HI.out.s7 d7
          subst e7
          go_simp
          exact hK _ _ ⟨_, _, _, _, _, _, _, _, _, _, _, _, rfl, HI.out.p9⟩
        · rintro f a w' hfi hdep ⟨u23, u24, u25, u26, u27, u28, u29, u30, u31, u32, u33, u34, rfl, HI⟩ K hK
          have d0 : f 0 = true := hdep { on := 0, ground := .data } (by simp) rfl
          have e0 := HI.out.s0 d0
          subst e0
          have d1 : f 1 = true := hdep { on := 1, ground := .data } (by simp) rfl
          have e1 := HI.out.s1 d1
          subst e1
          go_simp
          exact hK _ _ ⟨_, _, _, _, _, _, _, _, _, _, _, _, rfl, HI.out.p10⟩
        · rintro f a w' hfi hdep ⟨u23, u24, u25, u26, u27, u28, u29, u30, u31, u32, u33, u34, rfl, HI⟩ K hK
          have d10 : f 10 = true := hdep { on := 10, ground := .data } (by simp) rfl
          have e10 := HI.out.s10 d10
          subst e10
          have d8 : f 8 = true := hdep { on := 8, ground := .data } (by simp) rfl
          have e8 := HI.out.s8 d8
          subst e8
          obtain ⟨o0, o1, o2, o3, o4, s0, s1, s2, s3, s4, z0, z1, z2, z3, z4, hbk, hfr⟩ := store5 HAD.out.1 (HI.out.a0 hfi) (cells_fit ((colR rs c).take q) q n HCQ.out.cl hqn) (.slice xB xm xd) (.int .i64 (xq : Nat)) (.int .i64 (xa : Nat)) (.int .i64 (xk : Nat)) (.bool xkp)
          have hcx := cells_nextx ((colR rs c).take q) ⟨xB, xm, xd, xsp, xq, xa, xk, xkp⟩ q n HCQ.out.cl hqn
          simp only [CV.cells] at hcx
          rw [hcx] at hbk
          go_simp
          exact hK _ _ ⟨_, _, _, _, _, _, _, _, _, _, _, _, rfl, HI.out.p11 hbk hfr HCQ.out.ne.1⟩
        · rintro f a w' hfi hdep ⟨u23, u24, u25, u26, u27, u28, u29, u30, u31, u32, u33, u34, rfl, HI⟩ K hK
          have d2 : f 2 = true := hdep { on := 2, ground := .data } (by simp) rfl
          have e2 := HI.out.s2 d2
          subst e2
          have d3 : f 3 = true := hdep { on := 3, ground := .data } (by simp) rfl
          have e3 := HI.out.s3 d3
          subst e3
          go_simp
          exact hK _ _ ⟨_, _, _, _, _, _, _, _, _, _, _, _, rfl, HI.out.p12⟩
        · rintro f a w' hfi hdep ⟨u23, u24, u25, u26, u27, u28, u29, u30, u31, u32, u33, u34, rfl, HI⟩ K hK
          have d12 : f 12 = true := hdep { on := 12, ground := .data } (by simp) rfl
          have e12 := HI.out.s12 d12
          subst e12
          have d9 : f 9 = true := hdep { on := 9, ground := .data } (by simp) rfl
          have e9 := HI.out.s9 d9
          subst e9
          obtain ⟨⟨o0, s0⟩, z0, zl, hbk, hfr⟩ := store1 HAD.out.2 (HI.out.b0 hfi) (bools_fit (bs := (hasR rs c).take q) HCQ.out.bl hqn) (.bool xb)
          rw [bools_next HCQ.out.bl hqn] at hbk
          go_simp
          exact hK _ _ ⟨_, _, _, _, _, _, _, _, _, _, _, _, rfl, HI.out.p13 hbk hfr HCQ.out.ne.1⟩
      · rintro f a w' hall ⟨u23, u24, u25, u26, u27, u28, u29, u30, u31, u32, u33, u34, rfl, HI⟩
        have HI1 : Hid (Fr [some A, some B] W w' ∧ CL w5 w' LB HB A B n ((colR rs c).take q ++ [⟨xB, xm, xd, xsp, xq, xa, xk, xkp⟩]) ((hasR rs c).take q ++ [.bool xb]) (q + 1)) := ⟨HI.out.fr, HCQ.out.next hqn HI.out.fr (HI.out.a1 (hall 11 (by decide))) (HI.out.b1 (hall 13 (by decide)))⟩
        clear HI hall
        gi_wp2
        refine ⟨HCQ.out.keeps HI1.out.1 rfl (List.mem_cons_self ..) (List.mem_cons_of_mem _ (List.mem_singleton.2 rfl)), ?_⟩
        show Hid (CL w5 _ LB HB A B n _ _ (pre ++ [_]).length)
        rw [List.length_append, List.length_singleton, ← HQP.out, HNX.out.1, HNX.out.2]
        exact HI1.out.2
    case done =>
      rintro D W hD HCLD hK
      have hl0 : (allR (rs.map Prod.fst) 0 n).length = n := allR_len _ _ _
      rw [hl0, List.take_of_length_le (by rw [colR_len]; have := HN.out; omega), List.take_of_length_le (by rw [hasR_len]; have := HN.out; omega)] at HCLD
      have o0 : W.cell? ⟨LB, 0, none⟩ = some (.slice (some ⟨A, 0, none⟩) n n) := HCLD.out.lb.cell 0
      have o1 : W.cell? ⟨HB, 0, none⟩ = some (.slice (some ⟨B, 0, none⟩) n n) := HCLD.out.hb.cell 0
      have HKD := Lib.hid hK
      have HDD := Lib.hid hD
      clear hK hD
      go_wp2_with fail
      go_quiet (fail)
      go_wp2_with fail
      refine ⟨by simp, .inl ⟨_, _, rfl, run_takeDeferred HKD.out, ?_⟩⟩
      have hc := (HCLD.out.fr0 ((Fr.refl [] W).drewN nq)).ch (ChI.put (o' := .deferred none) HKD.out rfl HDD.out)
      refine ⟨.tuple #[.slice (some ⟨A, 0, none⟩) n n, .slice (some ⟨B, 0, none⟩) n n], by simp [results, Try.results44, go_sem], ?_⟩
      have h1 := HLT.out
      have hab := hc.ab
      have hbb := hc.bb
      rw [Nat.sub_self, List.replicate_zero, List.append_nil] at hab hbb
      have key : ∀ k, w.heap.size ≤ k → some k ∉ E := fun k hk e => by
        have := HE.out k e
        omega
      have e1 : ∀ {W1 W2 : World}, Fr [some A, some B] W1 W2 → Fr (some A :: some B :: E) W1 W2 := fun h => h.weaken fun i _ e => by
        rcases List.mem_cons.1 e with e | e
        · rw [e]; exact List.mem_cons_self ..
        · rw [List.mem_singleton] at e; rw [e]; exact List.mem_cons_of_mem _ (List.mem_cons_self ..)
      refine ⟨A, B, rfl, fun w'' hf => ⟨?_, fun x hx => ?_⟩, fun w'' hf => ?_, (HB1.out.1.trans HF5.out).seq hc.fr fun x hx => ?_⟩
      · have := blk_sl (hab.fr hf (key A h1.1)) (cvc (colR rs c)).length
        rwa [List.take_length] at this
      · unfold colR at hx
        obtain ⟨r, hr, rfl⟩ := List.mem_map.1 hx
        rw [atC_nat]
        cases hg : r.2[c]? with
        | none => exact cellAt_zero N w''
        | some y =>
          have hy := List.mem_of_getElem? hg
          exact (((HRS.out r hr).2.2.fr (e1 hc.fr)).fr (hf.weaken fun i _ e => List.mem_cons_of_mem _ (List.mem_cons_of_mem _ e))).now.2 y hy
      · have := blk_sl (hbb.fr hf (key B h1.2.1)) (hasR rs c).length
        rwa [List.take_length] at this
      · rcases List.mem_cons.1 hx with hx | hx
        · exact .inr (.inr ⟨A, h1.1, hx⟩)
        · rw [List.mem_singleton] at hx; exact .inr (.inr ⟨B, h1.2.1, hx⟩)
    case stop =>
      rintro D c pre W _ h _
      exact h.elim
end Go.Proofs.Ytblafakafgediaa
