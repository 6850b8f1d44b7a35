import Derived.Test.YtblafakafgediaaH46
namespace Go.Proofs.Ytblafakafgediaa
open Go.RowKit Go.Proofs.Dm

set_option maxRecDepth 100000 in
set_option maxHeartbeats 1600000 in
theorem over_bad (w : World) (p : Option Addr) (tl : Bool) (eo : Int) (rs : List RW) (N n : Nat) (ht : TreeAt TN [] w p (rs.map Prod.fst)) (hn : n = rs.length) (h : n = 0 ∨ 40 < n) (h6 : n ≤ 100000) :
    Calls Try.prog 18 #[.agg #[.pointer p, .bool tl, .int .i64 eo]] w (OverAns w N tl eo rs) := by
  have hxn : (rs.map Prod.fst).length = n := by rw [List.length_map, hn]
  have HLN : Hid (∀ w', Fr [] w w' → Calls Try.prog 13 #[.agg #[.pointer p, .bool tl, .int .i64 eo]] w' fun en w'' => en = .returned (.int .i64 (n : Nat)) ∧ Fr [] w' w'') := by
    show ∀ _, _
    intro w' hf
    have := glen_any [] p (rs.map Prod.fst) tl eo w' (ht.fr0 hf)
    rw [hxn] at this
    exact this
  obtain ⟨W1, hW1⟩ : ∃ W1, W1 = (w.alloc (.cells #[.pointer p, .bool tl, .int .i64 eo] TGr)).alloc (.cells #[.pointer none, .bool false, .int .i64 0] TGr) := ⟨_, rfl⟩
  have HW : Hid (Fr [] w W1 ∧ Blk W1 w.heap.size TGr #[.pointer p, .bool tl, .int .i64 eo] ∧ Blk W1 (w.heap.size + 1) TGr #[.pointer none, .bool false, .int .i64 0]) := by
    have b2 := Blk.new (w.alloc (.cells #[.pointer p, .bool tl, .int .i64 eo] TGr)) TGr #[.pointer none, .bool false, .int .i64 0]
    rw [World.size_alloc, ← hW1] at b2
    exact ⟨by rw [hW1]; exact ((Fr.refl [] w).alloc _).alloc _, by rw [hW1]; exact (Blk.new w TGr _).alloc _, b2⟩
  have HW1 := Lib.hid hW1
  have HEND : Hid (∀ (w' : World) (k : Nat) (u0 u1 u2 : Value), overErr n = k → k ≠ 0 → Fr [] W1 w' → OverAns w N tl eo rs (.returned (.tuple #[.agg #[.pointer none, .bool false, .int .i64 0], .int .i64 (k : Nat)])) (((w'.setCell ⟨w.heap.size + 1, 0, none⟩ u0).setCell ⟨w.heap.size + 1, 1, none⟩ u1).setCell ⟨w.heap.size + 1, 2, none⟩ u2)) := by
    show ∀ _, _
    intro w' k u0 u1 u2 hk h0 hf
    have hx : w.heap.size + 1 < w.heap.size → some (w.heap.size + 1) ∈ ([] : List (Option Nat)) := fun h => absurd h (by omega)
    rw [hn] at hk
    exact .inl ⟨by rw [hk]; exact h0, by rw [hk], (((HW.out.1.trans hf).setB hx _ _).setB hx _ _).setB hx _ _⟩
  have HEND2 : Hid (∀ (w' : World) (k : Nat) (u0 u1 u2 v0 v1 v2 : Value), overErr n = k → k ≠ 0 → Fr [] W1 w' → OverAns w N tl eo rs (.returned (.tuple #[.agg #[.pointer none, .bool false, .int .i64 0], .int .i64 (k : Nat)])) ((((((w'.setCell ⟨w.heap.size + 1, 0, none⟩ u0).setCell ⟨w.heap.size + 1, 1, none⟩ u1).setCell ⟨w.heap.size + 1, 2, none⟩ u2).setCell ⟨w.heap.size + 1, 0, none⟩ v0).setCell ⟨w.heap.size + 1, 1, none⟩ v1).setCell ⟨w.heap.size + 1, 2, none⟩ v2)) := by
    show ∀ _, _
    intro w' k u0 u1 u2 v0 v1 v2 hk h0 hf
    have hx : w.heap.size + 1 < w.heap.size → some (w.heap.size + 1) ∈ ([] : List (Option Nat)) := fun h => absurd h (by omega)
    rw [hn] at hk
    exact .inl ⟨by rw [hk]; exact h0, by rw [hk], ((((((HW.out.1.trans hf).setB hx _ _).setB hx _ _).setB hx _ _).setB hx _ _).setB hx _ _).setB hx _ _⟩
  have hne : ¬ w.heap.size = w.heap.size + 1 := by omega
  have HNN := Lib.hid h
  clear ht hn hW1 hxn h
  obtain ⟨g, hg⟩ : ∃ g, g = w.heap.size := ⟨_, rfl⟩
  obtain ⟨L, hL⟩ : ∃ L, L = w.heap.size + 1 := ⟨_, rfl⟩
  rw [← hL] at HW HEND HEND2 hne
  rw [← hg] at HW hne
  have HGL : Hid (g = w.heap.size ∧ L = w.heap.size + 1) := ⟨hg, hL⟩
  have HCELL : Hid (∀ w', Fr [] W1 w' → w'.cell? ⟨g, 0, none⟩ = some (.pointer p) ∧ w'.cell? ⟨g, 1, none⟩ = some (.bool tl) ∧ w'.cell? ⟨g, 2, none⟩ = some (.int .i64 eo) ∧ w'.cell? ⟨L, 0, none⟩ = some (.pointer none) ∧ w'.cell? ⟨L, 1, none⟩ = some (.bool false) ∧ w'.cell? ⟨L, 2, none⟩ = some (.int .i64 0) ∧ w'.frozen? ⟨L, 0, none⟩ = false ∧ w'.frozen? ⟨L, 1, none⟩ = false ∧ w'.frozen? ⟨L, 2, none⟩ = false ∧ L < w'.heap.size) := by
    show ∀ _, _
    intro w' hf
    have h1 := HW.out.2.1.fr hf (by simp)
    have h2 := HW.out.2.2.fr hf (by simp)
    exact ⟨h1.cell 0, h1.cell 1, h1.cell 2, h2.cell 0, h2.cell 1, h2.cell 2, h2.frozen 0, h2.frozen 1, h2.frozen 2, h2.lt⟩
  go_enter Try.func18, Try.ntmps18
  go_wp2_with fail
  rw [← HW1.out, ← hL, ← hg]
  obtain ⟨c0, c1, c2, d0, d1, d2, z0, z1, z2, ll⟩ := HCELL.out W1 (Fr.refl _ _)
  clear hg hL
  refine (HLN.out W1 HW.out.1).mono ?_
  rintro en w2 ⟨rfl, hf2⟩
  have HF2 := Lib.hid hf2
  clear c0 c1 c2 d0 d1 d2 z0 z1 z2 ll
  obtain ⟨c0, c1, c2, d0, d1, d2, z0, z1, z2, ll⟩ := HCELL.out w2 hf2
  clear hf2
  by_cases h0 : n = 0
  · have HK : Hid (overErr n = 9) := by show _ = _; unfold overErr; rw [if_pos h0]
    have h1 : (n : Int) = 0 := by omega
    have h2 : ((n : Int) == 0) = true := by rw [h1]; rfl
    clear h0
    go_wp2_with fail
    refine bodyPost_ret (v := .tuple #[.agg #[.pointer none, .bool false, .int .i64 0], .int .i64 9]) (by simp [results, Try.results18, go_sem, *]) rfl ?_
    first
      | exact HEND.out w2 9 _ _ _ HK.out (by omega) HF2.out
      | exact HEND2.out w2 9 _ _ _ _ _ _ HK.out (by omega) HF2.out
  · have h40 : 40 < n := by have := HNN.out; omega
    have HK : Hid (overErr n = 6) := by show _ = _; unfold overErr; rw [if_neg h0, if_pos h40]
    have h1 : ¬ (n : Int) = 0 := by omega
    have h2 : ((n : Int) == 0) = false := by simpa using h1
    have h3 : (40 : Int) < (n : Int) := by omega
    clear h0
    go_wp2_with fail
    refine (HLN.out w2 (HW.out.1.trans HF2.out)).mono ?_
    rintro en w3 ⟨rfl, hf3⟩
    have HF3 := Lib.hid (HF2.out.trans hf3)
    clear c0 c1 c2 d0 d1 d2 z0 z1 z2 ll hf3
    obtain ⟨c0, c1, c2, d0, d1, d2, z0, z1, z2, ll⟩ := HCELL.out w3 HF3.out
    go_wp2_with fail
    refine bodyPost_ret (v := .tuple #[.agg #[.pointer none, .bool false, .int .i64 0], .int .i64 6]) (by simp [results, Try.results18, go_sem, *]) rfl ?_
    first
      | exact HEND.out w3 6 _ _ _ HK.out (by omega) HF3.out
      | exact HEND2.out w3 6 _ _ _ _ _ _ HK.out (by omega) HF3.out
end Go.Proofs.Ytblafakafgediaa
namespace Go.Proofs.Ytblafakafgediaa
open Go.RowKit Go.Proofs.Dm

theorem wid_le (xs : List RV) (k : Nat) (h : ∀ r ∈ xs, r.n ≤ k) : widthP xs ≤ k := by
  have key : ∀ (l : List Nat) (a : Nat), a ≤ k → (∀ x ∈ l, x ≤ k) → l.foldl max a ≤ k := by
    intro l
    induction l with
    | nil => intro a ha _; exact ha
    | cons x l ih => intro a ha hl; exact ih _ (Nat.max_le.2 ⟨ha, hl x (List.mem_cons_self ..)⟩) fun y hy => hl y (List.mem_cons_of_mem _ hy)
  refine key _ 0 (Nat.zero_le _) fun x hx => ?_
  obtain ⟨r, hr, rfl⟩ := List.mem_map.1 hx
  exact h r hr
set_option maxRecDepth 100000 in
set_option maxHeartbeats 1600000 in
theorem over_go (w : World) (p : Option Addr) (tl : Bool) (eo : Int) (rs : List RW) (N n : Nat) (ht : TreeAt TN [] w p (rs.map Prod.fst)) (hr : RowsAt [] w N rs) (hn : n = rs.length) (h0 : n ≠ 0) (h40 : n ≤ 40) (hc : ∀ r ∈ rs, r.1.n ≤ 1000) :
    Calls Try.prog 18 #[.agg #[.pointer p, .bool tl, .int .i64 eo]] w (OverAns w N tl eo rs) := by
  have hxn : (rs.map Prod.fst).length = n := by rw [List.length_map, hn]
  obtain ⟨m, hm⟩ : ∃ m, m = widthP (rs.map Prod.fst) := ⟨_, rfl⟩
  have hcx : ∀ r ∈ rs.map Prod.fst, r.n ≤ 1000 := fun r hr => by
    obtain ⟨x, hx, rfl⟩ := List.mem_map.1 hr
    exact hc x hx
  have hm1 : m ≤ 1000 := by rw [hm]; exact wid_le _ _ hcx
  have HLN : Hid (∀ w', Fr [] w w' → Calls Try.prog 13 #[.agg #[.pointer p, .bool tl, .int .i64 eo]] w' fun en w'' => en = .returned (.int .i64 (n : Nat)) ∧ Fr [] w' w'') := by
    show ∀ _, _
    intro w' hf
    have := glen_any [] p (rs.map Prod.fst) tl eo w' (ht.fr0 hf)
    rw [hxn] at this
    exact this
  have HWD : Hid (∀ w', Fr [] w w' → Calls Try.prog 42 #[.agg #[.pointer p, .bool tl, .int .i64 eo]] w' fun en w'' => en = .returned (.int .i64 (m : Nat)) ∧ Fr [] w' w'') := by
    show ∀ _, _
    intro w' hf
    rw [hm]
    exact gwidth_any w' p tl eo n (rs.map Prod.fst) (ht.fr0 hf) hxn.symm (by omega) hcx
  have HEND : Hid (∀ w' (j : Nat), Fr [] w w' → Calls Try.prog 45 #[.agg #[.pointer p, .bool tl, .int .i64 eo], .int .i64 (j : Nat)] w' fun e w'' => e = .returned (.int .i64 (endRP (rs.map Prod.fst) j)) ∧ Fr [] w' w'') := by
    show ∀ _, _
    intro w' j hf
    exact ending_any p (rs.map Prod.fst) tl eo j w' (ht.fr0 hf) (by omega)
  have HCEL : Hid (∀ w' (j : Nat) (E : List (Option Nat)), Fr [] w w' → Old E w' → (∀ k, some k ∈ E → w.heap.size ≤ k) → Calls Try.prog 44 #[.agg #[.pointer p, .bool tl, .int .i64 eo], .int .i64 (j : Nat)] w' (CellsAns E w' N n j rs)) := by
    show ∀ _, _
    intro w' j E hf hE hk
    exact cells_any E w' p tl eo rs N n j hE (ht.fr0 hf) (hr.grow hf fun k hk2 => .inr (hk k hk2)) hn (by omega) fun r hr => by have := hc r hr; omega
  obtain ⟨W1, hW1⟩ : ∃ W1, W1 = (w.alloc (.cells #[.pointer p, .bool tl, .int .i64 eo] TGr)).alloc (.cells #[.pointer none, .bool false, .int .i64 0] TGr) := ⟨_, rfl⟩
  have HW : Hid (Fr [] w W1 ∧ Blk W1 w.heap.size TGr #[.pointer p, .bool tl, .int .i64 eo] ∧ Blk W1 (w.heap.size + 1) TGr #[.pointer none, .bool false, .int .i64 0]) := by
    have b2 := Blk.new (w.alloc (.cells #[.pointer p, .bool tl, .int .i64 eo] TGr)) TGr #[.pointer none, .bool false, .int .i64 0]
    rw [World.size_alloc, ← hW1] at b2
    exact ⟨by rw [hW1]; exact ((Fr.refl [] w).alloc _).alloc _, by rw [hW1]; exact (Blk.new w TGr _).alloc _, b2⟩
  have HW1 := Lib.hid hW1
  have HRR : Hid (n = rs.length ∧ overErr n = 0 ∧ m = widthP (rs.map Prod.fst)) := ⟨hn, by unfold overErr; rw [if_neg h0, if_neg (by omega)], hm⟩
  have hne : ¬ w.heap.size = w.heap.size + 1 := by omega
  have hi0 : ¬ (n : Int) = 0 := by omega
  have hi1 : ((n : Int) == 0) = false := by simpa using hi0
  have hi2 : ¬ (40 : Int) < (n : Int) := by omega
  clear ht hr hn hW1 hxn h0 h40 hc hcx hm
  obtain ⟨g, hg⟩ : ∃ g, g = w.heap.size := ⟨_, rfl⟩
  obtain ⟨L, hL⟩ : ∃ L, L = w.heap.size + 1 := ⟨_, rfl⟩
  rw [← hL] at HW hne
  rw [← hg] at HW hne
  have HGL : Hid (g = w.heap.size ∧ L = w.heap.size + 1) := ⟨hg, hL⟩
  have HCELL : Hid (∀ w', Fr [] W1 w' → w'.cell? ⟨g, 0, none⟩ = some (.pointer p) ∧ w'.cell? ⟨g, 1, none⟩ = some (.bool tl) ∧ w'.cell? ⟨g, 2, none⟩ = some (.int .i64 eo)) := by
    show ∀ _, _
    intro w' hf
    have h1 := HW.out.2.1.fr hf (by simp)
    exact ⟨h1.cell 0, h1.cell 1, h1.cell 2⟩
  go_enter Try.func18, Try.ntmps18
  go_wp2_with fail
  rw [← HW1.out, ← hL, ← hg]
  obtain ⟨c0, c1, c2⟩ := HCELL.out W1 (Fr.refl _ _)
  clear hg hL
  refine (HLN.out W1 HW.out.1).mono ?_
  rintro en w2 ⟨rfl, hf2⟩
  have HF2 := Lib.hid hf2
  clear c0 c1 c2
  obtain ⟨c0, c1, c2⟩ := HCELL.out w2 hf2
  clear hf2
  go_wp2_with fail
  refine (HLN.out w2 (HW.out.1.trans HF2.out)).mono ?_
  rintro en w3 ⟨rfl, hf3⟩
  have HF3 := Lib.hid (HF2.out.trans hf3)
  clear c0 c1 c2 hf3
  obtain ⟨c0, c1, c2⟩ := HCELL.out w3 HF3.out
  go_wp2_with fail
  refine (HWD.out w3 (HW.out.1.trans HF3.out)).mono ?_
  rintro en w4 ⟨rfl, hf4⟩
  have HF4 := Lib.hid (HF3.out.trans hf4)
  clear c0 c1 c2 hf4
  have HMK := run_makeRow m (by omega)
  obtain ⟨Z, hZ⟩ : ∃ Z, Z = (flatR (List.replicate m RV.none)).toArray := ⟨_, rfl⟩
  rw [← hZ] at HMK
  have HW5 : Hid (∀ W5 R, W5 = w4.alloc (.cells Z TRow) → R = w4.heap.size → Fr [] W1 W5 ∧ GV [some g, some L] w4 W5 N R m rs 0 [] ∧ R ≠ g ∧ R ≠ L) := by
    show ∀ _, _
    rintro W5 R rfl rfl
    have h1 := (HW.out.2.1.fr HF4.out (by simp)).lt
    have h2 := (HW.out.2.2.fr HF4.out (by simp)).lt
    refine ⟨HF4.out.alloc _, ⟨?_, rfl, rfl, fun r hr => by simp at hr, (Fr.refl [] w4).alloc _, Nat.le_refl _, Nat.zero_le _, fun k hk => ?_⟩, by omega, by omega⟩
    · rw [Nat.sub_zero, List.map_nil, List.nil_append, ← hZ]
      exact Blk.new w4 TRow Z
    · rcases List.mem_cons.1 hk with e | e
      · injection e with e; omega
      · rw [List.mem_singleton] at e; injection e with e; omega
  clear hZ
  go_wp2_with fail
  obtain ⟨W5, hW5⟩ : ∃ W5, W5 = w4.alloc (.cells Z TRow) := ⟨_, rfl⟩
  obtain ⟨R, hR⟩ : ∃ R, R = w4.heap.size := ⟨_, rfl⟩
  obtain ⟨k1, k2, k3⟩ := HW5.out W5 R hW5 hR
  rw [← hW5, ← hR]
  obtain ⟨ad, had⟩ : ∃ ad : Addr, ad = ⟨R, 0, none⟩ := ⟨_, rfl⟩
  rw [← had]
  have HAD := Lib.hid had
  have HG0 := Lib.hid k2
  have HNE := Lib.hid k3
  clear hW5 hR k1 k2 k3 had HW5 HMK
  go_loopw [23] (fun iv wr => ∃ (j : Nat) (ys : List RW), iv = .int .i64 j ∧ j ≤ m ∧ Hid (GV [some g, some L] w4 wr N R m rs j ys)) (fun iv _ => m - (intOf iv).toNat)
  case atStart => exact ⟨0, [], rfl, Nat.zero_le _, HG0.out⟩
  case round =>
    clear HG0
    obtain ⟨j, ys, rfl, hj, HGV⟩ := hrel
    have HFR : Hid (Fr [] W1 wr) := HF4.out.trans HGV.out.fr
    obtain ⟨c0, c1, c2⟩ := HCELL.out wr HFR.out
    by_cases hlt : j < m
    · have hj0 : (0 : Int) ≤ (j : Int) := by omega
      have hj1 : (j : Int) < (m : Int) := by omega
      go_wp2_with fail
      refine (HCEL.out wr j (some R :: [some g, some L]) (HW.out.1.trans HFR.out) (HGV.out.oldE (Fr.refl _ _)) (fun k hk => ?_)).mono ?_
      · have h1 := HGL.out
        have h2 := HGV.out.rn
        have h3 := (HW.out.1.trans HF4.out).size
        rcases List.mem_cons.1 hk with e | e
        · injection e with e; omega
        · rcases List.mem_cons.1 e with e | e
          · injection e with e; omega
          · rw [List.mem_singleton] at e; injection e with e; omega
      rintro en w6 ⟨A, B, rfl, kA, _, hf6⟩
      have HF6 : Hid (Fr [] W1 w6) := HFR.out.trans hf6
      have HF6' := Lib.hid hf6
      have HKA := Lib.hid kA
      clear c0 c1 c2 kA hf6
      obtain ⟨c0, c1, c2⟩ := HCELL.out w6 HF6.out
      go_wp2_with fail
      refine (HEND.out w6 j (HW.out.1.trans HF6.out)).mono ?_
      rintro en w7 ⟨rfl, hf7⟩
      obtain ⟨e, he⟩ : ∃ e, e = endRP (rs.map Prod.fst) j := ⟨_, rfl⟩
      rw [← he]
      have HE := Lib.hid he
      have HF7 : Hid (Fr [] wr w7) := HF6'.out.trans hf7
      have HGV7 := Lib.hid (HGV.out.fr0 HF7.out)
      obtain ⟨o0, o1, o2, s0, s1, s2, z0, z1, z2, hbk, hfr⟩ := store3 HAD.out HGV7.out.rb (rows_fit ys j m HGV7.out.ln hlt) (.slice (some ⟨A, 0, none⟩) n n) (.int .i64 e) (.bool false)
      have HNX := Lib.hid (HGV.out.step (A := some ⟨A, 0, none⟩) (m := n) (c := n) (cs := colR rs j) hlt HE.out rfl HF7.out (by rw [colR_len]; exact HRR.out.1) (Nat.le_refl _) (HKA.out.fr0 hf7) hfr hbk)
      clear he hbk hfr hf7 c0 c1 c2
      go_wp2_with fail
      go_roundw
      case rel => exact ⟨j + 1, _, by go_num, by omega, HNX.out⟩
      case measure => simp [intOf]; omega
    · obtain rfl : j = m := by omega
      have hxl : (ys.map Prod.fst).length = j := by rw [List.length_map, HGV.out.ln]
      have hslr : Sl wr (some ad) (flatR (ys.map Prod.fst)) := by
        have hb := HGV.out.rb
        rw [Nat.sub_self, List.replicate_zero, List.append_nil] at hb
        have := blk_sl hb (flatR (ys.map Prod.fst)).length
        rw [List.take_length] at this
        rw [HAD.out]
        exact this
      have hO : Old [some g, some L] wr := fun k hk => HGV.out.oldE (Fr.refl _ _) k (List.mem_cons_of_mem _ hk)
      have hof := of_any [some g, some L] (some ad) j (ys.map Prod.fst) wr hO hslr (by rw [hxl]; exact Nat.le_refl _) (by rw [hxl]; omega)
      rw [hxl] at hof
      have HOF := Lib.hid hof
      have hgb := HW.out.2.1.fr HFR.out (by simp)
      have hlb := HW.out.2.2.fr HFR.out (by simp)
      have HBL := Lib.hid (And.intro hgb hlb)
      clear hxl hslr hO hof hgb hlb
      go_wp2_with fail
      refine HOF.out.mono ?_
      rintro en w8 ⟨p', rfl, ht, hf8⟩
      have hgb := HBL.out.1.fr hf8 (by simp)
      have hlb := HBL.out.2.fr hf8 (by simp)
      have g0 : w8.cell? ⟨g, 0, none⟩ = some (.pointer p) := hgb.cell 0
      have g1 : w8.cell? ⟨g, 1, none⟩ = some (.bool tl) := hgb.cell 1
      have g2 : w8.cell? ⟨g, 2, none⟩ = some (.int .i64 eo) := hgb.cell 2
      have z0 := hgb.frozen 0
      have lg := hgb.lt
      have d0 : w8.cell? ⟨L, 0, none⟩ = some (.pointer none) := hlb.cell 0
      have d1 : w8.cell? ⟨L, 1, none⟩ = some (.bool false) := hlb.cell 1
      have d2 : w8.cell? ⟨L, 2, none⟩ = some (.int .i64 0) := hlb.cell 2
      have y0 := hlb.frozen 0
      have y1 := hlb.frozen 1
      have y2 := hlb.frozen 2
      have ll := hlb.lt
      have HFIN : Hid (∀ w', Fr [some g, some L] w8 w' → OverAns w N tl eo rs (.returned (.tuple #[.agg #[.pointer p', .bool tl, .int .i64 eo], .int .i64 0])) w') := by
        show ∀ _, _
        intro w' hf
        have hwr := HW.out.1.trans HFR.out
        refine .inr ⟨by rw [← HRR.out.1]; exact HRR.out.2.1, p', ys, rfl, ?_, ?_, ?_, ?_⟩
        · exact (ht.fr hf).grow (E' := []) (Fr.refl _ _) fun k hk => by simp at hk
        · have h1 := HGV.out.ok
          have h2 : Fr (some R :: [some g, some L]) w8 w' := hf.weaken fun i _ e => List.mem_cons_of_mem _ e
          refine (h1.grow (hf8.of_nil.trans h2) (E' := []) fun k hk => by simp at hk)
        · rw [HGV.out.rv]
          unfold overR
          rw [← HRR.out.2.2]
        · refine (hwr.trans hf8).seq hf fun x hx => ?_
          have h3 := HGL.out
          rcases List.mem_cons.1 hx with e | e
          · exact .inr (.inr ⟨g, by omega, e⟩)
          · rw [List.mem_singleton] at e; exact .inr (.inr ⟨L, by omega, e⟩)
      have hne2 : ¬ L = g := fun e => hne e.symm
      clear ht hf8 hgb hlb HOF c0 c1 c2
      go_wp2_with fail
      refine bodyPost_ret (v := .tuple #[.agg #[.pointer p', .bool tl, .int .i64 eo], .int .i64 0]) (by simp [results, Try.results18, go_sem, *]) rfl ?_
      refine HFIN.out _ (((((Fr.refl [some g, some L] w8).setB (fun _ => by simp) _ _).setB (fun _ => by simp) _ _).setB (fun _ => by simp) _ _).setB (fun _ => by simp) _ _)
end Go.Proofs.Ytblafakafgediaa
