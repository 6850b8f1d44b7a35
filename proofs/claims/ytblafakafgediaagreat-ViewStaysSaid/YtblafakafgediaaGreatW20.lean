import Derived.Test.YtblafakafgediaaGreatW18
namespace Go.Proofs.YtblafakafgediaaGreat
open Go.RowKit Go.Proofs.Dm

set_option maxRecDepth 100000 in
set_option maxHeartbeats 1600000 in
theorem glue_inner {E : List (Option Nat)} {h lo1 lo2 : Nat} (g1 g2 : Nat) (xs1 xs2 : List RV) (w : World) (hE : Old E w) (h1 : NodeAt TN E w (h + 1) lo1 g1 xs1) (h2 : NodeAt TN E w (h + 1) lo2 g2 xs2) (hsm : xs1.length + xs2.length ≤ 1000000) (hp : 1 ≤ lo1 + lo2) :
    Calls Tryz.prog 205 #[.pointer (some ⟨g1, 0, none⟩), .pointer (some ⟨g2, 0, none⟩)] w (NodesOf E w (h + 1) (min 3 (lo1 + lo2)) (xs1 ++ xs2)) := by
  have HFL1 := Lib.hid (flat_inner h1)
  obtain ⟨ks1, A1, c1, l1, n1, m1, hx1, hc1, hk1, hn1⟩ := h1
  obtain ⟨ks2, A2, c2, l2, n2, m2, hx2, hc2, hk2, hn2⟩ := h2
  have d1 : w.cell? ⟨g1, 0, none⟩ = some (.slice A1 ks1.length c1) := hk1.now.1.cell 0
  have d2 : w.cell? ⟨g2, 0, none⟩ = some (.slice A2 ks2.length c2) := hk2.now.1.cell 0
  obtain ⟨X, hX⟩ : ∃ X, X = ks1 ++ ks2 := ⟨_, rfl⟩
  have hNX : NodesAt TN E w h 3 X := by rw [hX]; exact NodesAt.app hn1 hn2
  obtain ⟨Z, hZ⟩ : ∃ Z, Z = xs1 ++ xs2 := ⟨_, rfl⟩
  have hZX : allOf X = Z := by rw [hX, hZ, allOf_app, hx1, hx2]; rfl
  have hZl : Z.length ≤ 1000000 := by rw [hZ, List.length_append]; exact hsm
  have hXl : X.length = ks1.length + ks2.length := by rw [hX, List.length_append]
  have HXL := Lib.hid hXl
  have hXn : X.length ≤ 12 := by omega
  have HC : Hid (∀ w1 b (d : Nat), Fr [] w w1 → Sl w1 (some ⟨b, 0, none⟩) [.slice A1 ks1.length c1, .slice A2 ks2.length c2] → Calls Tryz.prog 241 #[.slice (some ⟨b, 0, none⟩) 2 2] w1 (NewRow w1 29 1 X.length (ptrs (X.map (·.1))))) := by
    show ∀ _, _
    intro w1 b d hf hb
    have := concat_N (some ⟨b, 0, none⟩) 2 [⟨A1, ks1.length, c1, ptrs (ks1.map (·.1))⟩, ⟨A2, ks2.length, c2, ptrs (ks2.map (·.1))⟩] w1 hb (fun p hp => by
      simp only [List.mem_cons, List.not_mem_nil, or_false] at hp
      rcases hp with rfl | rfl
      · exact ⟨by rw [ptrs_len, List.length_map, Nat.mul_one], hk1.now.2.fr hf (.inr List.not_mem_nil), ptrs_one _⟩
      · exact ⟨by rw [ptrs_len, List.length_map, Nat.mul_one], hk2.now.2.fr hf (.inr List.not_mem_nil), ptrs_one _⟩) (by simp [partN]; omega) (by simp)
    rw [hX, List.map_append, ptrs_app, List.length_append]
    simpa [partN, partC] using this
  have HL : Hid (∀ w1 A c, Fr [] w w1 → Sl w1 A (ptrs (X.map (·.1))) → X.length ≤ c → Calls Tryz.prog 191 #[.slice A X.length c] w1 (NodesAns E w1 (h + 1) (min 3 (lo1 + lo2)) ((cutsP X).map allOf))) := by
    show ∀ _, _
    intro w1 A c hf hs hc
    exact inners_any E A c h X _ w1 (hE.fr hf) hs hc (by omega) (hNX.fr0 hf) (by rw [sumOf_eq, hZX]; exact hZl) (cutsP_lo X _ (by omega) (Nat.min_le_left _ _))
  have HX : Hid (∀ ks : List (Nat × List RV), ks.map (·.2) = (cutsP X).map allOf → allOf ks = Z ∧ 1 ≤ ks.length ∧ ks.length ≤ 2) := by
    show ∀ _, _
    intro ks hh
    refine ⟨by rw [allOf_cuts X ks hh]; exact hZX, ?_⟩
    have := congrArg List.length hh
    simp [cutsP_len] at this
    omega
  have H0 : Hid (Fr [] w (w.alloc (.cells #[.slice A1 ks1.length c1, .slice A2 ks2.length c2] 212))) := (Fr.refl [] w).alloc _
  have HW : Hid (∀ b (_ : Nat), b = w.heap.size → Sl (w.alloc (.cells #[.slice A1 ks1.length c1, .slice A2 ks2.length c2] 212)) (some ⟨b, 0, none⟩) [.slice A1 ks1.length c1, .slice A2 ks2.length c2]) := by
    show ∀ _, _
    intro b _ hb
    subst hb
    exact blk_sl (cs := [.slice A1 ks1.length c1, .slice A2 ks2.length c2]) (Blk.new w 212 _) 2
  rw [← hZ]
  clear hk1 hk2 hX hXl hE l1 l2 m1 m2 hc1 hc2 n1 n2 hx1 hx2 hn1 hn2 hNX hZ hZX hZl hsm
  go_enter Tryz.func205, Tryz.ntmps205
  go_wp2_with fail
  refine HFL1.out.mono ?_
  rintro e w' ⟨rfl, rfl⟩
  clear HFL1
  go_wp2_with fail
  go_region_with (first
    | (go_at_call 241; go_must (refine (HC.out _ _ 0 H0.out.drew (HW.out _ 0 rfl)).mono ?_; rintro e w1 ⟨A3, c3, rfl, hr3, hf3, hb3⟩; have HR3 := Lib.hid hr3; have HF3 := Lib.hid (H0.out.drew.trans hf3); clear hr3 hf3 hb3))
    | (go_at_call 191; go_must (refine (HL.out _ A3 c3 HF3.out (ORow.sl HR3.out) (ORow.cap HR3.out)).mono ?_; rintro e w2 ⟨ks, B, d, rfl, hks, hB, hd, hN, hf⟩; have HEND : Hid (ks.map (·.2) = (cutsP X).map allOf ∧ Kp E w2 (fun w => Sl w B (ptrs (ks.map (·.1)))) ∧ ks.length ≤ d ∧ NodesAt TN E w2 (h + 1) (min 3 (lo1 + lo2)) ks ∧ Fr [] w w2) := ⟨hks, hB, hd, hN, HF3.out.trans hf⟩; clear hks hB hd hN hf)))
  all_goals go_simp
  all_goals go_wp2
  all_goals go_ret
  all_goals (obtain ⟨q1, q2, q3, q4, q5⟩ := HEND.out; exact ⟨ks, B, d, rfl, (HX.out ks q1).1, q2, q3, q4, q5, (HX.out ks q1).2⟩)

/-- How wide a node is: one that is at least three wide is so. -/
def WideAns (E : List (Option Nat)) (w : World) (h g : Nat) (xs : List RV) (en : Ending) (w' : World) : Prop := ∃ n : Nat, en = .returned (.int .i64 n) ∧ n ≤ 6 ∧ (3 ≤ n → NodeAt TN E w h 3 g xs) ∧ Fr [] w w'
theorem width_inner {E : List (Option Nat)} {w : World} {h lo g : Nat} {xs : List RV} (hn : NodeAt TN E w (h + 1) lo g xs) :
    Calls Tryz.prog 212 #[.pointer (some ⟨g, 0, none⟩)] w (WideAns E w (h + 1) g xs) := by
  obtain ⟨ks, A, c, h0, h1, h6, hx, hc, hk, hks⟩ := hn
  have hb := hk.now.1
  have c0 : w.cell? ⟨g, 0, none⟩ = some (.slice A ks.length c) := hb.cell 0
  have c1 : w.cell? ⟨g, 1, none⟩ = some (.slice none 0 0) := hb.cell 1
  have HEND : Hid (∀ w' : World, Fr [] w w' → WideAns E w (h + 1) g xs (.returned (.int .i64 (ks.length : Nat))) w') := fun w' hf => ⟨ks.length, rfl, h6, fun h3 => ⟨ks, A, c, h3, h1, h6, hx, hc, hk, hks⟩, hf⟩
  clear hk hb hx hks
  go_enter Tryz.func212, Tryz.ntmps212
  go_wp2_with fail
  go_quiet (fail)
  go_wp2_with fail
  go_ret
  have := HEND.out _ ((Fr.refl [] w).drewN nq)
  simpa using this
theorem width_any {E : List (Option Nat)} {w : World} : ∀ {h lo g : Nat} {xs : List RV} (_ : NodeAt TN E w h lo g xs),
    Calls Tryz.prog 212 #[.pointer (some ⟨g, 0, none⟩)] w (WideAns E w h g xs)
  | 0, _, _, _, hn => (width_leaf hn).mono fun e w' ⟨h1, h2⟩ => ⟨_, h1, hn.2.1, fun h3 => ⟨h3, hn.2⟩, h2⟩
  | _ + 1, _, _, _, hn => (width_inner hn).mono fun e w' h => h
theorem ptrs_fst_app (a b : List (Nat × List RV)) : ptrs ((a ++ b).map (·.1)) = ptrs (a.map (·.1)) ++ ptrs (b.map (·.1)) := by rw [List.map_append, ptrs_app]
/-- Kids put in the place of some. -/
theorem splice_ks (A B : Option Addr) (c d i j : Nat) (ks gl : List (Nat × List RV)) (w : World) (hs : Sl w A (ptrs (ks.map (·.1)))) (hw : Sl w B (ptrs (gl.map (·.1)))) (hi : i ≤ ks.length) (hj : j ≤ ks.length) (hc : ks.length ≤ c) (hn : ks.length ≤ 10000) (hm : gl.length ≤ 10000) :
    Calls Tryz.prog 204 #[.slice A ks.length c, .int .i64 (i : Int), .int .i64 (j : Int), .slice B gl.length d] w (NewRow w 29 1 (ks.take i ++ gl ++ ks.drop j).length (ptrs ((ks.take i ++ gl ++ ks.drop j).map (·.1)))) := by
  have := splice_N A B ks.length c gl.length d i j (ptrs (ks.map (·.1))) (ptrs (gl.map (·.1))) w hs (by rw [ptrs_len, List.length_map, Nat.mul_one]) (ptrs_one _) hw (by rw [ptrs_len, List.length_map, Nat.mul_one]) (ptrs_one _) hi hj hc hn hm
  rw [ptrs_fst_app, ptrs_fst_app, List.map_take, List.map_drop, ptrs_take, ptrs_drop]
  simpa [Nat.min_eq_left hi, Nat.add_assoc] using this
/-- A node that a call made. -/
def NodeAns (E : List (Option Nat)) (w : World) (h lo : Nat) (xs : List RV) (en : Ending) (w' : World) : Prop := ∃ g, en = .returned (.pointer (some ⟨g, 0, none⟩)) ∧ NodeAt TN E w' h lo g xs ∧ Fr [] w w'
/-- A node above others. -/
theorem inner_node (E : List (Option Nat)) (h lo : Nat) (A : Option Addr) (c : Nat) (ks : List (Nat × List RV)) (w : World) (hE : Old E w) (hs : Kp E w fun w => Sl w A (ptrs (ks.map (·.1)))) (hc : ks.length ≤ c) (hN : NodesAt TN E w h 3 ks) (hlo : lo ≤ ks.length) (h1 : 1 ≤ ks.length) (h6 : ks.length ≤ 6) (hsm : (allOf ks).length ≤ 1000000) :
    Calls Tryz.prog 208 #[.slice A ks.length c] w (NodeAns E w (h + 1) lo (allOf ks)) := by
  refine (inner_any A c ks w hs.now (fun k hk => (hN k hk).cell2) (by rw [sumOf_eq]; exact hsm) (by omega)).mono ?_
  rintro e w' ⟨h1', h2, h3⟩
  rw [sumOf_eq] at h2
  exact ⟨_, h1', ⟨ks, A, c, hlo, h1, h6, rfl, hc, (Kp.blk h2 (hE.new (Nat.le_refl _))).and (hs.fr0 h3), hN.fr0 h3⟩, h3⟩
theorem kp_new {E : List (Option Nat)} {w w' : World} {A : Option Addr} {cs : List Value} (hE : Old E w) (hs : Sl w' A cs) (hA : ∀ j, bk A = some j → w.heap.size ≤ j) : Kp E w' fun w => Sl w A cs := Kp.sl hs (hE.newA hA)
end Go.Proofs.YtblafakafgediaaGreat
