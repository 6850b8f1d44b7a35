import Derived.Test.YtblafakafgediaaGreatW20
import Derived.Deep.RegionHeld3
import Derived.IntWalk
namespace Go.Proofs.YtblafakafgediaaGreat
open Go.RowKit Go.Proofs.Dm

theorem erase_all (ks : List (Nat × List RV)) (q j : Nat) (hq : q < ks.length) (hj : j < ks[q].2.length) :
    (allOf ks).eraseIdx (sumOf (ks.take q) + j) = allOf (ks.take q) ++ (ks[q].2.eraseIdx j ++ allOf (ks.drop (q + 1))) := by
  rw [allOf_split ks q hq, sumOf_eq, List.eraseIdx_append_of_length_le (by omega), Nat.add_sub_cancel_left, List.eraseIdx_append_of_lt_length hj]
theorem allOf_one (k : Nat × List RV) : allOf [k] = k.2 := by simp [allOf]
theorem erase_1 (ks : List (Nat × List RV)) (q j g : Nat) (hq : q < ks.length) (hj : j < ks[q].2.length) :
    allOf (ks.take q ++ [(g, ks[q].2.eraseIdx j)] ++ ks.drop (q + 1)) = (allOf ks).eraseIdx (sumOf (ks.take q) + j) := by
  rw [erase_all ks q j hq hj, allOf_app, allOf_app, allOf_one, List.append_assoc]
theorem erase_2 (ks gl : List (Nat × List RV)) (q j : Nat) (h0 : 0 < q) (hq : q < ks.length) (hj : j < ks[q].2.length) (hg : allOf gl = ks[q - 1].2 ++ ks[q].2.eraseIdx j) :
    allOf (ks.take (q - 1) ++ gl ++ ks.drop (q + 1)) = (allOf ks).eraseIdx (sumOf (ks.take q) + j) := by
  have ht : ks.take q = ks.take (q - 1) ++ [ks[q - 1]] := by
    have := List.take_succ_eq_append_getElem (l := ks) (i := q - 1) (by omega)
    rw [show q - 1 + 1 = q by omega] at this
    exact this
  rw [erase_all ks q j hq hj, allOf_app, allOf_app, hg]
  conv => rhs; rw [ht, allOf_app, allOf_one]
  simp [List.append_assoc]
theorem erase_3 (ks gl : List (Nat × List RV)) (j : Nat) (h2 : 1 < ks.length) (hj : j < (ks[0]'(by omega)).2.length) (hg : allOf gl = (ks[0]'(by omega)).2.eraseIdx j ++ ks[1].2) :
    allOf (ks.take 0 ++ gl ++ ks.drop 2) = (allOf ks).eraseIdx (sumOf (ks.take 0) + j) := by
  rw [erase_all ks 0 j (by omega) hj, allOf_app, allOf_app, hg]
  have : ks.drop (0 + 1) = ks[1] :: ks.drop 2 := List.drop_eq_getElem_cons h2
  rw [this, show (ks[1] :: ks.drop 2) = [ks[1]] ++ ks.drop 2 from rfl, allOf_app, allOf_one]
  simp only [List.append_assoc]
theorem glue_any {E : List (Option Nat)} {h lo1 lo2 : Nat} (g1 g2 : Nat) (xs1 xs2 : List RV) (w : World) (hE : Old E w) (h1 : NodeAt TN E w h lo1 g1 xs1) (h2 : NodeAt TN E w h lo2 g2 xs2) (hp : 1 ≤ lo1 + lo2) (hsm : xs1.length + xs2.length ≤ 1000000) :
    Calls Tryz.prog 205 #[.pointer (some ⟨g1, 0, none⟩), .pointer (some ⟨g2, 0, none⟩)] w (NodesOf E w h (min 3 (lo1 + lo2)) (xs1 ++ xs2)) := by
  cases h with
  | zero => exact glue_leaf g1 g2 xs1 xs2 w hE h1 h2 hp
  | succ h => exact glue_inner g1 g2 xs1 xs2 w hE h1 h2 hsm hp
theorem pair_le (ks : List (Nat × List RV)) (p q : Nat) (hq : q < ks.length) (hp : q = p + 1) : (ks[p]'(by omega)).2.length + ks[q].2.length ≤ (allOf ks).length := by
  subst hp
  have h1 := sumOf_snoc ks p (by omega)
  have h2 := sumOf_snoc ks (p + 1) hq
  have h3 := sumOf_le ks (p + 1 + 1)
  rw [sumOf_eq ks] at h3
  omega
theorem flatR_erase (xs : List RV) (i : Nat) : (flatR xs).take (i * 3) ++ [] ++ (flatR xs).drop ((i + 1) * 3) = flatR (xs.eraseIdx i) := by
  rw [List.eraseIdx_eq_take_drop_succ, flatR_app, flatR_take, flatR_drop, List.append_nil]
set_option maxRecDepth 100000 in
set_option maxHeartbeats 800000 in
theorem take_leaf (E : List (Option Nat)) (lo g : Nat) (xs : List RV) (i : Nat) (w : World) (hE : Old E w) (hn : NodeAt TN E w 0 lo g xs) (hi : i < xs.length) :
    Calls Tryz.prog 184 #[.pointer (some ⟨g, 0, none⟩), .int .i64 (i : Nat)] w (NodeAns E w 0 (lo - 1) (xs.eraseIdx i)) := by
  have HFL := Lib.hid (flat_leaf hn)
  obtain ⟨h0, h6, A, c, hc, hk⟩ := hn
  have c1 : w.cell? ⟨g, 1, none⟩ = some (.slice A xs.length c) := hk.now.1.cell 1
  have hel : (xs.eraseIdx i).length = xs.length - 1 := by rw [List.length_eraseIdx, if_pos hi]
  have HSP : Hid (Calls Tryz.prog 207 #[.slice A xs.length c, .int .i64 (i : Nat), .int .i64 ((i : Int) + 1), .slice none 0 0] w (NewRow w 121 3 (xs.eraseIdx i).length (flatR (xs.eraseIdx i)))) := by
    have := splice_R A none xs.length c 0 0 i (i + 1) (flatR xs) [] w hk.now.2 (flatR_len xs) (flatR_one xs) (.inl rfl) rfl (by simp) (by omega) (by omega) hc (by omega) (by omega)
    rw [flatR_erase, show i + 0 + (xs.length - (i + 1)) = (xs.eraseIdx i).length by rw [hel]; omega] at this
    exact this
  obtain ⟨ys, hys⟩ : ∃ ys, ys = xs.eraseIdx i := ⟨_, rfl⟩
  rw [← hys] at HSP hel ⊢
  have HY : Hid (lo - 1 ≤ ys.length ∧ ys.length ≤ 6) := by show _ ∧ _; omega
  have HE := Lib.hid hE
  have hi6 : (i : Int) ≤ 6 := by omega
  clear hk hys hel hE h0 hi hc
  go_enter Tryz.func184, Tryz.ntmps184
  go_wp2_with fail
  refine HFL.out.mono ?_
  rintro e w' ⟨rfl, rfl⟩
  clear HFL
  go_wp2_with fail
  refine HSP.out.mono ?_
  rintro e w1 ⟨A1, c3, rfl, hr1, hf1, hb1⟩
  have HR := Lib.hid hr1
  have HF := Lib.hid hf1
  have HB := Lib.hid hb1
  clear hr1 hf1 hb1 HSP c1
  go_wp2_with fail
  refine (leaf_any A1 ys.length c3 w1).mono ?_
  rintro e w2 ⟨rfl, hb2, hf2⟩
  have HEND : Hid (NodeAns E w 0 (lo - 1) ys (.returned (.pointer (some ⟨w1.heap.size, 0, none⟩))) w2) := by
    refine ⟨_, rfl, ⟨HY.out.1, HY.out.2, A1, c3, ORow.cap HR.out, ?_⟩, HF.out.trans hf2⟩
    exact (Kp.blk hb2 ((HE.out.fr HF.out).new (Nat.le_refl _))).and ((kp_new HE.out (ORow.sl HR.out) HB.out).fr0 hf2)
  clear hb2 hf2 HR HF HB
  go_wp2_with fail
  go_ret
  exact HEND.out
set_option maxRecDepth 100000 in
set_option maxHeartbeats 800000 in
theorem take_inner (E : List (Option Nat)) (h lo g : Nat) (xs : List RV) (i : Nat) (w : World) (hE : Old E w) (hn : NodeAt TN E w (h + 1) lo g xs) (hlo : 2 ≤ lo) (hi : i < xs.length) (hsm : xs.length ≤ 1000000)
    (hrec : ∀ g xs i, NodeAt TN E w h 3 g xs → i < xs.length → xs.length ≤ 1000000 → Calls Tryz.prog 184 #[.pointer (some ⟨g, 0, none⟩), .int .i64 (i : Nat)] w (NodeAns E w h 2 (xs.eraseIdx i))) :
    Calls Tryz.prog 184 #[.pointer (some ⟨g, 0, none⟩), .int .i64 (i : Nat)] w (NodeAns E w (h + 1) (lo - 1) (xs.eraseIdx i)) := by
  have HFL := Lib.hid (flat_inner hn)
  obtain ⟨ks, A, c, h0, h1, h6, rfl, hc, hk, hks⟩ := hn
  have hxs : (ks.map (·.2)).flatten = allOf ks := rfl
  rw [hxs] at hi hsm ⊢
  have c0 : w.cell? ⟨g, 0, none⟩ = some (.slice A ks.length c) := hk.now.1.cell 0
  have HKID := Lib.hid (kid_any g i c A _ _ ks w hk.now.1 hk.now.2 hks h1 h6 (by omega))
  have HSL := Lib.hid hk.right
  have HKS := Lib.hid hks
  have HREC := Lib.hid hrec
  have HE := Lib.hid hE
  have HSM := Lib.hid hsm
  have HI := Lib.hid hi
  have hgb := World.block_lt_of_cell? w _ c0
  have hi6 : (i : Int) ≤ 1000000 := by omega
  clear hk hks hrec hE hxs hsm hi
  go_enter Tryz.func184, Tryz.ntmps184
  go_wp2_with fail
  refine HFL.out.mono ?_
  rintro e w' ⟨rfl, rfl⟩
  clear HFL
  go_wp2_with fail
  refine HKID.out.mono ?_
  rintro e w' ⟨⟨q, j, hq, rfl, hij, hjl⟩, rfl⟩
  have hj := kid_in ks i q j hq hij hjl HI.out
  have hkq := HKS.out ks[q] (List.getElem_mem hq)
  have hkl : ks[q].2.length ≤ 1000000 := by
    have := HSM.out
    rw [← sumOf_eq, sumOf_all ks q hq] at this; omega
  have HTK := Lib.hid (HREC.out ks[q].1 ks[q].2 j hkq hj hkl)
  obtain ⟨ad, rfl, hcell⟩ := sl_ptrs HSL.out.now (j := q) (by rw [List.length_map]; exact hq)
  rw [List.getElem_map] at hcell
  have HIJ := Lib.hid hij
  have HJ := Lib.hid hj
  have hq' : (q : Int) < (ks.length : Int) := by omega
  clear hij hj hkq hjl hkl HKID HREC
  go_wp2_with fail
  refine HTK.out.mono ?_
  rintro e w1 ⟨g1, rfl, hn1, hf1⟩
  clear HTK
  have HW := Lib.hid (width_any hn1)
  have HN1 := Lib.hid hn1
  have HF1 := Lib.hid hf1
  have HC0 : Hid (∀ w', Fr [] w w' → w'.cell? ⟨g, 0, none⟩ = some (.slice (some ad) ks.length c)) := fun w' hf => (hf.cell (p := ⟨g, 0, none⟩) hgb (by simp)).trans c0
  clear hn1 hf1 c0 hcell
  go_wp2_with fail
  refine HW.out.mono ?_
  rintro e w2 ⟨n, rfl, hn6, hn3, hf2⟩
  clear HW
  have hF2 := HF1.out.trans hf2
  have HF2 := Lib.hid hF2
  have HN2 := Lib.hid (HN1.out.fr0 hf2)
  have c2 := HC0.out w2 hF2
  have hg2 : g < w2.heap.size := Nat.lt_of_lt_of_le hgb hF2.size
  by_cases h3 : 3 ≤ n
  · have HN3 : Hid (NodeAt TN E w2 h 3 g1 (ks[q].2.eraseIdx j)) := (hn3 h3).fr0 hf2
    obtain ⟨ks', hks'⟩ : ∃ ks', ks' = ks.take q ++ [(g1, ks[q].2.eraseIdx j)] ++ ks.drop (q + 1) := ⟨_, rfl⟩
    have hkl : ks'.length = ks.length := by rw [hks']; simp; omega
    have hall : allOf ks' = (allOf ks).eraseIdx i := by rw [hks', erase_1 ks q j g1 hq HJ.out, ← HIJ.out]
    have HSP : Hid (∀ w3 B (d : Nat), Fr [] w2 w3 → Sl w3 B (ptrs [g1]) → Calls Tryz.prog 204 #[.slice (some ad) ks.length c, .int .i64 (q : Nat), .int .i64 ((q : Int) + 1), .slice B 1 d] w3 (NewRow w3 29 1 ks'.length (ptrs (ks'.map (·.1))))) := by
      show ∀ _, _
      intro w3 B d hf hB
      rw [hks']
      exact splice_ks (some ad) B c d q (q + 1) ks [(g1, ks[q].2.eraseIdx j)] w3 ((HSL.out.now.fr HF2.out (.inr List.not_mem_nil)).fr hf (.inr List.not_mem_nil)) hB (by omega) (by omega) hc (by omega) (by simp)
    have HIN : Hid (∀ w3 w4 A' c', Fr [] w2 w3 → Fr [] w3 w4 → Sl w4 A' (ptrs (ks'.map (·.1))) → (∀ j, bk A' = some j → w3.heap.size ≤ j) → ks'.length ≤ c' → Calls Tryz.prog 208 #[.slice A' ks'.length c'] w4 (NodeAns E w4 (h + 1) (lo - 1) ((allOf ks).eraseIdx i))) := by
      show ∀ _, _
      intro w3 w4 A' c' hf hf' hs hA hc'
      rw [← hall]
      refine inner_node E h (lo - 1) A' c' ks' w4 ((HE.out.fr HF2.out).fr (hf.trans hf')) (kp_new ((HE.out.fr HF2.out).fr hf) hs hA) hc' ?_ (by omega) (by omega) (by omega) (by rw [hall, List.length_eraseIdx, if_pos HI.out]; have := HSM.out; omega)
      rw [hks']
      refine NodesAt.app (NodesAt.app (fun k hk => ?_) fun k hk => ?_) fun k hk => ?_
      · exact ((HKS.out k (List.mem_of_mem_take hk)).fr0 HF2.out).fr0 (hf.trans hf')
      · rw [List.mem_singleton] at hk; subst hk; exact HN3.out.fr0 (hf.trans hf')
      · exact ((HKS.out k (List.mem_of_mem_drop hk)).fr0 HF2.out).fr0 (hf.trans hf')
    have h3' : (3 : Int) ≤ (n : Int) := by omega
    have H0 : Hid (Fr [] w2 (w2.alloc (.cells #[.pointer (some ⟨g1, 0, none⟩)] 29))) := (Fr.refl [] w2).alloc _
    have HSN : Hid (Sl (w2.alloc (.cells #[.pointer (some ⟨g1, 0, none⟩)] 29)) (some ⟨w2.heap.size, 0, none⟩) (ptrs [g1])) := sl_new w2 _ _
    clear h3 hks' hkl hall hn3 hf2 hF2 hn6 HN3 HKS HSL HN2 HN1
    go_wp2_with fail
    refine (HSP.out _ _ 1 H0.out HSN.out).mono ?_
    rintro e w3 ⟨A3, c3, rfl, hr3, hf3, hb3⟩
    have HIN3 := Lib.hid (HIN.out _ w3 A3 c3 H0.out hf3 (ORow.sl hr3) hb3 (ORow.cap hr3))
    have HF3 := Lib.hid (HF2.out.trans (H0.out.trans hf3))
    clear hr3 hf3 hb3 HSP HIN
    go_wp2_with fail
    refine HIN3.out.mono ?_
    rintro e w4 ⟨g4, rfl, hn4, hf4⟩
    have HEND : Hid (NodeAns E w (h + 1) (lo - 1) ((allOf ks).eraseIdx i) (.returned (.pointer (some ⟨g4, 0, none⟩))) w4) := ⟨g4, rfl, hn4, HF3.out.trans hf4⟩
    clear hn4 hf4 HIN3 HF3
    go_wp2_with fail
    go_ret
    exact HEND.out
  · rcases Nat.eq_zero_or_pos q with hq0 | hq0
    · subst hq0
      have hks2 : 1 < ks.length := by omega
      obtain ⟨gl0, hgl0⟩ : ∃ X, X = ks[0].2.eraseIdx j ++ ks[1].2 := ⟨_, rfl⟩
      have HGL : Hid (∀ w', Fr [] w2 w' → Calls Tryz.prog 205 #[.pointer (some ⟨g1, 0, none⟩), .pointer (some ⟨ks[1].1, 0, none⟩)] w' (NodesOf E w' h 3 gl0)) := by
        show ∀ _, _
        intro w' hf
        have hlt : 1 < ks.length := by omega
        have hpair := pair_le ks 0 1 hks2 rfl
        have hsm := HSM.out
        have hel : (ks[0].2.eraseIdx j).length ≤ ks[0].2.length := by rw [List.length_eraseIdx]; split <;> omega
        rw [hgl0]
        exact glue_any (lo1 := 2) (lo2 := 3) _ _ _ _ w' ((HE.out.fr HF2.out).fr hf) (HN2.out.fr0 hf) (((HKS.out ks[1] (List.getElem_mem hlt)).fr0 HF2.out).fr0 hf) (by omega) (by omega)
      have HX : Hid (∀ gl, allOf gl = gl0 → allOf (ks.take 0 ++ gl ++ ks.drop 2) = (allOf ks).eraseIdx i) := by
        show ∀ _, _
        intro gl hg
        rw [hgl0] at hg
        rw [erase_3 ks gl j (by omega) HJ.out hg, ← HIJ.out]
      have HSP : Hid (∀ w3 B (d : Nat) gl, Fr [] w2 w3 → Sl w3 B (ptrs (gl.map (·.1))) → gl.length ≤ 2 → Calls Tryz.prog 204 #[.slice (some ad) ks.length c, .int .i64 0, .int .i64 2, .slice B gl.length d] w3 fun en w4 => ∃ A4 c4 m, en = .returned (.slice A4 m c4) ∧ Hid (m = (ks.take 0 ++ gl ++ ks.drop 2).length ∧ Sl w4 A4 (ptrs ((ks.take 0 ++ gl ++ ks.drop 2).map (·.1))) ∧ m ≤ c4 ∧ ∀ j, bk A4 = some j → w3.heap.size ≤ j) ∧ Fr [] w3 w4) := by
        show ∀ _, _
        intro w3 B d gl hf hB hg
        refine (splice_ks (some ad) B c d 0 2 ks gl w3 ((HSL.out.now.fr HF2.out (.inr List.not_mem_nil)).fr hf (.inr List.not_mem_nil)) hB (by omega) (by omega) hc (by omega) (by omega)).mono ?_
        rintro e w4 ⟨A4, c4, h1, h2, h3, h4⟩
        exact ⟨A4, c4, _, h1, ⟨rfl, ORow.sl h2, ORow.cap h2, h4⟩, h3⟩
      have HIN : Hid (∀ w3 w4 A' c' gl, Fr [] w2 w3 → Fr [] w3 w4 → NodesAt TN E w3 h 3 gl → allOf gl = gl0 → 1 ≤ gl.length → gl.length ≤ 2 → Sl w4 A' (ptrs ((ks.take 0 ++ gl ++ ks.drop 2).map (·.1))) → (∀ j, bk A' = some j → w3.heap.size ≤ j) → (ks.take 0 ++ gl ++ ks.drop 2).length ≤ c' → Calls Tryz.prog 208 #[.slice A' (ks.take 0 ++ gl ++ ks.drop 2).length c'] w4 (NodeAns E w4 (h + 1) (lo - 1) ((allOf ks).eraseIdx i))) := by
        show ∀ _, _
        intro w3 w4 A' c' gl hf hf' hgl hall g1l g2l hs hA hc'
        have hkl : (ks.take 0 ++ gl ++ ks.drop 2).length = ks.length - 2 + gl.length := by simp; omega
        rw [← HX.out gl hall]
        refine inner_node E h (lo - 1) A' c' _ w4 ((HE.out.fr HF2.out).fr (hf.trans hf')) (kp_new ((HE.out.fr HF2.out).fr hf) hs hA) hc' ?_ (by omega) (by omega) (by omega) (by rw [HX.out gl hall, List.length_eraseIdx, if_pos HI.out]; have := HSM.out; omega)
        refine NodesAt.app (NodesAt.app (fun k hk => ?_) fun k hk => ?_) fun k hk => ?_
        · exact ((HKS.out k (List.mem_of_mem_take hk)).fr0 HF2.out).fr0 (hf.trans hf')
        · exact (hgl k hk).fr0 hf'
        · exact ((HKS.out k (List.mem_of_mem_drop hk)).fr0 HF2.out).fr0 (hf.trans hf')
      obtain ⟨ad', he, hcp⟩ := sl_ptrs (HSL.out.now.fr HF2.out (.inr List.not_mem_nil)) (j := 1) (by rw [List.length_map]; omega)
      injection he with he
      subst he
      rw [List.getElem_map, show ad.add 1 = ⟨ad.block, ad.off + 1, none⟩ by simp [Addr.add]] at hcp
      obtain ⟨pg, hpg⟩ : ∃ pg, pg = (ks[1]'(by omega)).1 := ⟨_, rfl⟩
      rw [← hpg] at hcp HGL
      have HCP : Hid (∀ w', Fr [] w2 w' → w'.cell? ⟨ad.block, ad.off + 1, none⟩ = some (.pointer (some ⟨pg, 0, none⟩))) := fun w' hf => (hf.cell (World.block_lt_of_cell? _ _ hcp) (by simp)).trans hcp
      have HC2 : Hid (∀ w', Fr [] w2 w' → w'.cell? ⟨g, 0, none⟩ = some (.slice (some ad) ks.length c)) := fun w' hf => HC0.out w' (HF2.out.trans hf)
      have hnn : (n : Int) < 3 := by omega
      have H2 : Hid (Fr [] w2 w2) := Fr.refl _ _
      have hk1 : (1 : Int) < (ks.length : Int) := by omega
      clear h3 hn3 hf2 hF2 hn6 HKS HSL HN2 HN1 hgl0 hpg HX HE HI HSM
      go_wp2_with fail
      go_region_held3 (fun w' => w'.cell? ⟨g, 0, none⟩ = some (.slice (some ad) ks.length c) ∧ w'.cell? ⟨ad.block, ad.off + 1, none⟩ = some (.pointer (some ⟨pg, 0, none⟩))) (go_keep)
        (first
          | (go_at_call 205; go_must (refine (HGL.out _ H2.out.drew).mono ?_; rintro e w3 ⟨gl, B, d, rfl, hgl, hB, hBd, hNg, hf3, hg1, hg2⟩; have HGG : Hid (allOf gl = gl0 ∧ Sl w3 B (ptrs (gl.map (·.1))) ∧ NodesAt TN E w3 h 3 gl ∧ Fr [] w2 w3) := ⟨hgl, hB.now, hNg, H2.out.drew.trans hf3⟩; clear hgl hB hBd hNg hf3; have k3 := HC2.out w3 HGG.out.2.2.2; have k3' := HCP.out w3 HGG.out.2.2.2))
          | (go_at_call 204; go_must (refine (HSP.out _ B d gl HGG.out.2.2.2 HGG.out.2.1 hg2).mono ?_; rintro e w4 ⟨A4, c4, m4, rfl, hr4, hf4⟩; have HI4 := Lib.hid (HIN.out w3 w4 A4 c4 gl HGG.out.2.2.2 hf4 HGG.out.2.2.1 HGG.out.1 hg1 hg2 hr4.out.2.1 hr4.out.2.2.2 (by rw [← hr4.out.1]; exact hr4.out.2.2.1)); rw [← hr4.out.1] at HI4; have HF4 := Lib.hid (HF2.out.trans (HGG.out.2.2.2.trans hf4)); have HG4 := Lib.hid (HGG.out.2.2.2.trans hf4); have k4 := HC2.out w4 (HGG.out.2.2.2.trans hf4); have k4' := HCP.out w4 (HGG.out.2.2.2.trans hf4); clear hr4 hf4))
          | (go_at_call 208; go_must (refine HI4.out.mono ?_; rintro e w5 ⟨g5, rfl, hn5, hf5⟩; have HEND : Hid (NodeAns E w (h + 1) (lo - 1) ((allOf ks).eraseIdx i) (.returned (.pointer (some ⟨g5, 0, none⟩))) w5) := ⟨g5, rfl, hn5, HF4.out.trans hf5⟩; have k5 := HC2.out w5 (HG4.out.trans hf5); have k5' := HCP.out w5 (HG4.out.trans hf5); clear hn5 hf5)))
      all_goals go_simp
      all_goals go_wp2
      all_goals go_ret
      all_goals exact HEND.out
    · obtain ⟨p, hp⟩ : ∃ p, p = q - 1 := ⟨_, rfl⟩
      have hqp : q = p + 1 := by omega
      have hqm1 : p < ks.length := by omega
      obtain ⟨gl0, hgl0⟩ : ∃ X, X = ks[p].2 ++ ks[q].2.eraseIdx j := ⟨_, rfl⟩
      have HGL : Hid (∀ w', Fr [] w2 w' → Calls Tryz.prog 205 #[.pointer (some ⟨ks[p].1, 0, none⟩), .pointer (some ⟨g1, 0, none⟩)] w' (NodesOf E w' h 3 gl0)) := by
        show ∀ _, _
        intro w' hf
        have hlt : p < ks.length := by omega
        have hpair := pair_le ks p q hq (by omega)
        have hsm := HSM.out
        have hel : (ks[q].2.eraseIdx j).length ≤ ks[q].2.length := by rw [List.length_eraseIdx]; split <;> omega
        rw [hgl0]
        exact glue_any (lo1 := 3) (lo2 := 2) _ _ _ _ w' ((HE.out.fr HF2.out).fr hf) (((HKS.out ks[p] (List.getElem_mem hlt)).fr0 HF2.out).fr0 hf) (HN2.out.fr0 hf) (by omega) (by omega)
      have HX : Hid (∀ gl, allOf gl = gl0 → allOf (ks.take p ++ gl ++ ks.drop (q + 1)) = (allOf ks).eraseIdx i) := by
        show ∀ _, _
        intro gl hg
        rw [hgl0] at hg
        have := erase_2 ks gl q j hq0 hq HJ.out (by simp only [← hp]; exact hg)
        rw [← hp] at this
        rw [this, ← HIJ.out]
      have HSP : Hid (∀ w3 B (d : Nat) gl, Fr [] w2 w3 → Sl w3 B (ptrs (gl.map (·.1))) → gl.length ≤ 2 → Calls Tryz.prog 204 #[.slice (some ad) ks.length c, .int .i64 ((p : Nat) : Int), .int .i64 ((q : Int) + 1), .slice B gl.length d] w3 fun en w4 => ∃ A4 c4 m, en = .returned (.slice A4 m c4) ∧ Hid (m = (ks.take p ++ gl ++ ks.drop (q + 1)).length ∧ Sl w4 A4 (ptrs ((ks.take p ++ gl ++ ks.drop (q + 1)).map (·.1))) ∧ m ≤ c4 ∧ ∀ j, bk A4 = some j → w3.heap.size ≤ j) ∧ Fr [] w3 w4) := by
        show ∀ _, _
        intro w3 B d gl hf hB hg
        refine (splice_ks (some ad) B c d p (q + 1) ks gl w3 ((HSL.out.now.fr HF2.out (.inr List.not_mem_nil)).fr hf (.inr List.not_mem_nil)) hB (by omega) (by omega) hc (by omega) (by omega)).mono ?_
        rintro e w4 ⟨A4, c4, h1, h2, h3, h4⟩
        exact ⟨A4, c4, _, h1, ⟨rfl, ORow.sl h2, ORow.cap h2, h4⟩, h3⟩
      have HIN : Hid (∀ w3 w4 A' c' gl, Fr [] w2 w3 → Fr [] w3 w4 → NodesAt TN E w3 h 3 gl → allOf gl = gl0 → 1 ≤ gl.length → gl.length ≤ 2 → Sl w4 A' (ptrs ((ks.take p ++ gl ++ ks.drop (q + 1)).map (·.1))) → (∀ j, bk A' = some j → w3.heap.size ≤ j) → (ks.take p ++ gl ++ ks.drop (q + 1)).length ≤ c' → Calls Tryz.prog 208 #[.slice A' (ks.take p ++ gl ++ ks.drop (q + 1)).length c'] w4 (NodeAns E w4 (h + 1) (lo - 1) ((allOf ks).eraseIdx i))) := by
        show ∀ _, _
        intro w3 w4 A' c' gl hf hf' hgl hall g1l g2l hs hA hc'
        have hkl : (ks.take p ++ gl ++ ks.drop (q + 1)).length = ks.length - 2 + gl.length := by simp; omega
        rw [← HX.out gl hall]
        refine inner_node E h (lo - 1) A' c' _ w4 ((HE.out.fr HF2.out).fr (hf.trans hf')) (kp_new ((HE.out.fr HF2.out).fr hf) hs hA) hc' ?_ (by omega) (by omega) (by omega) (by rw [HX.out gl hall, List.length_eraseIdx, if_pos HI.out]; have := HSM.out; omega)
        refine NodesAt.app (NodesAt.app (fun k hk => ?_) fun k hk => ?_) fun k hk => ?_
        · exact ((HKS.out k (List.mem_of_mem_take hk)).fr0 HF2.out).fr0 (hf.trans hf')
        · exact (hgl k hk).fr0 hf'
        · exact ((HKS.out k (List.mem_of_mem_drop hk)).fr0 HF2.out).fr0 (hf.trans hf')
      obtain ⟨ad', he, hcp⟩ := sl_ptrs (HSL.out.now.fr HF2.out (.inr List.not_mem_nil)) (j := p) (by rw [List.length_map]; omega)
      injection he with he
      subst he
      rw [List.getElem_map] at hcp
      obtain ⟨pg, hpg⟩ : ∃ pg, pg = (ks[p]'(by omega)).1 := ⟨_, rfl⟩
      rw [← hpg] at hcp HGL
      have HCP : Hid (∀ w', Fr [] w2 w' → w'.cell? (ad.add p) = some (.pointer (some ⟨pg, 0, none⟩))) := fun w' hf => (hf.cell (World.block_lt_of_cell? _ _ hcp) (by simp)).trans hcp
      have HC2 : Hid (∀ w', Fr [] w2 w' → w'.cell? ⟨g, 0, none⟩ = some (.slice (some ad) ks.length c)) := fun w' hf => HC0.out w' (HF2.out.trans hf)
      have hnn : (n : Int) < 3 := by omega
      have H2 : Hid (Fr [] w2 w2) := Fr.refl _ _
      have hqm : (q : Int) - 1 = ((p : Nat) : Int) := by omega
      have hqm2 : ((p : Nat) : Int) < (ks.length : Int) := by omega
      have hq0' : (0 : Int) < (q : Int) := by omega
      have hw1 : IntKind.i64.wrap ((q : Int) - 1) = ((p : Nat) : Int) := by rw [hqm]; exact IntWalk.i64_in _ (by omega)
      have hw2 : IntKind.i64.wrap ((q : Int) + 1) = (q : Int) + 1 := IntWalk.i64_in _ (by omega)
      have hp0 : (0 : Int) ≤ ((p : Nat) : Int) := by omega
      have hw3 : IntKind.i64.wrap ((p : Nat) : Int) = ((p : Nat) : Int) := IntWalk.i64_in _ (by omega)
      clear hq0 hp hqp
      clear h3 hn3 hf2 hF2 hn6 HKS HSL HN2 HN1 hgl0 hpg HX HE HI HSM
      go_wp2_with fail
      go_region_held3 (fun w' => w'.cell? ⟨g, 0, none⟩ = some (.slice (some ad) ks.length c) ∧ w'.cell? (ad.add p) = some (.pointer (some ⟨pg, 0, none⟩))) (go_keep)
        (first
          | (go_at_call 205; go_must (refine (HGL.out _ H2.out.drew).mono ?_; rintro e w3 ⟨gl, B, d, rfl, hgl, hB, hBd, hNg, hf3, hg1, hg2⟩; have HGG : Hid (allOf gl = gl0 ∧ Sl w3 B (ptrs (gl.map (·.1))) ∧ NodesAt TN E w3 h 3 gl ∧ Fr [] w2 w3) := ⟨hgl, hB.now, hNg, H2.out.drew.trans hf3⟩; clear hgl hB hBd hNg hf3; have k3 := HC2.out w3 HGG.out.2.2.2; have k3' := HCP.out w3 HGG.out.2.2.2))
          | (go_at_call 204; go_must (refine (HSP.out _ B d gl HGG.out.2.2.2 HGG.out.2.1 hg2).mono ?_; rintro e w4 ⟨A4, c4, m4, rfl, hr4, hf4⟩; have HI4 := Lib.hid (HIN.out w3 w4 A4 c4 gl HGG.out.2.2.2 hf4 HGG.out.2.2.1 HGG.out.1 hg1 hg2 hr4.out.2.1 hr4.out.2.2.2 (by rw [← hr4.out.1]; exact hr4.out.2.2.1)); rw [← hr4.out.1] at HI4; have HF4 := Lib.hid (HF2.out.trans (HGG.out.2.2.2.trans hf4)); have HG4 := Lib.hid (HGG.out.2.2.2.trans hf4); have k4 := HC2.out w4 (HGG.out.2.2.2.trans hf4); have k4' := HCP.out w4 (HGG.out.2.2.2.trans hf4); clear hr4 hf4))
          | (go_at_call 208; go_must (refine HI4.out.mono ?_; rintro e w5 ⟨g5, rfl, hn5, hf5⟩; have HEND : Hid (NodeAns E w (h + 1) (lo - 1) ((allOf ks).eraseIdx i) (.returned (.pointer (some ⟨g5, 0, none⟩))) w5) := ⟨g5, rfl, hn5, HF4.out.trans hf5⟩; have k5 := HC2.out w5 (HG4.out.trans hf5); have k5' := HCP.out w5 (HG4.out.trans hf5); clear hn5 hf5)))
      all_goals go_simp
      all_goals go_wp2
      all_goals go_ret
      all_goals exact HEND.out
end Go.Proofs.YtblafakafgediaaGreat
namespace Go.Proofs.YtblafakafgediaaGreat
open Go.RowKit Go.Proofs.Dm

theorem take_any (E : List (Option Nat)) (w : World) (hE : Old E w) : ∀ (h lo g : Nat) (xs : List RV) (i : Nat), NodeAt TN E w h lo g xs → (0 < h → 2 ≤ lo) → i < xs.length → xs.length ≤ 1000000 →
    Calls Tryz.prog 184 #[.pointer (some ⟨g, 0, none⟩), .int .i64 (i : Nat)] w (NodeAns E w h (lo - 1) (xs.eraseIdx i))
  | 0, lo, g, xs, i, hn, _, hi, _ => take_leaf E lo g xs i w hE hn hi
  | h + 1, lo, g, xs, i, hn, hlo, hi, hsm => take_inner E h lo g xs i w hE hn (hlo (Nat.succ_pos h)) hi hsm fun g xs i hn hi hsm => take_any E w hE h 3 g xs i hn (fun _ => by omega) hi hsm
/-- A tree, and whether there was such a thing. -/
def TreeOk (E : List (Option Nat)) (w : World) (xs : List RV) (ok : Bool) (en : Ending) (w' : World) : Prop := ∃ p, en = .returned (.tuple #[.agg #[.pointer p], .bool ok]) ∧ TreeAt TN E w' p xs ∧ Fr [] w w'
theorem old_box1 {E : List (Option Nat)} {w : World} (h : Old E w) {wr : World} (hf : Fr [] w wr) {b : Nat} (hl : b < wr.heap.size) : Old (some b :: E) wr := fun k hk => by
  rcases List.mem_cons.1 hk with h' | h'
  · injection h' with h'; omega
  · have := h k h'; have := hf.size; omega
set_option maxHeartbeats 800000 in
theorem delete_no (E : List (Option Nat)) (p : Option Addr) (xs : List RV) (i : Int) (w : World) (ht : TreeAt TN E w p xs) (hE : Old E w) (hi : ¬ (0 ≤ i ∧ i < (xs.length : Nat))) :
    Calls Tryz.prog 143 #[.agg #[.pointer p], .int .i64 i] w (TreeOk E w xs false) := by
  have HH : Hid (∀ w', Fr [] w w' → Calls Tryz.prog 177 #[.agg #[.pointer p], .int .i64 i] w' fun e w'' => e = .returned (.bool false) ∧ Fr [] w' w'') := by
    show ∀ _, _
    intro w' hf
    refine (has_any E p xs i w' (ht.fr0 hf)).mono ?_
    rintro e w'' ⟨h1, h2⟩
    exact ⟨by rw [h1, decide_eq_false hi], h2⟩
  have H0 : Hid (Fr [] w ((w.alloc (.cells #[.pointer p] 31)).alloc (.cells #[.pointer none] 31))) := ((Fr.refl [] w).alloc _).alloc _
  have HB1 : Hid (Blk ((w.alloc (.cells #[.pointer p] 31)).alloc (.cells #[.pointer none] 31)) w.heap.size 31 #[.pointer p]) := (Blk.new w _ _).alloc _
  have HB2 : Hid (Blk ((w.alloc (.cells #[.pointer p] 31)).alloc (.cells #[.pointer none] 31)) (w.heap.size + 1) 31 #[.pointer none]) := by
    have := Blk.new (w.alloc (.cells #[.pointer p] 31)) 31 #[.pointer none]
    show Blk _ _ _ _
    simpa using this
  have HT : Hid (∀ w1 u, Fr [] w w1 → TreeAt TN E (w1.setCell ⟨w.heap.size + 1, 0, none⟩ u) p xs) := by
    show ∀ _, _
    intro w1 u hf
    exact box_out (ht.grow hf.of_nil fun k hk => by
      rcases List.mem_cons.1 hk with h | h
      · injection h with h; exact .inr (by omega)
      · exact .inl h) 0 u
  clear ht hi hE
  go_enter Tryz.func143, Tryz.ntmps143
  go_wp2_with fail
  refine (HH.out _ H0.out).mono ?_
  rintro e w1 ⟨rfl, hf1⟩
  have hb1 := HB1.out.fr hf1 (by simp)
  have hb2 := HB2.out.fr hf1 (by simp)
  have HF1 := Lib.hid (H0.out.trans hf1)
  have d0 : w1.cell? ⟨w.heap.size, 0, none⟩ = some (.pointer p) := hb1.cell 0
  have e0 : w1.cell? ⟨w.heap.size + 1, 0, none⟩ = some (.pointer none) := hb2.cell 0
  have f0 := hb2.frozen 0
  have hlt := hb2.lt
  clear hf1 hb1 hb2 HB1 HB2 HH
  go_wp2_with fail
  refine bodyPost_ret (v := .tuple #[.agg #[.pointer p], .bool false]) (by simp [results, Tryz.results143, go_sem, e0, f0, hlt]) rfl ⟨p, rfl, HT.out _ _ HF1.out, ?_⟩
  exact HF1.out.setB (g := w.heap.size + 1) (by omega) 0 _
set_option maxHeartbeats 800000 in
theorem delete_yes (E : List (Option Nat)) (p : Option Addr) (xs : List RV) (i : Nat) (w : World) (ht : TreeAt TN E w p xs) (hE : Old E w) (hi : i < xs.length) (hn : xs.length ≤ 100000) :
    Calls Tryz.prog 143 #[.agg #[.pointer p], .int .i64 (i : Nat)] w (TreeOk E w (xs.eraseIdx i) true) := by
  have HH : Hid (∀ w', Fr [] w w' → Calls Tryz.prog 177 #[.agg #[.pointer p], .int .i64 (i : Nat)] w' fun e w'' => e = .returned (.bool true) ∧ Fr [] w' w'') := by
    show ∀ _, _
    intro w' hf
    refine (has_any E p xs (i : Nat) w' (ht.fr0 hf)).mono ?_
    rintro e w'' ⟨h1, h2⟩
    exact ⟨by rw [h1, decide_eq_true (by omega)], h2⟩
  have H0 : Hid (Fr [] w ((w.alloc (.cells #[.pointer p] 31)).alloc (.cells #[.pointer none] 31))) := ((Fr.refl [] w).alloc _).alloc _
  have HB1 : Hid (Blk ((w.alloc (.cells #[.pointer p] 31)).alloc (.cells #[.pointer none] 31)) w.heap.size 31 #[.pointer p]) := (Blk.new w _ _).alloc _
  have HB2 : Hid (Blk ((w.alloc (.cells #[.pointer p] 31)).alloc (.cells #[.pointer none] 31)) (w.heap.size + 1) 31 #[.pointer none]) := by
    have := Blk.new (w.alloc (.cells #[.pointer p] 31)) 31 #[.pointer none]
    show Blk _ _ _ _
    simpa using this
  rcases ht with ⟨rfl, rfl⟩ | ⟨g, h, rfl, hnd⟩
  · simp at hi
  obtain ⟨E2, hE2⟩ : ∃ E2, E2 = some (w.heap.size + 1) :: E := ⟨_, rfl⟩
  have HTK : Hid (∀ w1, Fr [] w w1 → w.heap.size + 1 < w1.heap.size → Calls Tryz.prog 184 #[.pointer (some ⟨g, 0, none⟩), .int .i64 (i : Nat)] w1 (NodeAns E2 w1 h (rootLo h - 1) (xs.eraseIdx i))) := by
    show ∀ _, _
    intro w1 hf hl
    rw [hE2]
    refine take_any _ w1 (old_box1 hE hf hl) h (rootLo h) g xs i (NodeAt.grow hf.of_nil (fun k hk => ?_) _ _ _ _ hnd) (fun hh => ?_) hi (by omega)
    · rcases List.mem_cons.1 hk with h | h
      · injection h with h; exact .inr (by omega)
      · exact .inl h
    · cases h with
      | zero => omega
      | succ h => exact Nat.le_refl 2
  have HAB : Hid (∀ w1 w2 g', Fr [] w w1 → w.heap.size + 1 < w1.heap.size → NodeAt TN E2 w1 h (rootLo h - 1) g' (xs.eraseIdx i) → Fr [] w1 w2 → w2 = w1.alloc (.cells #[.pointer (some ⟨g', 0, none⟩)] 29) → Calls Tryz.prog 151 #[.slice (some ⟨w1.heap.size, 0, none⟩) 1 1] w2 (TreeAns E2 w2 (xs.eraseIdx i))) := by
    show ∀ _, _
    intro w1 w2 g' hf hl hn' hf2 hw2
    have hB : Sl w2 (some ⟨w1.heap.size, 0, none⟩) (ptrs [g']) := by rw [hw2]; exact sl_new w1 _ _
    have hold := old_box1 hE (hf.trans hf2) (b := w.heap.size + 1) (by have := hf2.size; omega)
    have hold1 := old_box1 hE hf (b := w.heap.size + 1) hl
    rw [← hE2] at hold hold1
    have := above_any E2 (some ⟨w1.heap.size, 0, none⟩) 1 h [(g', xs.eraseIdx i)] w2 hold (Kp.sl hB (.inr (hold1.new (Nat.le_refl _)))) (Nat.le_refl _) (by simp) (fun k hk => by rw [List.mem_singleton] at hk; subst hk; exact (hn'.less (Nat.zero_le _)).fr0 hf2) (fun h2 => by simp at h2) (by rw [allOf_one]; show (xs.eraseIdx i).length ≤ _; rw [List.length_eraseIdx]; split <;> omega)
    rw [allOf_one] at this
    exact this
  have HOUT : Hid (∀ w2 p u, TreeAt TN E2 w2 p (xs.eraseIdx i) → TreeAt TN E (w2.setCell ⟨w.heap.size + 1, 0, none⟩ u) p (xs.eraseIdx i)) := by
    show ∀ _, _
    intro w2 p u ht2
    rw [hE2] at ht2
    exact box_out ht2 0 u
  obtain ⟨ys, hys⟩ : ∃ ys, ys = xs.eraseIdx i := ⟨_, rfl⟩
  rw [← hys] at HTK HAB HOUT ⊢
  clear hnd hE hi hn hE2 hys
  go_enter Tryz.func143, Tryz.ntmps143
  go_wp2_with fail
  refine (HH.out _ H0.out).mono ?_
  rintro e w1 ⟨rfl, hf1⟩
  have hb1 := HB1.out.fr hf1 (by simp)
  have hb2 := HB2.out.fr hf1 (by simp)
  have HF1 := Lib.hid (H0.out.trans hf1)
  have d0 : w1.cell? ⟨w.heap.size, 0, none⟩ = some (.pointer (some ⟨g, 0, none⟩)) := hb1.cell 0
  have hlt := hb2.lt
  have HB := Lib.hid hb2
  clear hf1 hb1 hb2 HB1 HB2 HH
  go_wp2_with fail
  refine (HTK.out w1 HF1.out hlt).mono ?_
  rintro e w2 ⟨g', rfl, hn', hf2⟩
  have HA := Lib.hid (HAB.out w2 _ g' (HF1.out.trans hf2) (Nat.lt_of_lt_of_le hlt hf2.size) hn' ((Fr.refl [] w2).alloc _) rfl)
  have HF2 := Lib.hid (HF1.out.trans (hf2.trans ((Fr.refl [] w2).alloc (.cells #[.pointer (some ⟨g', 0, none⟩)] 29))))
  have HB2 := Lib.hid (HB.out.fr (hf2.trans ((Fr.refl [] w2).alloc (.cells #[.pointer (some ⟨g', 0, none⟩)] 29))) (by simp))
  clear hn' hf2 HTK HAB HB hlt d0
  go_wp2_with fail
  refine HA.out.mono ?_
  rintro e w3 ⟨p3, rfl, ht3, hf3⟩
  have hb3 := HB2.out.fr hf3 (by simp)
  have e0 : w3.cell? ⟨w.heap.size + 1, 0, none⟩ = some (.pointer none) := hb3.cell 0
  have f0 := hb3.frozen 0
  have hlt := hb3.lt
  have HT3 := Lib.hid ht3
  have HF3 := Lib.hid (HF2.out.trans hf3)
  clear hb3 ht3 hf3 HA HB2 HF2
  go_wp2_with fail
  refine bodyPost_ret (v := .tuple #[.agg #[.pointer p3], .bool true]) (by simp [results, Tryz.results143, go_sem, e0, f0, hlt]) rfl ⟨p3, rfl, HOUT.out _ _ _ HT3.out, ?_⟩
  exact HF3.out.setB (g := w.heap.size + 1) (by omega) 0 _
end Go.Proofs.YtblafakafgediaaGreat
