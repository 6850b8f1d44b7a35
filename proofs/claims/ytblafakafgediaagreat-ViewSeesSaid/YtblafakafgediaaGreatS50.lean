import Derived.Test.YtblafakafgediaaGreatS49
import Derived.Test.YtblafakafgediaaGreatS42
import Derived.Test.YtblafakafgediaaGreatS46
namespace Go.Proofs.YtblafakafgediaaGreat
open Go.RowKit Go.Proofs.Dm

structure SPt (W1 w : World) (l : List (List UInt8)) (C : Option Addr) (c n : Nat) : Prop where
  own : ORow w 9 1 C c n (strV l)
  ln : n = l.length
  fr : Fr [] W1 w
  nw : ∀ k, bk C = some k → W1.heap.size ≤ k
theorem SPt.nil_ (W : World) : SPt W W [] none 0 0 := ⟨ORow.nil_ W _ 1, rfl, Fr.refl _ _, fun k hk => (by cases hk)⟩
section
variable {W1 w w' wa w5 : World} {l : List (List UInt8)} {C C2 : Option Addr} {c c2 n : Nat} {v : List UInt8}
theorem SPt.fr0 (h : SPt W1 w l C c n) (hf : Fr [] w w') : SPt W1 w' l C c n := ⟨ORow.fr h.own hf (.inr List.not_mem_nil), h.ln, h.fr.trans hf, h.nw⟩
theorem SPt.add (h : SPt W1 w l C c n) (ha : Fr [] w wa) (hr : ORow w5 9 1 C2 c2 (n + 1) (strV l ++ [.string ⟨v.toArray⟩])) (hg : Fr [bk C] wa w5) (hb : bk C2 = bk C ∨ bk C2 = some wa.heap.size) : SPt W1 w5 (l ++ [v]) C2 c2 (n + 1) := by
  have hs := h.fr.size
  have hsa := ha.size
  refine ⟨?_, by rw [List.length_append, h.ln]; rfl, (h.fr.trans ha).seq hg fun x hx => ?_, fun k hk => ?_⟩
  · unfold strV at hr ⊢
    rw [List.map_append]
    exact hr
  · rw [List.mem_singleton] at hx
    subst hx
    cases hB : bk C with
    | none => exact .inr (.inl rfl)
    | some k => exact .inr (.inr ⟨k, h.nw k hB, rfl⟩)
  · rcases hb with e | e
    · exact h.nw k (e ▸ hk)
    · rw [e] at hk; injection hk with hk; omega
end
def dtxP (ds : List RD) (r : Int) (left m : Nat) : List (List UInt8) := (List.range m).map fun k => ((datP ds r ((left + k : Nat) : Int)).getD DC.none).S
theorem dtxP_len (ds : List RD) (r : Int) (left m : Nat) : (dtxP ds r left m).length = m := by simp [dtxP]
theorem dtxP_at (ds : List RD) (r : Int) (left m k : Nat) (h : k < m) : (dtxP ds r left m).take (k + 1) = (dtxP ds r left m).take k ++ [((datP ds r ((left + k : Nat) : Int)).getD DC.none).S] := by
  rw [List.take_succ_eq_append_getElem (by rw [dtxP_len]; exact h)]
  congr 2
  simp [dtxP]
set_option maxRecDepth 100000 in
set_option maxHeartbeats 3200000 in
theorem dtexts_any (w : World) (x : GD) (xs : List RV) (top left h wid m : Nat) (hd : DGr x xs w) (h4 : h ≤ 400) (ht : top ≤ 2 ^ 50) (hl : left ≤ 2 ^ 50) (hw : wid ≤ 40) (hm : m = min wid (40 - left)) :
    Calls Tryz.prog 25 #[.agg #[.int .i64 (top : Nat), .int .i64 (left : Nat), .int .i64 (h : Nat), .int .i64 (wid : Nat)], .agg #[.slice x.B x.m x.d, .bool x.t, .int .i64 x.e]] w
      (TextsV w ((RowsI xs (min top xs.length) h).map fun r => dtxP x.rs r left m)) := by
  obtain ⟨W1, hW1⟩ : ∃ W1, W1 = (w.alloc (.cells #[.int .i64 (top : Nat), .int .i64 (left : Nat), .int .i64 (h : Nat), .int .i64 (wid : Nat)] 24)).alloc (.cells #[.slice x.B x.m x.d, .bool x.t, .int .i64 x.e] TD11) := ⟨_, rfl⟩
  obtain ⟨VB, hVB⟩ : ∃ VB, VB = w.heap.size := ⟨_, rfl⟩
  obtain ⟨GB, hGB⟩ : ∃ GB, GB = w.heap.size + 1 := ⟨_, rfl⟩
  have HF : Hid (Fr [] w W1 ∧ Blk W1 VB 24 #[.int .i64 (top : Nat), .int .i64 (left : Nat), .int .i64 (h : Nat), .int .i64 (wid : Nat)] ∧ Blk W1 GB TD11 #[.slice x.B x.m x.d, .bool x.t, .int .i64 x.e]) := by
    have b1 := Blk.new (w.alloc (.cells #[.int .i64 (top : Nat), .int .i64 (left : Nat), .int .i64 (h : Nat), .int .i64 (wid : Nat)] 24)) TD11 #[.slice x.B x.m x.d, .bool x.t, .int .i64 x.e]
    simp only [World.size_alloc] at b1
    rw [hW1, hVB, hGB]
    exact ⟨((Fr.refl [] w).alloc _).alloc _, (Blk.new w _ _).alloc _, b1⟩
  have HC : Hid (∀ w', Fr [] W1 w' → w'.cell? ⟨VB, 0, none⟩ = some (.int .i64 (top : Nat)) ∧ w'.cell? ⟨VB, 1, none⟩ = some (.int .i64 (left : Nat)) ∧ w'.cell? ⟨VB, 2, none⟩ = some (.int .i64 (h : Nat)) ∧ w'.cell? ⟨VB, 3, none⟩ = some (.int .i64 (wid : Nat)) ∧ w'.cell? ⟨GB, 0, none⟩ = some (.slice x.B x.m x.d) ∧ w'.cell? ⟨GB, 1, none⟩ = some (.bool x.t) ∧ w'.cell? ⟨GB, 2, none⟩ = some (.int .i64 x.e)) := by
    show ∀ _, _
    intro w' hf
    have h1 := HF.out.2.1.fr hf (by simp)
    have h2 := HF.out.2.2.fr hf (by simp)
    exact ⟨h1.cell 0, h1.cell 1, h1.cell 2, h1.cell 3, h2.cell 0, h2.cell 1, h2.cell 2⟩
  obtain ⟨L, hL⟩ : ∃ L, L = RowsI xs (min top xs.length) h := ⟨_, rfl⟩
  have HRW : Hid (Calls Tryz.prog 22 #[.agg #[.int .i64 (top : Nat), .int .i64 (left : Nat), .int .i64 (h : Nat), .int .i64 (wid : Nat)], .agg #[.slice x.B x.m x.d, .bool x.t, .int .i64 x.e]] W1 (IntsN W1 L)) := by
    show Calls _ _ _ _ _
    rw [hL]
    exact drows_any W1 x xs top h left wid (hd.fr0 HF.out.1) h4 ht
  have HAT : Hid (∀ w' r c, Fr [] W1 w' → Calls Tryz.prog 56 #[.agg #[.slice x.B x.m x.d, .bool x.t, .int .i64 x.e], .int .i64 r, .int .i64 c] w' (DAtAns x.rs r c w')) := by
    show ∀ _, _
    intro w' r c hf
    exact dat_any w' x r c ((hd.fr0 HF.out.1).fr0 hf).gd (by have := hd.n4; omega) (fun r hr => by have := hd.r4 r hr; omega)
  have HLL : Hid (L.length ≤ 400) := by rw [hL]; have := rowsI_len xs (min top xs.length) h; show _ ≤ _; omega
  rw [← hL]
  obtain ⟨xB, xm, xd, xrs, xt, xe⟩ := x
  simp only at HC hW1 HF HAT HRW ⊢
  have HW1 := Lib.hid hW1
  have HM : Hid (m = min wid (40 - left) ∧ left ≤ 2 ^ 50 ∧ wid ≤ 40) := ⟨hm, hl, hw⟩
  have hlw : IntKind.i64.wrap ((left : Int) + (wid : Int)) = (left : Int) + (wid : Int) := IntWalk.i64_in _ (by omega)
  clear hL hW1 hd h4 ht hm hl hw
  go_enter Tryz.func25, Tryz.ntmps25
  go_wp2_with fail
  rw [← HW1.out, ← hGB, ← hVB]
  obtain ⟨v0, v1, v2, v3, g0, g1, g2⟩ := HC.out W1 (Fr.refl _ _)
  clear hVB hGB
  go_wp2_with fail
  refine HRW.out.mono ?_
  rintro en w2 ⟨B2, n2, c2, rfl, hn2, hs2, hf2, _⟩
  have HS2 : Hid (Sl w2 B2 (intsV L) ∧ n2 = L.length ∧ Fr [] W1 w2) := ⟨hs2, hn2, hf2⟩
  have hn6 : (n2 : Int) ≤ 400 := by have := HLL.out; omega
  clear v0 v1 v2 v3 g0 g1 g2 hn2 hs2 hf2 HRW
  go_wp2_with fail
  go_loopg [5, 16] n2 (fun k ov iv wr => ∃ (j e : Nat) (C : Option Addr), k + j = n2 ∧ ov = .slice C j e ∧ iv = .int .i64 j ∧ Hid (∃ ps : List Part, TXs w2 wr C e j ps ∧ ps.map (·.cs) = (L.take j).map (fun r => strV (dtxP xrs r left m)) ∧ ∀ p ∈ ps, p.n = p.cs.length))
  case atStart => exact ⟨0, 0, none, by omega, rfl, rfl, [], ⟨ORow.nil_ _ _ _, fun p hp => (by simp at hp), Fr.refl _ _, fun j hj => (by cases hj)⟩, rfl, fun p hp => (by simp at hp)⟩
  case round =>
    obtain ⟨j, e, C, hj, rfl, rfl, HJ⟩ := hrel
    have HFJ : Hid (Fr [] w2 wr) := by obtain ⟨ps, h, _⟩ := HJ.out; exact h.fr
    by_cases hlt : j < n2
    · have hil : j < L.length := by rw [← HS2.out.2.1]; exact hlt
      obtain ⟨ad, rfl, hcell⟩ := intsV_at (HS2.out.1.fr HFJ.out (.inr List.not_mem_nil)) hil
      obtain ⟨r, hr⟩ : ∃ r, r = L[j] := ⟨_, rfl⟩
      rw [← hr] at hcell
      have HTK : Hid ((L.take (j + 1)).map (fun r => strV (dtxP xrs r left m)) = (L.take j).map (fun r => strV (dtxP xrs r left m)) ++ [strV (dtxP xrs r left m)]) := by
        show _ = _
        rw [List.take_succ_eq_append_getElem hil, ← hr, List.map_append]
        rfl
      have hj0 : (0 : Int) ≤ (j : Int) := by omega
      have hj1 : (j : Int) < (n2 : Int) := by omega
      obtain ⟨wo, hwo⟩ : ∃ wo, wo = wr := ⟨_, rfl⟩
      rw [← hwo] at HJ HFJ hcell ⊢
      clear hwo
      have HFO : Hid (Fr [] W1 wo) := HS2.out.2.2.trans HFJ.out
      obtain ⟨v0, v1, v2, v3, g0, g1, g2⟩ := HC.out wo HFO.out
      have HLT : Hid (j < n2) := hlt
      clear hr hil v0 v2 v3 g0 g1 g2 hlt
      go_wp2_with fail
      clear v1
      go_loopg [8, 9] m (fun k lv cv wr => ∃ (q cc e2 : Nat) (D : Option Addr), k + q = m ∧ lv = .slice D q e2 ∧ cv = .int .i64 cc ∧ Hid (cc = left + q ∧ SPt wo wr ((dtxP xrs r left m).take q) D e2 q))
      case atStart => exact ⟨0, left, 0, none, by omega, rfl, rfl, rfl, SPt.nil_ _⟩
      case round =>
        obtain ⟨q, cc, e2, D, hq, rfl, rfl, HI⟩ := hrel
        obtain ⟨v0, v1, v2, v3, g0, g1, g2⟩ := HC.out wr (HFO.out.trans HI.out.2.fr)
        clear v0 v2
        by_cases hqm : q < m
        · have HAC := Lib.hid (HAT.out wr r (cc : Int) (HFO.out.trans HI.out.2.fr))
          have hc1 : (cc : Int) < (left : Int) + (wid : Int) := by have h1 := HM.out; have h2 := HI.out.1; omega
          have hc2 : (cc : Int) < 40 := by have h1 := HM.out; have h2 := HI.out.1; omega
          have HQ : Hid (q < m ∧ m ≤ 40) := ⟨hqm, by have := HM.out; omega⟩
          clear hqm
          go_wp2_with fail
          refine HAC.out.mono ?_
          rintro en w3 ⟨S, R, kp, rfl, hdat, hf3⟩
          obtain ⟨bb, hbb⟩ : ∃ bb, bb = (datP xrs r (cc : Int)).isSome := ⟨_, rfl⟩
          rw [← hbb]
          have HTS : Hid ((dtxP xrs r left m).take (q + 1) = (dtxP xrs r left m).take q ++ [S]) := by
            show _ = _
            rw [dtxP_at _ _ _ _ _ HQ.out.1, ← HI.out.1, hdat]
          have HF3 := Lib.hid hf3
          clear hf3 hdat hbb v1 v3 g0 g1 g2 HAC
          go_wp2_with (at_builtin; go_must (
            refine wpList_app _ rfl _ _ 128 9 rfl (Value.string ⟨#[]⟩) 1 16 Tryz.underlying128 infoStr rfl (by decide) D e2 q (strV ((dtxP xrs r left m).take q)) rfl (ORow.fr HI.out.2.own (((HF3.out).alloc _).alloc _) (.inr List.not_mem_nil)) _ 1 1 [.string ⟨S.toArray⟩] rfl rfl (sl_new2 w3 _ _ 9) (by simp [Value.oneCell']) (by have := HQ.out; simp only [maxLen]; omega) (by have := HQ.out; omega) ?_
            intro D2 d2 w5 hr2 hg2 hb2
            have HX5 := Lib.hid (HI.out.2.add ((HF3.out.alloc _).alloc _) hr2 hg2 hb2)
            clear hr2 hg2 hb2))
          go_roundg (m - (q + 1))
          case rel => exact ⟨q + 1, cc + 1, d2, D2, by have := HQ.out; omega, rfl, by go_num, by have := HI.out.1; omega, by rw [HTS.out]; exact HX5.out⟩
          case measure => have := HQ.out; omega
        · obtain rfl : q = m := by omega
          have HSE : Hid (SPt wo wr (dtxP xrs r left q) D e2 q) := by
            have h1 := HI.out.2
            rwa [List.take_of_length_le (by rw [dtxP_len]; exact Nat.le_refl _)] at h1
          have HCC : Hid (cc = left + q) := HI.out.1
          clear g0 g1 g2 hqm HI
          have HM4 : Hid (q ≤ 40) := by have := HM.out; show _ ≤ _; omega
          have HJ4 : Hid (j ≤ 400) := by have := HLT.out; show _ ≤ _; omega
          obtain ⟨ps, hps⟩ := HJ.out
          have HPS := Lib.hid hps
          have HOW : Hid (ORow wo 128 1 C e j (partV ps)) := hps.1.own
          have HAP : Hid (∀ C6 c6 w6, ORow w6 128 1 C6 c6 (j + 1) (partV ps ++ [.slice D q e2]) → Fr [bk C] (wr.alloc (.cells #[.slice D q e2] 128)) w6 → (bk C6 = bk C ∨ bk C6 = some (wr.alloc (.cells #[.slice D q e2] 128)).heap.size) → ∃ ps : List Part, TXs w2 w6 C6 c6 (j + 1) ps ∧ ps.map (·.cs) = (L.take (j + 1)).map (fun r => strV (dtxP xrs r left q)) ∧ ∀ p ∈ ps, p.n = p.cs.length) := by
            show ∀ _, _
            intro C6 c6 w6 h1 h2 h3
            refine ⟨ps ++ [⟨D, q, e2, strV (dtxP xrs r left q)⟩], (HPS.out.1.fr0 HSE.out.fr).app (p := ⟨D, q, e2, strV (dtxP xrs r left q)⟩) ((Fr.refl [] wr).alloc _) (ORow.fr HSE.out.own ((Fr.refl [] wr).alloc _) (.inr List.not_mem_nil)) h1 h2 h3, ?_, fun p hp => ?_⟩
            · rw [HTK.out, List.map_append, HPS.out.2.1]
              rfl
            · rcases List.mem_append.1 hp with h | h
              · exact HPS.out.2.2 p h
              · rw [List.mem_singleton] at h
                rw [h]
                show q = (strV _).length
                rw [strV_len, dtxP_len]
          clear hps
          by_cases hc1 : (cc : Int) < (left : Int) + (wid : Int)
          · have hc2 : ¬ (cc : Int) < 40 := by have h1 := HM.out; have h2 := HCC.out; omega
            go_wp2_with (at_builtin; go_must (
              refine wpList_app _ rfl _ _ 56 128 rfl (Value.slice none 0 0) 1 24 Tryz.underlying56 infoTS rfl (by decide) C e j _ rfl (ORow.fr (HOW.out) ((HSE.out.fr).alloc _) (.inr List.not_mem_nil)) _ 1 1 [.slice D q e2] rfl rfl (sl_new wr _ _) (by simp [Value.oneCell']) (by have := HJ4.out; simp only [maxLen]; omega) (by have := HJ4.out; omega) ?_
              intro C6 c6 w6 hr6 hg6 hb6
              have HN6 := Lib.hid (HAP.out C6 c6 w6 hr6 hg6 hb6)
              clear hr6 hg6 hb6))
            go_roundg (n2 - (j + 1))
            case rel => exact ⟨j + 1, c6, C6, by have := HLT.out; omega, rfl, by go_num, HN6.out⟩
            case measure => have := HLT.out; omega
          · go_wp2_with (at_builtin; go_must (
              refine wpList_app _ rfl _ _ 56 128 rfl (Value.slice none 0 0) 1 24 Tryz.underlying56 infoTS rfl (by decide) C e j _ rfl (ORow.fr (HOW.out) ((HSE.out.fr).alloc _) (.inr List.not_mem_nil)) _ 1 1 [.slice D q e2] rfl rfl (sl_new wr _ _) (by simp [Value.oneCell']) (by have := HJ4.out; simp only [maxLen]; omega) (by have := HJ4.out; omega) ?_
              intro C6 c6 w6 hr6 hg6 hb6
              have HN6 := Lib.hid (HAP.out C6 c6 w6 hr6 hg6 hb6)
              clear hr6 hg6 hb6))
            go_roundg (n2 - (j + 1))
            case rel => exact ⟨j + 1, c6, C6, by have := HLT.out; omega, rfl, by go_num, HN6.out⟩
            case measure => have := HLT.out; omega
    · obtain rfl : j = n2 := by omega
      have HE : Hid (TextsV w (L.map fun r => dtxP xrs r left m) (.returned (.slice C j e)) wr) := by
        obtain ⟨ps, h1, h2, h3⟩ := HJ.out
        rw [List.take_of_length_le (by rw [HS2.out.2.1]; exact Nat.le_refl _)] at h2
        have hl := h1.own.1
        unfold partV at hl
        rw [List.length_map, Nat.mul_one] at hl
        exact ⟨C, j, e, ps, rfl, hl.symm, by rw [h2, List.map_map]; rfl, h3, ORow.sl h1.own, fun p hp => ORow.sl (h1.b p hp), (HF.out.1.trans HS2.out.2.2).trans h1.fr⟩
      clear HJ
      go_wp2_with fail
      go_ret
      exact HE.out
end Go.Proofs.YtblafakafgediaaGreat
namespace Go.Proofs.YtblafakafgediaaGreat
open Go.RowKit Go.Proofs.Dm

theorem fits_no (w : World) (a k : Nat) (m : Int) (h1 : m < 1) : Calls Tryz.prog 181 #[.int .i64 (a : Nat), .int .i64 m, .int .i64 (k : Nat)] w fun e w' => e = .returned (.bool false) ∧ Fr [] w w' := by
  have x0 : (0 : Int) ≤ (a : Int) := by omega
  have x1 : decide ((1 : Int) ≤ m) = false := decide_eq_false (by omega)
  have x2 : ¬ (1 : Int) ≤ m := by omega
  clear h1
  go_enter Tryz.func181, Tryz.ntmps181
  go_wp2_with fail
  go_ret
  exact ⟨rfl, Fr.refl _ _⟩
set_option maxHeartbeats 800000 in
theorem bright_no (w : World) (r c : Nat) (m : Int) (h2 : r + 1 ≤ 400) (h3 : m < 1) : Calls Tryz.prog 137 #[.agg #[.int .i64 (r : Nat), .int .i64 (c : Nat), .int .i64 1, .int .i64 m]] w fun e w' => e = .returned (.bool false) ∧ Fr [] w w' := by
  have HA : Hid (∀ w', Calls Tryz.prog 181 #[.int .i64 (r : Nat), .int .i64 1, .int .i64 400] w' fun e w'' => e = .returned (.bool true) ∧ Fr [] w' w'') := fun w' => fits_yes w' r 1 400 (by omega) h2 (by omega)
  have HB : Hid (∀ w', Calls Tryz.prog 181 #[.int .i64 (c : Nat), .int .i64 m, .int .i64 40] w' fun e w'' => e = .returned (.bool false) ∧ Fr [] w' w'') := fun w' => fits_no w' c 40 m h3
  have HW : Hid (∀ W, W = w.alloc (.cells #[.int .i64 (r : Nat), .int .i64 (c : Nat), .int .i64 1, .int .i64 m] 137) → Fr [] w W ∧ Blk W w.heap.size 137 #[.int .i64 (r : Nat), .int .i64 (c : Nat), .int .i64 1, .int .i64 m]) := by
    show ∀ _, _
    rintro W rfl
    exact ⟨(Fr.refl [] w).alloc _, Blk.new w _ _⟩
  clear h2 h3
  go_enter Tryz.func137, Tryz.ntmps137
  go_wp2_with fail
  obtain ⟨W1, hW1⟩ : ∃ W1, W1 = w.alloc (.cells #[.int .i64 (r : Nat), .int .i64 (c : Nat), .int .i64 1, .int .i64 m] 137) := ⟨_, rfl⟩
  obtain ⟨k1, k2⟩ := HW.out W1 hW1
  rw [← hW1]
  refine (HA.out W1).mono ?_
  rintro en w2 ⟨rfl, hf2⟩
  have hb := k2.fr hf2 (by simp)
  have c1 : w2.cell? ⟨w.heap.size, 1, none⟩ = some (.int .i64 (c : Nat)) := hb.cell 1
  have c3 : w2.cell? ⟨w.heap.size, 3, none⟩ = some (.int .i64 m) := hb.cell 3
  have HF2 := Lib.hid (k1.trans hf2)
  clear hW1 k1 k2 hb hf2
  go_wp2_with fail
  refine (HB.out w2).mono ?_
  rintro en w3 ⟨rfl, hf3⟩
  have HF3 := Lib.hid (HF2.out.trans hf3)
  clear hf3
  go_wp2_with fail
  go_ret
  exact ⟨rfl, HF3.out⟩
set_option maxRecDepth 100000 in
set_option maxHeartbeats 1600000 in
theorem take_no (w : World) (p : Option Addr) (tl : Bool) (eo m : Int) (g r c : Nat) (h2 : r + 1 ≤ 400) (h3 : m < 1) :
    Calls Tryz.prog 76 #[.agg #[.pointer p, .bool tl, .int .i64 eo], .pointer (some ⟨g, 0, none⟩), .agg #[.int .i64 (r : Nat), .int .i64 (c : Nat), .int .i64 1, .int .i64 m]] w fun e w' => e = .returned (.slice none 0 0) ∧ Fr [] w w' := by
  have HRT : Hid (∀ w', Calls Tryz.prog 137 #[.agg #[.int .i64 (r : Nat), .int .i64 (c : Nat), .int .i64 1, .int .i64 m]] w' fun e w'' => e = .returned (.bool false) ∧ Fr [] w' w'') := fun w' => bright_no w' r c m h2 h3
  have HW : Hid (∀ W0, W0 = ((w.alloc (.cells #[.pointer p, .bool tl, .int .i64 eo] TGr)).alloc (.cells #[.pointer (some ⟨g, 0, none⟩)] 34)).alloc (.cells #[.int .i64 (r : Nat), .int .i64 (c : Nat), .int .i64 1, .int .i64 m] 137) →
      Fr [] w W0 ∧ Blk W0 (w.heap.size + 1 + 1) 137 #[.int .i64 (r : Nat), .int .i64 (c : Nat), .int .i64 1, .int .i64 m]) := by
    show ∀ _, _
    rintro W0 rfl
    have b2 := Blk.new ((w.alloc (.cells #[.pointer p, .bool tl, .int .i64 eo] TGr)).alloc (.cells #[.pointer (some ⟨g, 0, none⟩)] 34)) 137 #[.int .i64 (r : Nat), .int .i64 (c : Nat), .int .i64 1, .int .i64 m]
    simp only [World.size_alloc] at b2
    exact ⟨(((Fr.refl [] w).alloc _).alloc _).alloc _, b2⟩
  clear h2 h3
  refine callsIn_wide.1 (callsIn_of_wp_marks (n := 3) Tryz.func76 rfl trivial (wpIn_wide.2 ?_))
  simp only [Tryz.ntmps76, List.size_toArray, List.length_cons, List.length_nil, Nat.reduceAdd, Nat.reduceSub, Array.replicate_succ, Array.replicate_zero, List.push_toArray, List.append_toArray, List.nil_append, List.cons_append]
  go_wp2_with fail
  obtain ⟨W0, hW0⟩ : ∃ W0, W0 = ((w.alloc (.cells #[.pointer p, .bool tl, .int .i64 eo] TGr)).alloc (.cells #[.pointer (some ⟨g, 0, none⟩)] 34)).alloc (.cells #[.int .i64 (r : Nat), .int .i64 (c : Nat), .int .i64 1, .int .i64 m] 137) := ⟨_, rfl⟩
  obtain ⟨k1, k2⟩ := HW.out W0 hW0
  rw [← hW0]
  have HF0 := Lib.hid k1
  clear hW0 HW k1
  refine (HRT.out W0).mono ?_
  rintro en w1 ⟨rfl, hf1⟩
  have HF1 := Lib.hid (HF0.out.trans hf1)
  clear hf1 k2
  go_wp2_with fail
  exact ⟨.slice none 0 0, by simp [results, Tryz.results76, go_sem], rfl, HF1.out⟩
section
variable {s : List UInt8} {g : Nat} {p : Option Addr} {tl : Bool} {eo : Int} {rs : List RW} {x : GD} {w : World}
theorem HG.vtexts (h : HG [] s g p tl eo rs x w) (top left hh wid m : Nat) (h4 : hh ≤ 400) (w1 : 1 ≤ wid) (w4 : wid ≤ 40) (hl0 : left ≤ 2 ^ 50) (hm : m = min wid (40 - left)) :
    Calls Tryz.prog 24 #[.agg #[.int .i64 (top : Nat), .int .i64 (left : Nat), .int .i64 (hh : Nat), .int .i64 (wid : Nat)], .agg #[.pointer p, .bool tl, .int .i64 eo], .pointer (some ⟨g, 0, none⟩)] w
      (TextsV w ((rowsP (rs.map Prod.fst) (min top (rs.map Prod.fst).length) hh).map fun y => textsP s (cellsOf rs y.1) left m)) := by
  have hx := h.xn
  obtain ⟨mm, hmm⟩ : ∃ mm : Int, (40 - (left : Int) < (wid : Int) ∧ mm = 40 - (left : Int)) ∨ (¬ 40 - (left : Int) < (wid : Int) ∧ mm = (wid : Nat)) := by
    by_cases c : 40 - (left : Int) < (wid : Int)
    · exact ⟨_, .inl ⟨c, rfl⟩⟩
    · exact ⟨_, .inr ⟨c, rfl⟩⟩
  refine vtexts_gen w p tl eo (top : Nat) mm g left hh wid m rs.length s rs _ hmm (fun w' hf => rows_any w' p tl eo (rs.map Prod.fst) rs.length _ hh (top : Nat) left wid (h.tr0.fr0 hf) hx.1.symm (by omega) (by rw [hx.1]; exact begAt_is rs.length (top : Nat)) (by omega)) ?_ ?_ hl0 ?_
  · show ∀ _, _
    intro y hy
    have := (rows_mem hy).2.1
    omega
  · have := rowsI_len (rs.map Prod.fst) (min top (rs.map Prod.fst).length) hh
    unfold RowsI at this
    rw [List.length_map] at this
    show _ ≤ _
    omega
  · show ∀ _, _
    intro w' q hf hq
    by_cases hm0 : 1 ≤ m
    · have e1 : mm = (m : Nat) := by omega
      rw [e1]
      have hg := h.fr0 hf
      have e : allR (rs.map Prod.fst) q (q + 1) = [(q, (rs.map Prod.fst).getD q RV.none)] := by
        rw [allR_cons _ q (q + 1) (by omega), allR_nil _ (q + 1) (q + 1) (Nat.le_refl _)]
      have h1 := block_take w' p tl eo g q left 1 m q (q + 1) rs.length s rs hg.ar.now hg.tr0 (hg.ok.grow (Fr.refl _ _) fun k hk => by simp at hk) rfl (by omega) (by omega) (by omega) hm0 (by omega) (.inr (.inl ⟨rfl, by omega⟩)) (.inr (.inl ⟨by omega, by omega, by omega⟩)) (fun r hr c hc => (h.bd r hr).2 c hc) (fun r hr => by have := (h.bd r hr).1; omega) (by have := h.sl; omega)
      rw [e] at h1
      exact h1.mono fun _ _ h => h.tkc (textsP_len _ _ _ _) (by omega)
    · obtain rfl : m = 0 := by omega
      refine (take_no w' p tl eo mm g q left (by omega) (by omega)).mono ?_
      rintro en w2 ⟨rfl, hf2⟩
      refine ⟨none, 0, 0, rfl, fun w3 _ => ?_, hf2⟩
      refine (concat_S none 0 [] w3 (.inl rfl) (fun p hp => by simp at hp) (by simp [partN]) (by simp)).mono ?_
      rintro en w4 ⟨A, c, he, ho, hf, _⟩
      exact ⟨A, c, he, ho, hf⟩
theorem HG.dtxs (h : HG [] s g p tl eo rs x w) (a hh left m : Nat) : (RowsI (rs.map Prod.fst) a hh).map (fun r => dtxP x.rs r left m) = (rowsP (rs.map Prod.fst) a hh).map fun y => textsP s (cellsOf rs y.1) left m := by
  unfold RowsI
  rw [List.map_map]
  apply List.map_congr_left
  intro y _
  show dtxP x.rs ((y.1 : Nat) : Int) left m = _
  unfold dtxP textsP
  apply List.map_congr_left
  intro k _
  exact h.dat y.1 (left + k)
end
end Go.Proofs.YtblafakafgediaaGreat
