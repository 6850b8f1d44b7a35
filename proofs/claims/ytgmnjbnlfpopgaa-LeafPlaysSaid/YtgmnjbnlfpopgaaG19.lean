import Derived.Test.YtgmnjbnlfpopgaaG18
namespace Go.Proofs.Ytgmnjbnlfpopgaa
open Go.RowKit Go.Proofs.Dm

/-- Calls as they lie in memory. -/
def op2 (o : Int × Int) : List Value := [.int .i64 o.1, .int .i64 o.2]
def ops2 (l : List (Int × Int)) : List Value := l.flatMap op2
theorem ops2_get (l : List (Int × Int)) (j : Nat) (h : j < l.length) : (ops2 l)[j * 2]? = some (.int .i64 l[j].1) ∧ (ops2 l)[j * 2 + 1]? = some (.int .i64 l[j].2) := by
  induction l generalizing j with
  | nil => simp at h
  | cons x l ih =>
    cases j with
    | zero => simp [ops2, op2]
    | succ j =>
      have h2 := ih j (by simpa using h)
      have e1 : (j + 1) * 2 = j * 2 + 1 + 1 := by omega
      rw [e1]
      exact h2
theorem sl_op {w : World} {A : Option Addr} {l : List (Int × Int)} (h : Sl w A (ops2 l)) {j : Nat} (hj : j < l.length) :
    ∃ ad, A = some ad ∧ w.cell? (ad.add (j * 2)) = some (.int .i64 l[j].1) ∧ w.cell? (ad.add (j * 2 + 1)) = some (.int .i64 l[j].2) := by
  obtain ⟨g0, g1⟩ := ops2_get l j hj
  obtain ⟨ad, rfl, _, h0⟩ := h.at_ g0
  rcases h with h | ⟨ad', he, hc⟩
  · rw [h] at g1; simp at g1
  · injection he with he; subst he
    exact ⟨ad, rfl, h0, hc _ _ g1⟩
theorem add_next (ad : Addr) (j : Nat) : ad.add (j + 1) = ⟨(ad.add j).block, (ad.add j).off + 1, none⟩ := by
  unfold Addr.add
  by_cases hj : j = 0
  · subst hj; simp
  · simp [hj]; omega
theorem puts_take (X : List Int) (j : Nat) (h : j < X.length) : puts (X.take (j + 1)) = putP (puts (X.take j)) (X.getD j 0) := by
  rw [take_snoc X j h, puts_snoc]

set_option maxRecDepth 100000 in
set_option maxHeartbeats 6400000 in
theorem plays_walk (A B : Option Addr) (c d : Nat) (xs : List Int) (os : List (Int × Int)) (w : World) (hs : Sl w A (ints xs)) (hc : xs.length ≤ c) (hm : c ≤ maxLen) (ho : Sl w B (ops2 os)) :
    Calls Try.prog 8 #[.slice A xs.length c, .slice B os.length d] w fun e w' => e = .returned (.bool true) ∧ Fr [] w w' := by
  obtain ⟨X, hX⟩ : ∃ X, X = xs.take 60 := ⟨_, rfl⟩
  have hXl : X.length ≤ 60 := by rw [hX, List.length_take]; omega
  have hsX : Sl w A (ints X) := by rw [hX, ints_take]; exact hs.take 60
  have hL2 : 60 < xs.length → X.length = 60 := fun h => by rw [hX, List.length_take]; omega
  have hL3 : ¬ 60 < xs.length → X = xs := fun h => by rw [hX]; exact List.take_of_length_le (by omega)
  have hcc : 60 < xs.length → 60 ≤ c := fun h => by omega
  have HN : Hid (∀ w2, Fr [] w w2 → Calls Try.prog 23 #[.slice A X.length c] w2 (NewAns w2 (puts X))) := by
    show ∀ _, _
    intro w2 hf
    exact new_at A c X w2 (hsX.fr hf (.inr List.not_mem_nil)) (by omega)
  have HO := Lib.hid ho
  clear hm hX ho
  go_enter Try.func8, Try.ntmps8
  go_upto_if 14 with fail
  go_cut [0] (fun s0 wx => s0 = .slice A X.length c ∧ wx = w)
  case first =>
    by_cases h : 60 < xs.length
    · have HL := Lib.hid (hL2 h)
      have h2 := hcc h
      clear hL2 hL3 hcc
      rcases hs.at_ (ints_get xs 0 (by omega)) with ⟨ad, rfl, _⟩
      go_wp2
      go_meet
      exact ⟨by rw [HL.out], rfl⟩
    · have HL := Lib.hid (hL3 h)
      clear hL2 hL3 hcc
      go_wp2
      go_meet
      exact ⟨by rw [HL.out], rfl⟩
  case rest =>
    obtain ⟨rfl, rfl⟩ := hcut
    clear hL2 hL3 hcc hs hc
    have HX := Lib.hid hsX
    clear hsX
    go_wp2_with fail
    go_loopw [19, 5] (fun iv lv wr => ∃ (j : Nat) (A1 : Option Addr) (c1 : Nat), iv = .int .i64 j ∧ lv = .slice A1 (puts (X.take j)).length c1 ∧ j ≤ X.length ∧ Hid (Sl wr A1 (ints (puts (X.take j)))) ∧ (puts (X.take j)).length ≤ c1 ∧ Fr [] wc wr ∧ Hid (∀ k, bk A1 = some k → k < wr.heap.size)) (fun iv _ _ => X.length - (intOf iv).toNat)
    case atStart => exact ⟨0, none, 0, rfl, rfl, Nat.zero_le _, .inl rfl, Nat.zero_le _, Fr.refl _ _, fun k hk => by cases hk⟩
    case round =>
      obtain ⟨j, A1, c1, rfl, rfl, hj, HS, hcl, hF, HB⟩ := hrel
      by_cases hlt : j < X.length
      · obtain ⟨ad, rfl, hcell⟩ := sl_ints (HX.out.fr hF (.inr List.not_mem_nil)) hlt
        have hpt := puts_take X j hlt
        have hpl := puts_len (X.take j)
        rw [List.length_take] at hpl
        obtain ⟨x, hx⟩ : ∃ x, x = X.getD j 0 := ⟨_, rfl⟩
        obtain ⟨P, hP⟩ : ∃ P, P = puts (X.take j) := ⟨_, rfl⟩
        rw [← hx] at hcell hpt
        rw [← hP] at hpt HS hcl hpl ⊢
        have hput := rput_any A1 c1 P x wr HS.out hcl (by omega)
        rw [← hpt] at hput
        obtain ⟨P', hP'⟩ : ∃ P', P' = puts (X.take (j + 1)) := ⟨_, rfl⟩
        rw [← hP'] at hput
        have HP := Lib.hid hput
        have HP' := Lib.hid hP'
        clear hput hP' hpt hx hP HS
        go_wp2_with fail
        refine HP.out.mono ?_
        rintro e w2 ⟨A2, c2, rfl, h1, h2, h3, h4⟩
        have H1 := Lib.hid h1
        have H4 := Lib.hid h4
        clear h1 h4
        go_wp2_with fail
        go_roundw
        case rel =>
          refine ⟨j + 1, A2, c2, by go_num, by rw [← HP'.out], by omega, by rw [← HP'.out]; exact H1.out, by rw [← HP'.out]; exact h2, hF.trans h3, fun k hk => ?_⟩
          have := h3.size
          rcases H4.out k hk with h | h
          · have := HB.out k h; omega
          · omega
        case measure => simp [intOf]; omega
      · obtain rfl : j = X.length := by omega
        rw [List.take_length] at HS hcl ⊢
        have hpl := puts_len X
        have hnew := HN.out wr hF
        obtain ⟨S, hS⟩ : ∃ S, S = puts X := ⟨_, rfl⟩
        rw [← hS] at HS hcl hnew hpl ⊢
        have HNW := Lib.hid hnew
        clear hnew hS HN hj HX
        go_wp2_with fail
        refine HNW.out.mono ?_
        rintro e w2 ⟨g, r, rfl, hq2⟩
        have hF2 : Fr [] wc w2 := hF.trans hq2.fru.fr
        have hS2 : Sl w2 A1 (ints S) := HS.out.fr hq2.fru.fr (.inr List.not_mem_nil)
        have HL := Lib.hid (like_at _ _ _ g r S A1 c1 0 hq2 hS2 (by omega))
        have HQ := Lib.hid hq2
        have HF := Lib.hid hF
        clear hq2 hF
        go_wp2_with fail
        refine HL.out.mono ?_
        rintro e w3 ⟨rfl, hf3⟩
        have hQ3 : QAt (fun k => k < wc.heap.size ∨ bk A1 = some k) w3 w3 g r S := HQ.out.base hf3 (by simp) fun k hk => by
          have s1 := HF.out.size
          have s2 := HQ.out.fru.fr.size
          have s3 := hf3.size
          rcases hk with h | h
          · exact ⟨.inl (by omega), by omega⟩
          · have := HB.out k h
            exact ⟨.inl (by omega), by omega⟩
        have hS3 : Sl w3 A1 (ints S) := hS2.fr hf3 (.inr List.not_mem_nil)
        have hU3 : FrU (· < wc.heap.size) wc w3 := FrU.of_fr (hF2.trans hf3)
        have H3 : Hid (QAt (fun k => k < wc.heap.size ∨ bk A1 = some k) w3 w3 g r S ∧ Sl w3 A1 (ints S) ∧ FrU (· < wc.heap.size) wc w3) := ⟨hQ3, hS3, hU3⟩
        clear HL HQ hS2 hQ3 hS3 hU3 hF2 hf3 HS HB HF HNW
        go_wp2_with fail
        go_loopw [39, 5] (fun iv lv wr => ∃ (i : Nat) (S : List Int) (A1 : Option Addr) (c1 : Nat), iv = .int .i64 i ∧ lv = .slice A1 S.length c1 ∧ i ≤ os.length ∧ i ≤ 100 ∧ S.length ≤ 60 + i ∧ S.length ≤ c1 ∧ Hid (QAt (fun k => k < wc.heap.size ∨ bk A1 = some k) wr wr g r S ∧ Sl wr A1 (ints S) ∧ FrU (· < wc.heap.size) wc wr)) (fun iv _ _ => os.length - (intOf iv).toNat)
        case atStart => exact ⟨0, S, A1, c1, rfl, rfl, Nat.zero_le _, Nat.zero_le _, by omega, hcl, H3⟩
        case round =>
          clear hcl hpl H3
          obtain ⟨i, S, A1, c1, rfl, rfl, hi, hi2, hSl, hcl, H3⟩ := hrel
          by_cases hlt : i < os.length
          · by_cases h100 : i < 100
            · obtain ⟨ad, rfl, hc0, hc1⟩ := sl_op HO.out hlt
              have hcell : ∀ o v, wc.cell? (ad.add o) = some v → wr.cell? (ad.add o) = some v := fun o v h => by
                have hb := World.block_lt_of_cell? wc _ h
                rw [← h]
                exact World.cell?_of_block (w := wc) (H3.out.2.2.block _ hb)
              have d0 := hcell _ _ hc0
              have d1 := hcell _ _ hc1
              rw [add_next] at d1
              obtain ⟨k, hk⟩ : ∃ k, k = os[i].1 := ⟨_, rfl⟩
              obtain ⟨n, hn⟩ : ∃ n, n = os[i].2 := ⟨_, rfl⟩
              rw [← hk] at d0
              rw [← hn] at d1
              obtain ⟨wp, hwp⟩ : ∃ wp, wp = wr.alloc (.cells #[.int .i64 k, .int .i64 n] 49) := ⟨_, rfl⟩
              have hFp : Fr [] wr wp := by rw [hwp]; exact (Fr.refl [] wr).alloc _
              have hBp : Blk wp wr.heap.size 49 #[.int .i64 k, .int .i64 n] := by rw [hwp]; exact Blk.new wr 49 _
              obtain ⟨Z, hZ⟩ : ∃ Z : Nat → Prop, Z = fun j => j < wc.heap.size ∨ j = wr.heap.size := ⟨_, rfl⟩
              have hZp : ∀ j, Z j → j < wp.heap.size := fun j hj => by
                have s1 := H3.out.2.2.size
                have s2 := hFp.size
                rw [hZ] at hj
                rcases hj with h | h
                · omega
                · rw [h]; exact hBp.lt
              have hQp : QAt (fun j => Z j ∨ bk A1 = some j) wp wp g r S := H3.out.1.base hFp (by simp) fun j hj => by
                have s2 := hFp.size
                rcases hj with h | h
                · rw [hZ] at h
                  rcases h with h | h
                  · exact ⟨.inl (.inl h), hZp j (by rw [hZ]; exact .inl h)⟩
                  · exact ⟨.inr (by omega), hZp j (by rw [hZ]; exact .inr h)⟩
                · have : j < wr.heap.size := by
                    obtain ⟨L, ⟨h1, _⟩, _⟩ := H3.out.1
                    exact h1.dom j (.inr h)
                  exact ⟨.inl (.inr h), by omega⟩
              have hst := step_any Z g r c1 S A1 k n wp hZp hQp (H3.out.2.1.fr hFp (.inr List.not_mem_nil)) hcl (by omega)
              have hsl := stepP_len S k n
              obtain ⟨S', hS'⟩ : ∃ S', S' = stepP S k n := ⟨_, rfl⟩
              rw [← hS'] at hst hsl
              have HST := Lib.hid hst
              -- what the round leaves
              have HEND : Hid (∀ (A2 : Option Addr) (w2 w4 : World), QAt (fun j => Z j ∨ bk A2 = some j) w2 w2 g r S' → Sl w2 A2 (ints S') → FrU Z wp w2 → Fr [] w2 w4 → QAt (fun j => j < wc.heap.size ∨ bk A2 = some j) w4 w4 g r S' ∧ Sl w4 A2 (ints S') ∧ FrU (· < wc.heap.size) wc w4) := by
                show ∀ _, _
                intro A2 w2 w4 h1 h2 h3 h4
                refine ⟨h1.base h4 (by simp) fun j hj => ?_, h2.fr h4 (.inr List.not_mem_nil), ?_⟩
                · have s4 := h4.size
                  have hd : ∀ j, (Z j ∨ bk A2 = some j) → j < w2.heap.size := by
                    obtain ⟨L, ⟨h1, _⟩, _⟩ := h1
                    exact h1.dom
                  rcases hj with h | h
                  · have hz : Z j := by rw [hZ]; exact .inl h
                    exact ⟨.inl (.inl hz), by have := hd j (.inl hz); omega⟩
                  · exact ⟨.inl (.inr h), by have := hd j (.inr h); omega⟩
                · obtain ⟨T, hT, hTU⟩ := FrU.toFr h3
                  have k1 : FrU (· < wc.heap.size) wc wp := H3.out.2.2.seq hFp (by simp)
                  exact (k1.seq hT (fun j hj hb => hTU j (by rw [hZ]; exact .inl hb) hj)).seq h4 (by simp)
              have HBX : Hid (∀ w2, FrU Z wp w2 → Blk w2 wr.heap.size 49 #[.int .i64 k, .int .i64 n]) := by
                show ∀ _, _
                intro w2 h3
                exact (h3.block _ (by rw [hZ]; exact .inr rfl)).trans hBp
              clear hst hS' hQp hZp hZ hBp hFp hc0 hc1 hcell hk hn H3
              go_wp2_with fail
              rw [← hwp]
              refine HST.out.mono ?_
              rintro e w2 ⟨A2, c2, rfl, hs2, hc2, hq2, hu2, _⟩
              have hb2 := HBX.out w2 hu2
              have e1 : w2.cell? ⟨wr.heap.size, 1, none⟩ = some (.int .i64 n) := hb2.cell 1
              have hb2l := hb2.lt
              have HE2 : Hid (∀ w4, Fr [] w2 w4 → QAt (fun j => j < wc.heap.size ∨ bk A2 = some j) w4 w4 g r S' ∧ Sl w4 A2 (ints S') ∧ FrU (· < wc.heap.size) wc w4) := fun w4 h4 => HEND.out A2 w2 w4 hq2 hs2 hu2 h4
              have HL : Hid (∀ w3 m, Fr [] w2 w3 → Calls Try.prog 30 #[.pointer (some ⟨g, 0, none⟩), .slice A2 S'.length c2, .int .i64 m] w3 fun e w' => e = .returned (.bool true) ∧ Fr [] w3 w') := by
                show ∀ _, _
                intro w3 m hf
                exact like_at _ _ w3 g r S' A2 c2 m (QAt.grow hq2 hf) (hs2.fr hf (.inr List.not_mem_nil)) (by omega)
              have HC0 : Hid (0 < S'.length → ∃ ad, A2 = some ad ∧ ∀ w3, Fr [] w2 w3 → w3.cell? ad = some (.int .i64 (S'.getD 0 0))) := by
                show _ → _
                intro h0
                obtain ⟨ad, rfl, hce⟩ := sl_ints hs2 h0
                have hce' : w2.cell? ad = some (.int .i64 (S'.getD 0 0)) := by simpa [Addr.add] using hce
                refine ⟨ad, rfl, fun w3 hf => ?_⟩
                rw [hf.cell (World.block_lt_of_cell? w2 _ hce') (by simp)]
                exact hce'
              clear hb2 hs2 hq2 hu2 HBX HEND HST hwp d0 d1
              have HW2 : Hid (Fr [] w2 w2) := Fr.refl _ _
              have HCL := Lib.hid hcl
              clear hcl
              rcases Nat.eq_zero_or_pos S'.length with h0 | h0
              · obtain rfl := List.eq_nil_of_length_eq_zero h0
                clear h0 HC0
                go_wp2_with fail
                refine (HL.out w2 n HW2.out).mono ?_
                rintro e w3 ⟨rfl, hf3⟩
                have HF3 := Lib.hid hf3
                clear hf3
                go_wp2_with fail
                go_roundw
                case rel => exact ⟨i + 1, [], A2, c2, by go_num, rfl, by omega, by omega, by simp, Nat.zero_le _, HE2.out _ HF3.out⟩
                case measure => simp [intOf]; omega
              · obtain ⟨a2, rfl, hce⟩ := HC0.out h0
                have HCE := Lib.hid hce
                clear hce HC0
                go_wp2_with fail
                refine (HL.out w2 n HW2.out).mono ?_
                rintro e w3 ⟨rfl, hf3⟩
                have hce := HCE.out w3 hf3
                have HF3 := Lib.hid hf3
                clear hf3 HCE
                have hp0 : (0 : Int) < (S'.length : Int) := by omega
                go_wp2_with fail
                refine (HL.out w3 _ HF3.out).mono ?_
                rintro e w4 ⟨rfl, hf4⟩
                have HF4 := Lib.hid (HF3.out.trans hf4)
                clear hf4 hce
                go_wp2_with fail
                go_roundw
                case rel => exact ⟨i + 1, S', some a2, c2, by go_num, rfl, by omega, by omega, by omega, hc2, HE2.out _ HF4.out⟩
                case measure => simp [intOf]; omega
            · obtain ⟨wp, hwp⟩ : ∃ wp, wp = wr := ⟨_, rfl⟩
              obtain ⟨ad, rfl, hc0, hc1⟩ := sl_op HO.out hlt
              have hcell : ∀ o v, wc.cell? (ad.add o) = some v → wr.cell? (ad.add o) = some v := fun o v h => by
                have hb := World.block_lt_of_cell? wc _ h
                rw [← h]
                exact World.cell?_of_block (w := wc) (H3.out.2.2.block _ hb)
              have d0 := hcell _ _ hc0
              have d1 := hcell _ _ hc1
              rw [add_next] at d1
              have hF : Fr [] wc wr := H3.out.2.2.fr
              have HF := Lib.hid hF
              clear hF hcell hc0 hc1 H3
              go_wp2_with fail
              refine (lawake_yes _).mono ?_
              rintro e w2 ⟨rfl, hf2⟩
              have HF2 := Lib.hid (HF.out.trans (((Fr.refl [] wr).alloc _).trans hf2))
              clear hf2
              go_wp2_with fail
              go_ret
              exact ⟨rfl, HF2.out⟩
          · have hF : Fr [] wc wr := H3.out.2.2.fr
            have HF := Lib.hid hF
            clear hF H3
            go_wp2_with fail
            refine (lawake_yes _).mono ?_
            rintro e w2 ⟨rfl, hf2⟩
            have HF2 := Lib.hid (HF.out.trans hf2)
            clear hf2
            go_wp2_with fail
            go_ret
            exact ⟨rfl, HF2.out⟩
end Go.Proofs.Ytgmnjbnlfpopgaa
