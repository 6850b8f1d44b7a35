import Derived.Test.YtefajedbdpkefaaW7
import Derived.Deep.DeepCutAuto
namespace Go.Proofs.Ytefajedbdpkefaa
open Go.RowKit Go.Proofs.Dm

/-- Behind k keys: the macro's object, and its row. -/
def Rec (w wr : World) (g r : Nat) (ys : List Int) (k : Nat) : Prop :=
  MapI wr r [] ∧ Fr [] w wr ∧ if k ≤ 100 then ∃ A c, Blk wr g 45 #[.map (some r), .int .i64 113, .slice A k c, .bool false, .slice none 0 0, .bool false, .slice none 0 0] ∧ IRow wr 3 A c (ys.take k) ∧ some g ≠ bk A ∧ some r ≠ bk A ∧ (bk A = none ∨ ∃ j, w.heap.size ≤ j ∧ bk A = some j)
    else Blk wr g 45 #[.map (some r), .int .i64 0, .slice none 0 0, .bool false, .slice none 0 0, .bool false, .slice none 0 0]

/-- A key more: what is told, and what there is. -/
theorem rec_key (w wr : World) (g r : Nat) (ys : List Int) (k : Nat) (hk : k < ys.length) (hgr : g ≠ r) (hg : w.heap.size ≤ g) (v : Int) (hv : v = if k = 100 then 7 else 0) (h : Rec w wr g r ys k) :
    Calls Try.prog 7 #[.pointer (some ⟨g, 0, none⟩), .int .i64 ys[k]] wr fun e w' => e = .returned (.int .i64 v) ∧ Rec w w' g r ys (k + 1) := by
  subst hv
  obtain ⟨hm, hf, h⟩ := h
  by_cases h1 : k < 100
  · rw [if_pos (by omega)] at h
    obtain ⟨A, c, hB, hr, hgA, hrA, hA⟩ := h
    have hl : (ys.take k).length = k := by simp; omega
    rw [← hl] at hB
    refine (key_more g _ _ _ 113 A c false (ys.take k) ys[k] wr (by omega) rfl hB hr hgA).mono ?_
    rintro e w' ⟨rfl, A', c', hB', hr', hb', hf'⟩
    rw [hl] at hB'
    refine ⟨by rw [if_neg (by omega)], hm.fr hf' (by simp [Ne.symm hgr, hrA]), hf.seq hf' ?_, ?_⟩
    · intro x hx
      simp at hx
      rcases hx with rfl | rfl
      · exact .inr (.inr ⟨_, hg, rfl⟩)
      · rcases hA with h | h
        · exact .inr (.inl h)
        · exact .inr (.inr h)
    · rw [if_pos (by omega)]
      refine ⟨A', c', hB', ?_, bk_next hb' hgA hB.lt (Nat.le_refl _), bk_next hb' hrA hm.lt (Nat.le_refl _), ?_⟩
      · rw [List.take_succ_eq_append_getElem hk]; exact hr'
      · rcases hb' with h | ⟨j, hj, h⟩
        · rw [h]; exact hA
        · exact .inr ⟨j, Nat.le_trans hf.size hj, h⟩
  · by_cases h2 : k = 100
    · subst h2
      rw [if_pos (by omega)] at h
      obtain ⟨A, c, hB, hr, hgA, hrA, hA⟩ := h
      refine (key_full g _ _ _ 113 A c 100 false ys[100] wr (by omega) rfl hB).mono ?_
      rintro e w' ⟨rfl, hB', hf'⟩
      refine ⟨rfl, hm.fr hf' (by simp [Ne.symm hgr]), hf.seq hf' (by simp; omega), ?_⟩
      rw [if_neg (by omega)]
      exact hB'
    · rw [if_neg (by omega)] at h
      refine (key_off g _ _ _ _ _ _ _ _ h).mono ?_
      rintro e w' ⟨rfl, rfl⟩
      refine ⟨by rw [if_neg h2], hm, hf, ?_⟩
      rw [if_neg (by omega)]
      exact h

set_option maxRecDepth 100000 in
set_option maxHeartbeats 3200000 in
theorem back_walk (A : Option Addr) (c : Nat) (xs : List Int) (cnt : Int) (w : World) (hs : Sl w A (ints xs)) (hc : xs.length ≤ c) (hcm : c ≤ maxLen) :
    Calls Try.prog 3 #[.slice A xs.length c, .int .i64 cnt] w fun e w' => e = .returned (.bool true) ∧ Fr [] w w' := by
  unfold maxLen at hcm
  go_enter Try.func3, Try.ntmps3
  go_upto_if 19 with fail
  go_cut [0] (fun s0 wx => ∃ ys, s0 = .slice A ys.length c ∧ ys = xs.take 150 ∧ w = wx)
  case first =>
    by_cases h : 150 < xs.length
    · go_wp2
      go_meet
      exact ⟨xs.take 150, by simp; omega, rfl, rfl⟩
    · go_wp2
      go_meet
      exact ⟨xs.take 150, by simp; omega, rfl, rfl⟩
  case rest =>
    obtain ⟨ys, rfl, hys, rfl⟩ := hcut
    have hyl : ys.length ≤ 150 := by rw [hys]; simp; omega
    have hsy : Sl w A (ints ys) := by rw [hys, ints_take]; exact hs.take 150
    clear hys hs hc
    go_wp2_with fail
    refine (new_any _).mono ?_
    rintro e w1 ⟨g, r, rfl, hg, hr, hgr, hB1, hm1, hf1⟩
    go_wp2_with fail
    refine (start_yes g _ _ _ _ _ _ 113 w1 (by omega) (by omega) hB1).mono ?_
    rintro e w2 ⟨rfl, hB2, hf2⟩
    have hm2 := hm1.fr hf2 (by simpa using Ne.symm hgr)
    have hF2 : Fr [] w w2 := hf1.seq hf2 (by simp; omega)
    go_wp2_with fail
    refine (start_on g _ _ _ _ _ _ 113 114 w2 (by omega) (by omega) rfl hB2).mono ?_
    rintro e w3 ⟨rfl, rfl⟩
    have hR : Rec w w2 g r ys 0 := ⟨hm2, hF2, by rw [if_pos (by omega)]; exact ⟨none, 0, hB2, IRow.nil_ _ _, by simp [bk], by simp [bk], .inl rfl⟩⟩
    clear hB1 hm1 hf1 hf2 hB2 hm2 hF2
    go_wp2_with fail
    go_loopw [33, 6, 7, 8] (fun i _ _ _ wr => ∃ q : Nat, i = .int .i64 q ∧ q ≤ ys.length ∧ Rec w wr g r ys q) (fun i _ _ _ _ => ys.length - (intOf i).toNat)
    case atStart => exact ⟨0, rfl, Nat.zero_le _, hR⟩
    case round =>
      obtain ⟨q, rfl, hq, hR'⟩ := hrel
      clear hR
      by_cases hlt : q < ys.length
      · have hsl := hsy.fr hR'.2.1 (by simp)
        obtain ⟨ad, rfl, _, hc1⟩ := hsl.at_ (ints_get ys q hlt)
        clear hsl hsy
        have hq3 : q < 100 ∨ q = 100 ∨ 100 < q := by omega
        rcases hq3 with h1 | h1 | h1
        · as_aux_lemma =>
          have hb : ((q : Int) == 100) = false := by simp; omega
          go_wp2_with (go_at_call 7; go_must (
            refine (rec_key w _ g r ys q hlt hgr hg 0 (by rw [if_neg (by omega)]) hR').mono ?_
            rintro e w5 ⟨rfl, hR5⟩))
          go_roundw
          case rel => exact ⟨q + 1, by go_num, by omega, hR5⟩
          case measure => simp [intOf]; omega
        · as_aux_lemma =>
          have hb : ((q : Int) == 100) = true := by simp; omega
          have hq1 : 100 ≤ q := by omega
          have hq2 : q ≤ 100 := by omega
          clear h1
          go_wp2_with (go_at_call 7; go_must (
            refine (rec_key w _ g r ys q hlt hgr hg 7 (by rw [if_pos (by omega)]) hR').mono ?_
            rintro e w5 ⟨rfl, hR5⟩))
          go_roundw
          case rel => exact ⟨q + 1, by go_num, by omega, hR5⟩
          case measure => simp [intOf]; omega
        · as_aux_lemma =>
          have hb : ((q : Int) == 100) = false := by simp; omega
          go_wp2_with (go_at_call 7; go_must (
            refine (rec_key w _ g r ys q hlt hgr hg 0 (by rw [if_neg (by omega)]) hR').mono ?_
            rintro e w5 ⟨rfl, hR5⟩))
          go_roundw
          case rel => exact ⟨q + 1, by go_num, by omega, hR5⟩
          case measure => simp [intOf]; omega
      · obtain rfl : q = ys.length := by omega
        obtain ⟨hm, hf, hR2⟩ := hR'
        by_cases hlong : 100 < ys.length
        · as_aux_lemma =>
          rw [if_neg (by omega)] at hR2
          go_wp2_with fail
          refine (stop_off g _ _ _ _ _ _ _ hR2).mono ?_
          rintro e w6 ⟨rfl, rfl⟩
          go_wp2_with fail
          refine (get_any g r _ _ _ _ _ _ none 0 113 [] [] _ hR2 hm rfl (.inl rfl) (by simp)).mono ?_
          rintro e w7 ⟨A7, c7, rfl, hr7, hf7, _⟩
          go_wp2_with fail
          refine (awake_yes _).mono ?_
          rintro e w8 ⟨rfl, hf8⟩
          have hF : Fr [] w w8 := (hf.trans hf7).trans hf8
          clear hf hf7 hf8 hm hR2
          go_wp2
          go_ret
          exact ⟨rfl, hF⟩
        · rw [if_pos (by omega)] at hR2
          obtain ⟨A', c', hB, hr', hgA, hrA, _⟩ := hR2
          rw [List.take_length] at hr'
          by_cases h0 : ys.length = 0
          · as_aux_lemma =>
            have hz : ((ys.length : Int) == 0) = true := beq_iff_eq.2 (by omega)
            have hys0 : ys = [] := List.eq_nil_of_length_eq_zero h0
            rw [h0] at hB
            have hz' := Lib.hid h0
            clear h0 hlong
            go_wp2_with fail
            refine (stop_none g r _ _ A' c' false false 113 [] _ rfl hB hm hgr).mono ?_
            rintro e w6 ⟨rfl, hB6, hm6, hf6⟩
            go_wp2_with fail
            refine (play_none g r _ _ _ _ _ _ none 0 113 cnt _ _ hB6 hm6 rfl (by omega) (by omega)).mono ?_
            rintro e w7 ⟨rfl, hf7⟩
            go_wp2_with fail
            refine (awake_yes _).mono ?_
            rintro e w8 ⟨rfl, hf8⟩
            have hF : Fr [] w w8 := ((hf.seq hf6 (by intro x hx; simp at hx; rcases hx with rfl | rfl; exact .inr (.inr ⟨_, hg, rfl⟩); exact .inr (.inr ⟨_, hr, rfl⟩))).trans hf7).trans hf8
            clear hf hf6 hf7 hf8 hm hm6 hB hB6
            go_wp2
            go_ret
            exact ⟨rfl, hF⟩
          · have hz : ((ys.length : Int) == 0) = false := beq_eq_false_iff_ne.2 (by omega)
            have hpos : 1 ≤ ys.length := by omega
            clear h0
            go_wp2_with fail
            refine (stop_row g r _ _ A' c' ys.length false false 113 [] _ rfl hz hB hm hgr).mono ?_
            rintro e w6 ⟨rfl, hB6, hm6, hf6⟩
            have hs6 : Sl w6 A' (ints ys) := hr'.sl.fr hf6 (.inr (by simp [Ne.symm hgA, Ne.symm hrA]))
            have hF6 : Fr [] w w6 := hf.seq hf6 (by intro x hx; simp at hx; rcases hx with rfl | rfl; exact .inr (.inr ⟨_, hg, rfl⟩); exact .inr (.inr ⟨_, hr, rfl⟩))
            clear hf hf6 hm hB hr'
            by_cases hlg : 1 ≤ cnt ∧ 100 / (ys.length : Int) < cnt
            · as_aux_lemma =>
              obtain ⟨hc1, hc2⟩ := hlg
              go_wp2_with fail
              refine (play_long g r _ _ _ _ _ _ A' c' 113 cnt ys _ w6 hB6 hm6 (by rw [mget_mput]; rfl) hs6 hpos (by omega) (by omega) (by omega) hc1 hc2).mono ?_
              rintro e w7 ⟨rfl, hf7⟩
              go_wp2_with fail
              refine (awake_yes _).mono ?_
              rintro e w8 ⟨rfl, hf8⟩
              have hF : Fr [] w w8 := (hF6.trans hf7).trans hf8
              clear hf7 hf8 hm6 hB6
              go_wp2
              go_ret
              exact ⟨rfl, hF⟩
            · obtain ⟨kk, hk, hkc⟩ : ∃ kk : Nat, 1 ≤ kk ∧ ((1 ≤ cnt ∧ cnt = kk) ∨ (cnt ≤ 0 ∧ kk = 1)) := by
                by_cases h1 : 1 ≤ cnt
                · exact ⟨cnt.toNat, by omega, .inl ⟨h1, by omega⟩⟩
                · exact ⟨1, by omega, .inr ⟨by omega, rfl⟩⟩
              have hq : (kk : Int) ≤ 100 / (ys.length : Int) := by
                rcases hkc with ⟨h1, h2⟩ | ⟨_, rfl⟩
                · rw [← h2]
                  rcases Int.lt_or_le (100 / (ys.length : Int)) cnt with h | h
                  · exact absurd ⟨h1, h⟩ hlg
                  · exact h
                · show (1 : Int) ≤ _
                  rw [Int.le_ediv_iff_mul_le (by omega)]
                  omega
              have hplay := play_ok g r _ _ _ _ _ _ A' c' 113 kk cnt ys _ w6 hB6 hm6 (by rw [mget_mput]; rfl) hs6 hpos (by omega) (by omega) (by omega) hk hkc hq
              obtain ⟨T, hT⟩ : ∃ T, T = kk * ys.length := ⟨_, rfl⟩
              rw [← hT] at hplay
              have hTi : (T : Int) = (kk : Int) * (ys.length : Int) := by rw [hT, Int.natCast_mul]
              have hT100 : T ≤ 100 := by
                have h1 : (kk : Int) * ys.length ≤ 100 := Int.le_trans (Int.mul_le_mul_of_nonneg_right hq (by omega)) (Int.ediv_mul_le _ (by omega))
                omega
              have hrem : ((T : Int) % (ys.length : Int) == 0) = true := by rw [hTi]; simp
              have hquo : (T : Int) / (ys.length : Int) = kk := by rw [hTi]; exact Int.mul_ediv_cancel _ (by omega)
              have HT := Lib.hid hT
              have HP := Lib.hid hplay
              have HQ := Lib.hid hquo
              have HK := Lib.hid hkc
              clear hT hTi hplay hquo hkc hq hlg hs6 hm6 hB6
              go_wp2_with fail
              refine HP.out.mono ?_
              rintro e w7 ⟨A7, c7, rfl, hr7, hf7, _⟩
              have hF7 := hF6.trans hf7
              clear HP
              have hsg : Sl w7 A7 (ints (pat ys T)) := hr7.sl
              clear hF6 hf7 hr7
              go_wp2_with fail
              go_loopw [128, 15, 16] (fun i _ _ wr => ∃ q : Nat, i = .int .i64 q ∧ q ≤ T ∧ Fr [] w7 wr) (fun i _ _ _ => T - (intOf i).toNat)
              case atStart => exact ⟨0, rfl, Nat.zero_le _, Fr.refl _ _⟩
              case round =>
                obtain ⟨q, rfl, hq, hf⟩ := hrel
                by_cases hlt : q < T
                · as_aux_lemma =>
                  have hsg' := hsg.fr hf (by simp)
                  have hsy' := hsy.fr (hF7.trans hf) (by simp)
                  have hgl : q < (pat ys T).length := by rw [pat_len]; exact hlt
                  have hyl2 : q % ys.length < ys.length := Nat.mod_lt _ hpos
                  obtain ⟨ad, rfl, _, hc1⟩ := hsg'.at_ (ints_get (pat ys T) q hgl)
                  obtain ⟨bd, rfl, _, hc2⟩ := hsy'.at_ (ints_get ys (q % ys.length) hyl2)
                  have he : (pat ys T)[q] = ys[q % ys.length] := by simp [pat, hyl2]
                  rw [he] at hc1
                  obtain ⟨x, hx⟩ : ∃ x, x = ys[q % ys.length] := ⟨_, rfl⟩
                  rw [← hx] at hc1 hc2
                  clear hx he hsg hsg' hsy hsy'
                  go_wp2
                  go_roundw
                  case rel => exact ⟨q + 1, by go_num, by omega, hf⟩
                  case measure => simp [intOf]; omega
                · obtain rfl : q = T := by omega
                  have hk100 : kk ≤ 100 := Nat.le_trans (Nat.le_mul_of_pos_right kk hpos) (by rw [← HT.out]; exact hT100)
                  have hb0 : 0 ≤ (q : Int) / (ys.length : Int) := by rw [HQ.out]; omega
                  have hb1 : (q : Int) / (ys.length : Int) ≤ 100 := by rw [HQ.out]; omega
                  rcases HK.out with ⟨hk1, hk2⟩ | ⟨hk1, hk2⟩
                  · have hbb : ((q : Int) / (ys.length : Int) == cnt) = true := by rw [HQ.out, ← hk2]; simp
                    clear hk2 HK HQ HT hsy hsg hlt hq hyl hlong
                    go_wp2_with fail
                    refine (awake_yes _).mono ?_
                    rintro e w8 ⟨rfl, hf8⟩
                    have hF8 := (hF7.trans hf).trans hf8
                    clear hF7 hf hf8
                    go_wp2
                    go_ret
                    exact ⟨rfl, hF8⟩
                  · have hbb : ((q : Int) / (ys.length : Int) == cnt) = false := beq_eq_false_iff_ne.2 (by rw [HQ.out]; omega)
                    have hbc : cnt < 1 := by omega
                    have hbd : ((q : Int) == (ys.length : Int)) = true := by
                      have h := HT.out
                      subst hk2
                      exact beq_iff_eq.2 (by omega)
                    clear hk2 HK HQ HT hsy hsg hlt hq hyl hlong
                    go_wp2_with fail
                    refine (awake_yes _).mono ?_
                    rintro e w8 ⟨rfl, hf8⟩
                    have hF8 := (hF7.trans hf).trans hf8
                    clear hF7 hf hf8
                    go_wp2
                    go_ret
                    exact ⟨rfl, hF8⟩
end Go.Proofs.Ytefajedbdpkefaa
