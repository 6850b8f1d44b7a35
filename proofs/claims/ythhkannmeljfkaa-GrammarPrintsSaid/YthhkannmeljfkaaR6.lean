import Derived.Test.YthhkannmeljfkaaR5
namespace Go.Proofs.Ythhkannmeljfkaa
open Go.RowKit Go.Proofs.Dm

/-- What counts and registers leave. -/
def PrefAns (e : Ending) (w' : World) (g : Nat) (A : Option Addr) (c : Nat) (l : List Int) (vis rc : Bool) (t : List Value × Int × Int) : Prop :=
  (e = .returned (.tuple #[.int .i64 0, .bool false]) ∧ RTold w' g A c l t) ∨
  ∃ j cnt reg k, e = .returned (.tuple #[.int .i64 k, .bool true]) ∧ RAt w' g A c l ⟨j, 0, 0, cnt, reg, 0, 0, 0⟩ ∧ j ≤ l.length ∧ 0 ≤ cnt ∧ cnt ≤ 9999 ∧ k ≠ 34 ∧ pGo (pBegin2 ⟨0, 0, cnt, reg, 0, 0, 18, vis, rc⟩ k) (l.drop j) = t
theorem reg_step (cnt reg k : Int) (vis rc : Bool) (rest : List Int) : pRun ⟨0, 0, cnt, reg, 0, 0, 34, vis, rc⟩ (k :: rest) = if letterB k true = true then pRun ⟨0, 0, cnt, k, 0, 0, 18, vis, rc⟩ rest else (Zero5, 2, 10) := by
  rw [pRun_cons]
  have hp : pStep ⟨0, 0, cnt, reg, 0, 0, 34, vis, rc⟩ k = pRegister ⟨0, 0, cnt, reg, 0, 0, 34, vis, rc⟩ k := by simp [pStep]
  rw [hp, pRegister]
  split
  · exact pGo_more ..
  · exact pGo_wrong ..

set_option maxRecDepth 100000 in
set_option maxHeartbeats 3200000 in
theorem prefix_at (w : World) (g : Nat) (A : Option Addr) (c : Nat) (l : List Int) (vis rc : Bool) (hl : l.length < 60000)
    (h : RAt w g A c l ⟨0, 0, 0, 0, 0, 0, 0, 0⟩) :
    Calls Try.prog 20 #[.pointer (some ⟨g, 0, none⟩)] w fun e w' => Fr [some g] w w' ∧ PrefAns e w' g A c l vis rc (pRun ⟨0, 0, 0, 0, 0, 0, 18, vis, rc⟩ l) := by
  generalize hT : pRun ⟨0, 0, 0, 0, 0, 0, 18, vis, rc⟩ l = T
  go_enter Try.func20, Try.ntmps20
  go_wp2_with fail
  go_loopw [4] (fun _ wr => ∃ (j : Nat) (cnt reg : Int), RAt wr g A c l ⟨j, 0, 0, cnt, reg, 0, 0, 0⟩ ∧ Fr [some g] w wr ∧ j ≤ l.length ∧ 0 ≤ cnt ∧ cnt ≤ 9999 ∧ pRun ⟨0, 0, cnt, reg, 0, 0, 18, vis, rc⟩ (l.drop j) = T) (fun _ wr => l.length - posOf wr g)
  case atStart => exact ⟨0, 0, 0, h, Fr.refl _ _, by omega, by omega, by omega, hT⟩
  case round =>
    obtain ⟨j, cnt, reg, hR, hf, hj, hc0, hc1, hrun⟩ := hrel
    have hpos : posOf wr g = j := by simp only [posOf]; rw [hR.1.cell 1]; simp [rd, intOf]
    clear h hT
    go_wp2_with fail
    refine (count_at wr g A c l j 0 0 cnt reg 0 18 vis rc (.inl rfl) hR hl hj hc0 hc1).mono ?_
    rintro e w1 ⟨hf1', b, rfl, j2, cnt2, what, err, hR1, hj2, hpost⟩
    have hf1 := hf.trans hf1'
    clear hf hf1' hR hc0 hc1
    rcases hpost with ⟨rfl, rfl, rfl, hr2⟩ | ⟨rfl, rfl, rfl, ⟨rfl, hr2⟩ | ⟨hjl, hjj, h0, h9, hr2⟩⟩
    · rw [hr2] at hrun
      subst hrun
      go_wp2
      refine bodyPost_ret (v := .tuple #[.int .i64 0, .bool false]) (by simp [results, Try.results20, go_sem]) rfl ?_
      exact ⟨hf1, .inl ⟨rfl, _, hR1, rfl, rfl, fun h => by cases h⟩⟩
    · rw [hr2] at hrun
      subst hrun
      go_wp2_with fail
      refine (rkey_end w1 g A c l 0 0 cnt2 reg 0 0 0 hR1 (by omega)).mono ?_
      rintro e w2 ⟨rfl, h2, hf2⟩
      go_wp2
      refine bodyPost_ret (v := .tuple #[.int .i64 0, .bool false]) (by simp [results, Try.results20, go_sem]) rfl ?_
      exact ⟨hf1.trans hf2, .inl ⟨rfl, _, h2, rfl, rfl, fun h => by cases h⟩⟩
    · rw [hr2] at hrun
      clear hr2
      have hkey := rkey_some w1 g A c l j2 0 0 cnt2 reg 0 0 0 hR1 hl hjl
      obtain ⟨k, hk⟩ : ∃ k, k = l.getD j2 0 := ⟨_, rfl⟩
      rw [← hk] at hkey hrun
      have HK := Lib.hid hkey
      have hpn : pNon ⟨0, 0, cnt2, reg, 0, 0, 18, vis, rc⟩ k = pBegin2 ⟨0, 0, cnt2, reg, 0, 0, 18, vis, rc⟩ k := by simp [pNon]
      rw [hpn] at hrun
      clear hk hkey hpn hR1
      by_cases h34 : k = 34
      · subst h34
        have hp : pBegin2 ⟨0, 0, cnt2, reg, 0, 0, 18, vis, rc⟩ 34 = (⟨0, 0, cnt2, reg, 0, 0, 18, vis, rc⟩, 34, 0) := by simp [pBegin2]
        rw [hp, pGo_more] at hrun
        clear hp
        by_cases hlt : j2 + 1 < l.length
        · rw [drop_at l (j2 + 1) hlt, reg_step] at hrun
          obtain ⟨x, hx⟩ : ∃ x, x = l.getD (j2 + 1) 0 := ⟨_, rfl⟩
          have HX := Lib.hid hx
          rw [← hx] at hrun
          clear hx
          have hcs : x < 65 ∨ (65 ≤ x ∧ x ≤ 90) ∨ (90 < x ∧ x < 97) ∨ (97 ≤ x ∧ x ≤ 122) ∨ 122 < x := by omega
          rcases hcs with h1 | ⟨h1, h2⟩ | ⟨h1, h2⟩ | ⟨h1, h2⟩ | h1
          · have hlb : letterB x true = false := by simp [letterB]; omega
            have hd1 : decide (97 ≤ x) = false := decide_eq_false (by omega)
            have hd3 : decide (65 ≤ x) = false := decide_eq_false (by omega)
            clear h1
            rw [hlb, if_neg (by simp)] at hrun
            subst hrun
            clear hlb
            go_wp2_with fail
            refine HK.out.mono ?_
            rintro e w2 ⟨rfl, h2, hf2⟩
            have hkey := rkey_some w2 g A c l (j2 + 1) 0 0 cnt2 reg 0 0 0 h2 hl hlt
            rw [← HX.out] at hkey
            have HK2 := Lib.hid hkey
            clear HK HX hkey h2
            go_wp2_with fail
            refine HK2.out.mono ?_
            rintro e w3 ⟨rfl, h3, hf3⟩
            clear HK2
            go_wp2_with fail
            refine (wrong_at w3 g A c l (j2 + 1 + 1) 0 0 cnt2 reg 0 0 0 h3).mono ?_
            rintro e w4 ⟨rfl, h4, hf4⟩
            go_wp2
            refine bodyPost_ret (v := .tuple #[.int .i64 0, .bool false]) (by simp [results, Try.results20, go_sem]) rfl ?_
            exact ⟨((hf1.trans hf2).trans hf3).trans hf4, .inl ⟨rfl, _, h4, rfl, rfl, fun h => by cases h⟩⟩
          · have hlb : letterB x true = true := by simp [letterB]; omega
            have hd1 : decide (97 ≤ x) = false := decide_eq_false (by omega)
            have hd3 : decide (65 ≤ x) = true := decide_eq_true (by omega)
            have hd4 : decide (x ≤ 90) = true := decide_eq_true (by omega)
            clear h1 h2
            rw [hlb, if_pos rfl] at hrun
            clear hlb
            go_wp2_with fail
            refine HK.out.mono ?_
            rintro e w2 ⟨rfl, h2, hf2⟩
            have hkey := rkey_some w2 g A c l (j2 + 1) 0 0 cnt2 reg 0 0 0 h2 hl hlt
            rw [← HX.out] at hkey
            have HK2 := Lib.hid hkey
            clear HK HX hkey h2
            go_wp2_with fail
            refine HK2.out.mono ?_
            rintro e w3 ⟨rfl, h3, hf3⟩
            clear HK2
            obtain ⟨hb3, hs3, hA3⟩ := h3
            have c5 : w3.cell? ⟨g, 5, none⟩ = some (.int .i64 reg) := hb3.cell 5
            have f5 := hb3.frozen 5
            have hf4 : Fr [some g] w3 (w3.setCell ⟨g, 5, none⟩ (.int .i64 x)) := (Fr.refl [some g] w3).setB (g := g) (by simp) 5 _
            go_wp2
            go_roundw
            case rel => exact ⟨j2 + 1 + 1, cnt2, x, ⟨hb3.set_ 5 _, hs3.fr hf4 (.inr (by simpa using hA3)), hA3⟩, ((hf1.trans hf2).trans hf3).trans hf4, by omega, h0, h9, hrun⟩
            case measure =>
              rw [hpos]
              simp only [posOf]
              rw [(hb3.set_ 5 _).cell 1]
              simp [rd, intOf]
              omega
          · have hlb : letterB x true = false := by simp [letterB]; omega
            have hd1 : decide (97 ≤ x) = false := decide_eq_false (by omega)
            have hd3 : decide (65 ≤ x) = true := decide_eq_true (by omega)
            have hd4 : decide (x ≤ 90) = false := decide_eq_false (by omega)
            clear h1 h2
            rw [hlb, if_neg (by simp)] at hrun
            subst hrun
            clear hlb
            go_wp2_with fail
            refine HK.out.mono ?_
            rintro e w2 ⟨rfl, h2, hf2⟩
            have hkey := rkey_some w2 g A c l (j2 + 1) 0 0 cnt2 reg 0 0 0 h2 hl hlt
            rw [← HX.out] at hkey
            have HK2 := Lib.hid hkey
            clear HK HX hkey h2
            go_wp2_with fail
            refine HK2.out.mono ?_
            rintro e w3 ⟨rfl, h3, hf3⟩
            clear HK2
            go_wp2_with fail
            refine (wrong_at w3 g A c l (j2 + 1 + 1) 0 0 cnt2 reg 0 0 0 h3).mono ?_
            rintro e w4 ⟨rfl, h4, hf4⟩
            go_wp2
            refine bodyPost_ret (v := .tuple #[.int .i64 0, .bool false]) (by simp [results, Try.results20, go_sem]) rfl ?_
            exact ⟨((hf1.trans hf2).trans hf3).trans hf4, .inl ⟨rfl, _, h4, rfl, rfl, fun h => by cases h⟩⟩
          · have hlb : letterB x true = true := by simp [letterB]; omega
            have hd1 : decide (97 ≤ x) = true := decide_eq_true (by omega)
            have hd2 : decide (x ≤ 122) = true := decide_eq_true (by omega)
            clear h1 h2
            rw [hlb, if_pos rfl] at hrun
            clear hlb
            go_wp2_with fail
            refine HK.out.mono ?_
            rintro e w2 ⟨rfl, h2, hf2⟩
            have hkey := rkey_some w2 g A c l (j2 + 1) 0 0 cnt2 reg 0 0 0 h2 hl hlt
            rw [← HX.out] at hkey
            have HK2 := Lib.hid hkey
            clear HK HX hkey h2
            go_wp2_with fail
            refine HK2.out.mono ?_
            rintro e w3 ⟨rfl, h3, hf3⟩
            clear HK2
            obtain ⟨hb3, hs3, hA3⟩ := h3
            have c5 : w3.cell? ⟨g, 5, none⟩ = some (.int .i64 reg) := hb3.cell 5
            have f5 := hb3.frozen 5
            have hf4 : Fr [some g] w3 (w3.setCell ⟨g, 5, none⟩ (.int .i64 x)) := (Fr.refl [some g] w3).setB (g := g) (by simp) 5 _
            go_wp2
            go_roundw
            case rel => exact ⟨j2 + 1 + 1, cnt2, x, ⟨hb3.set_ 5 _, hs3.fr hf4 (.inr (by simpa using hA3)), hA3⟩, ((hf1.trans hf2).trans hf3).trans hf4, by omega, h0, h9, hrun⟩
            case measure =>
              rw [hpos]
              simp only [posOf]
              rw [(hb3.set_ 5 _).cell 1]
              simp [rd, intOf]
              omega
          · have hlb : letterB x true = false := by simp [letterB]; omega
            have hd1 : decide (97 ≤ x) = true := decide_eq_true (by omega)
            have hd2 : decide (x ≤ 122) = false := decide_eq_false (by omega)
            have hd3 : decide (65 ≤ x) = true := decide_eq_true (by omega)
            have hd4 : decide (x ≤ 90) = false := decide_eq_false (by omega)
            clear h1
            rw [hlb, if_neg (by simp)] at hrun
            subst hrun
            clear hlb
            go_wp2_with fail
            refine HK.out.mono ?_
            rintro e w2 ⟨rfl, h2, hf2⟩
            have hkey := rkey_some w2 g A c l (j2 + 1) 0 0 cnt2 reg 0 0 0 h2 hl hlt
            rw [← HX.out] at hkey
            have HK2 := Lib.hid hkey
            clear HK HX hkey h2
            go_wp2_with fail
            refine HK2.out.mono ?_
            rintro e w3 ⟨rfl, h3, hf3⟩
            clear HK2
            go_wp2_with fail
            refine (wrong_at w3 g A c l (j2 + 1 + 1) 0 0 cnt2 reg 0 0 0 h3).mono ?_
            rintro e w4 ⟨rfl, h4, hf4⟩
            go_wp2
            refine bodyPost_ret (v := .tuple #[.int .i64 0, .bool false]) (by simp [results, Try.results20, go_sem]) rfl ?_
            exact ⟨((hf1.trans hf2).trans hf3).trans hf4, .inl ⟨rfl, _, h4, rfl, rfl, fun h => by cases h⟩⟩
        · have hje : j2 + 1 = l.length := by omega
          rw [hje, List.drop_length] at hrun
          have ht2 : (Zero5, 0, 0) = T := hrun
          subst ht2
          clear hrun
          go_wp2_with fail
          refine HK.out.mono ?_
          rintro e w2 ⟨rfl, h2, hf2⟩
          rw [hje] at h2
          clear HK
          go_wp2_with fail
          refine (rkey_end w2 g A c l 0 0 cnt2 reg 0 0 0 h2 (by omega)).mono ?_
          rintro e w3 ⟨rfl, h3, hf3⟩
          go_wp2
          refine bodyPost_ret (v := .tuple #[.int .i64 0, .bool false]) (by simp [results, Try.results20, go_sem]) rfl ?_
          exact ⟨(hf1.trans hf2).trans hf3, .inl ⟨rfl, _, h3, rfl, rfl, fun h => by cases h⟩⟩
      · have h34' : (k != 34) = true := by simpa using h34
        go_wp2_with fail
        refine HK.out.mono ?_
        rintro e w2 ⟨rfl, h2, hf2⟩
        clear HK
        go_wp2
        refine bodyPost_ret (v := .tuple #[.int .i64 k, .bool true]) (by simp [results, Try.results20, go_sem]) rfl ?_
        exact ⟨hf1.trans hf2, .inr ⟨_, _, _, k, rfl, h2, by omega, h0, h9, h34, hrun⟩⟩
end Go.Proofs.Ythhkannmeljfkaa
