import Derived.Test.YthhkannmeljfkaaP5
namespace Go.Proofs.Ythhkannmeljfkaa
open Go.RowKit Go.Proofs.Dm

theorem pPrint_len (a b c d e : Int) : (pPrint a b c d e).length ≤ 10 := by
  unfold pPrint
  split
  · exact ckeys_le a b c d e
  · simp
/-- Of what is printed, each key tells as it should. -/
theorem pPrint_tell (a b c d e : Int) (q : Nat) (h : q < (pPrint a b c d e).length) :
    (q + 1 < (pPrint a b c d e).length ∧ tell1 (kst (pPrint a b c d e) q) ((pPrint a b c d e).getD q 0) = (five 0 0 0 0 0, 0, 0)) ∨
    (q + 1 = (pPrint a b c d e).length ∧ tell1 (kst (pPrint a b c d e) q) ((pPrint a b c d e).getD q 0) = (five a b c d e, 1, 0)) := by
  unfold pPrint at *
  split at h
  · rename_i hc
    rw [if_pos hc]
    by_cases hq : q + 1 < (ckeys a b c d e).length
    · exact .inl ⟨hq, ((made_all _ rfl hc.2.2).1 q hq).2.1⟩
    · have h1 := hc.2.2
      unfold Made at h1
      rw [show (ckeys a b c d e).length - 1 = q by omega] at h1
      exact .inr ⟨by omega, h1⟩
  · simp at h

set_option maxRecDepth 100000 in
set_option maxHeartbeats 3200000 in
theorem prints_walk (a b c d e : Int) (w : World) (hb : b ≤ 9223372036854775807) :
    Calls Try.prog 6 #[.agg #[.int .i64 a, .int .i64 b, .int .i64 c, .int .i64 d, .int .i64 e]] w fun x w' => x = .returned (.bool true) ∧ Fr [] w w' := by
  have hf1 : Fr [] w (w.alloc (.cells #[.int .i64 a, .int .i64 b, .int .i64 c, .int .i64 d, .int .i64 e] 26)) := (Fr.refl [] w).alloc _
  have hB1 : Blk (w.alloc (.cells #[.int .i64 a, .int .i64 b, .int .i64 c, .int .i64 d, .int .i64 e] 26)) w.heap.size 26 #[.int .i64 a, .int .i64 b, .int .i64 c, .int .i64 d, .int .i64 e] := Blk.new w 26 _
  have hle := pPrint_len a b c d e
  have htell := pPrint_tell a b c d e
  obtain ⟨l, hl⟩ : ∃ l, l = pPrint a b c d e := ⟨_, rfl⟩
  rw [← hl] at hle htell
  have HL := Lib.hid hl
  have HT := Lib.hid htell
  clear hl htell
  go_enter Try.func6, Try.ntmps6
  go_wp2_with fail
  refine (print_walk a b c d e _ hb).mono ?_
  rintro ee w1 ⟨A, cc, rfl, hs, hf, hA⟩
  rw [← HL.out] at hs ⊢
  have hF1 := hf1.trans hf
  have hB2 := Blk.fr hB1 hf (by simp)
  have m0 : w1.cell? ⟨w.heap.size, 0, none⟩ = some (.int .i64 a) := hB2.cell 0
  have m1 : w1.cell? ⟨w.heap.size, 1, none⟩ = some (.int .i64 b) := hB2.cell 1
  have m2 : w1.cell? ⟨w.heap.size, 2, none⟩ = some (.int .i64 c) := hB2.cell 2
  have m3 : w1.cell? ⟨w.heap.size, 3, none⟩ = some (.int .i64 d) := hB2.cell 3
  have m4 : w1.cell? ⟨w.heap.size, 4, none⟩ = some (.int .i64 e) := hB2.cell 4
  have HA := Lib.hid hA
  clear hf hf1 hB1 hA
  go_wp2_with fail
  refine (ours_at a b c d e _).mono ?_
  rintro ee w2 ⟨rfl, hf2⟩
  go_wp2_with fail
  refine (rprint_walk a b c d e _ hb).mono ?_
  rintro ee w3 ⟨A3, c3, rfl, hs3, hf3, hA3⟩
  rw [← HL.out] at hs3 ⊢
  clear hA3
  go_wp2_with fail
  refine (same_yes A A3 cc c3 l w3 (hs.fr (hf2.trans hf3) (.inr List.not_mem_nil)) hs3 (by omega)).mono ?_
  rintro ee w4 ⟨rfl, hf4⟩
  have hF4 := ((hF1.trans hf2).trans hf3).trans hf4
  have hB4 := Blk.fr hB2 ((hf2.trans hf3).trans hf4) (by simp)
  have hs4 := hs.fr ((hf2.trans hf3).trans hf4) (.inr List.not_mem_nil)
  clear m0 m1 m2 m3 m4 hs hs3 hf2 hf3 hf4 hF1 hB2
  go_wp2_with fail
  refine (new_at w4).mono ?_
  rintro ee w5 ⟨g, rfl, hg, hg1, hf5, hP0⟩
  have hP5 : PAt (· < w4.heap.size) w5 w5 g (kst l 0).1 (kst l 0).2 := hP0 _ _ _ (FrU.refl _ w5 (fun k hk => Nat.lt_of_lt_of_le hk hf5.size)) (by omega) (Fr.refl [] w5)
  clear hP0
  go_wp2_with fail
  go_loopw [21] (fun i wr => ∃ q : Nat, i = .int .i64 q ∧ q ≤ l.length ∧ PAt (· < w4.heap.size) wr wr g (kst l q).1 (kst l q).2 ∧ Fr [] w4 wr) (fun i _ => l.length - (intOf i).toNat)
  case atStart => exact ⟨0, rfl, by omega, hP5, hf5⟩
  case round =>
    obtain ⟨q, rfl, hq, hP, hF⟩ := hrel
    by_cases hlt : q < l.length
    · obtain ⟨ad, rfl, hcell⟩ := sl_ints (hs4.fr hF (.inr List.not_mem_nil)) hlt
      have hnext : kst l (q + 1) = step1 (kst l q) (l.getD q 0) := rfl
      have hJ := J_kst l q
      have hkl := kst_len l q
      rcases HT.out q hlt with ⟨hend, ht⟩ | ⟨hend, ht⟩
      · have hkey := key_kst _ wr g (kst l q) (l.getD q 0) hP hJ (by omega) 0 0 0 0 0 0 0 ht
        rw [← hnext] at hkey
        obtain ⟨k, hk⟩ : ∃ k, k = l.getD q 0 := ⟨_, rfl⟩
        rw [← hk] at hcell hkey
        have HK := Lib.hid hkey
        have hqe : ((q : Int) == (l.length : Int) - 1) = false := by simp; omega
        clear hk hnext hkey ht hP5 hf5 hJ hkl
        go_wp2_with fail
        refine HK.out.mono ?_
        rintro ee w6 ⟨rfl, hP6⟩
        have hF6 : Fr [] w4 w6 := fru_fr hF hP6.1 (fun k hk => hk)
        clear HK
        go_wp2_with fail
        go_roundw
        case rel => exact ⟨q + 1, by go_num, by omega, PAt.on (hP6.re (Fr.refl [] _) (by simp) (U' := (· < w4.heap.size)) (fun k hk => ⟨Nat.lt_of_lt_of_le hk hF6.size, .inl hk⟩)) ((Fr.refl [] w6).alloc _), hF6.trans ((Fr.refl [] w6).alloc _)⟩
        case measure => simp [intOf]; omega
      · have hkey := key_kst _ wr g (kst l q) (l.getD q 0) hP hJ (by omega) a b c d e 1 0 ht
        rw [← hnext] at hkey
        obtain ⟨k, hk⟩ : ∃ k, k = l.getD q 0 := ⟨_, rfl⟩
        rw [← hk] at hcell hkey
        have HK := Lib.hid hkey
        have hqe : (q : Int) = (l.length : Int) - 1 := by omega
        have hqe2 : ((q : Int) == (l.length : Int) - 1) = true := by simpa using hqe
        have HQE := Lib.hid hqe
        clear hk hnext hkey ht hP5 hf5 hJ hkl hqe
        go_wp2_with fail
        refine HK.out.mono ?_
        rintro ee w6 ⟨rfl, hP6⟩
        have hF6 : Fr [] w4 w6 := fru_fr hF hP6.1 (fun k hk => hk)
        have hB6 : Blk w6 w.heap.size 26 #[.int .i64 a, .int .i64 b, .int .i64 c, .int .i64 d, .int .i64 e] := hB4.fr hF6 (by simp)
        have m0 : w6.cell? ⟨w.heap.size, 0, none⟩ = some (.int .i64 a) := hB6.cell 0
        have m1 : w6.cell? ⟨w.heap.size, 1, none⟩ = some (.int .i64 b) := hB6.cell 1
        have m2 : w6.cell? ⟨w.heap.size, 2, none⟩ = some (.int .i64 c) := hB6.cell 2
        have m3 : w6.cell? ⟨w.heap.size, 3, none⟩ = some (.int .i64 d) := hB6.cell 3
        have m4 : w6.cell? ⟨w.heap.size, 4, none⟩ = some (.int .i64 e) := hB6.cell 4
        have hbl := hB6.lt
        clear HK hB6
        go_wp2_with fail
        go_roundw
        case rel => exact ⟨q + 1, by go_num, by omega, PAt.on (hP6.re (Fr.refl [] _) (by simp) (U' := (· < w4.heap.size)) (fun k hk => ⟨Nat.lt_of_lt_of_le hk hF6.size, .inl hk⟩)) ((Fr.refl [] w6).alloc _), hF6.trans ((Fr.refl [] w6).alloc _)⟩
        case measure => simp [intOf]; omega
    · obtain rfl : q = l.length := by omega
      clear hP5 hf5
      go_wp2_with fail
      refine (awake_yes _).mono ?_
      rintro ee w6 ⟨rfl, hf6⟩
      go_wp2
      go_ret
      exact ⟨rfl, (hF4.trans hF).trans hf6⟩
end Go.Proofs.Ythhkannmeljfkaa
