import Derived.Test.YthhkannmeljfkaaP3
import Derived.Test.YthhkannmeljfkaaR11
import Derived.Test.YthhkannmeljfkaaCopy
namespace Go.Proofs.Ythhkannmeljfkaa
open Go.RowKit Go.Proofs.Dm

theorem tell1_five (s : PS × List Int) (k : Int) : ∃ a b c d e t u, tell1 s k = (five a b c d e, t, u) ∧ (t = 0 ∨ t = 1 ∨ t = 2) := by
  unfold tell1
  split
  · exact ⟨0, 0, 0, 0, 0, 0, 0, rfl, by omega⟩
  · rcases told_three _ (pStep_st (prep s.1 0 false) k) [] with ⟨a, b, c, d, e, u, ht, _⟩ | ⟨u, ht, _⟩ | ⟨u, ht, _⟩
    · exact ⟨_, _, _, _, _, _, _, ht, by omega⟩
    · exact ⟨_, _, _, _, _, _, _, ht, by omega⟩
    · exact ⟨_, _, _, _, _, _, _, ht, by omega⟩
theorem key_kst (U : Nat → Prop) (wr : World) (g : Nat) (s : PS × List Int) (k : Int) (hP : PAt U wr wr g s.1 s.2) (hJ : J s) (hl : s.2.length < 1000000) (a b c d e t u : Int) (ht : tell1 s k = (five a b c d e, t, u)) :
    Calls Try.prog 8 #[.pointer (some ⟨g, 0, none⟩), .int .i64 k, .int .i64 0, .bool false] wr fun ee w' => ee = .returned (.tuple #[.agg #[.int .i64 a, .int .i64 b, .int .i64 c, .int .i64 d, .int .i64 e], .int .i64 t, .int .i64 u]) ∧ PAt U wr w' g (step1 s k).1 (step1 s k).2 := by
  unfold tell1 at ht
  unfold step1
  split at ht
  · rename_i hk
    subst hk
    rw [if_pos rfl]
    simp only [five, Prod.mk.injEq, List.cons.injEq, Value.int.injEq, true_and, and_true] at ht
    obtain ⟨⟨rfl, rfl, rfl, rfl, rfl⟩, rfl, rfl⟩ := ht
    exact esc_at _ wr wr g s.1 s.2 0 false hP
  · rename_i hk
    rw [if_neg hk]
    have hkey := key_at _ wr wr g s.1 s.2 k 0 false hP hJ.g hl hk _ rfl
    rw [ht] at hkey
    exact hkey

def pre1 (d : Int) : List Int := if d = 0 then [] else [34, d]
def pre2 (c d : Int) : List Int := pre1 d ++ dg c
def pre3 (a c d : Int) : List Int := pre2 c d ++ (if a = 0 then [] else [a])
def pre4 (a b c d : Int) : List Int := pre3 a c d ++ spl b
theorem pre5 (a b c d e : Int) : ckeys a b c d e = pre4 a b c d ++ (if e = 0 then [] else [e]) := rfl
theorem one_le (x : Int) : one x ≤ 1 := by unfold one; split <;> omega
theorem pre1_len (d : Int) : (pre1 d).length ≤ 2 := by unfold pre1; split <;> simp
theorem pre2_len (c d : Int) : (pre2 c d).length ≤ 6 := by unfold pre2; have := pre1_len d; have := dg_len c; rw [List.length_append]; omega
theorem pre3_len (a c d : Int) : (pre3 a c d).length ≤ 7 := by unfold pre3; have := pre2_len c d; rw [List.length_append]; split <;> simp <;> omega
theorem pre4_len (a b c d : Int) : (pre4 a b c d).length ≤ 9 := by unfold pre4; have := pre3_len a c d; have := vl_le b; rw [List.length_append, spl_len]; omega
theorem ckeys_le (a b c d e : Int) : (ckeys a b c d e).length ≤ 10 := by rw [pre5]; have := pre4_len a b c d; rw [List.length_append]; split <;> simp <;> omega
theorem ckeys_pos (a b c d e : Int) : 0 < (ckeys a b c d e).length := by rw [ckeys_len]; unfold klen; have := vl_le b; omega
theorem pPrint_made {a b c d e : Int} (h0 : 0 ≤ c) (h1 : c ≤ 9999) {l : List Int} (hl : l = ckeys a b c d e) (h : Made a b c d e l) : pPrint a b c d e = l := by subst hl; unfold pPrint; rw [if_pos ⟨h0, h1, h⟩]
theorem pPrint_not {a b c d e : Int} (h : ¬ Made a b c d e (ckeys a b c d e)) : pPrint a b c d e = [] := by unfold pPrint; rw [if_neg (fun x => h x.2.2)]
theorem pPrint_out {a b c d e : Int} (h : c < 0 ∨ 9999 < c) : pPrint a b c d e = [] := by unfold pPrint; rw [if_neg (fun x => by omega)]

/-- Where the printing stands: a row of its own, of such numbers. -/
def At3 (w : World) (G : Nat) (C : Array Value) (T : TypeId) (xs : List Int) (s : Value) (wx : World) : Prop :=
  ∃ A c, s = .slice A xs.length c ∧ IRow wx 3 A c xs ∧ Fr [] w wx ∧ Blk wx G T C ∧ (∀ j, bk A = some j → w.heap.size ≤ j ∧ j ≠ G)
theorem at3_app {w wr w3 : World} {G : Nat} {C : Array Value} {T : TypeId} {xs ys : List Int} {A A1 : Option Addr} {c1 : Nat} {n : Nat} (hf : Fr [] w wr) (hB : Blk wr G T C) (hA : ∀ j, bk A = some j → w.heap.size ≤ j ∧ j ≠ G)
    (hr3 : ORow w3 3 1 A1 c1 n (ints xs ++ ints ys)) (hn : n = xs.length + ys.length) (hg3 : Fr [bk A] wr w3) (hb3 : bk A1 = bk A ∨ bk A1 = some wr.heap.size) : At3 w G C T (xs ++ ys) (.slice A1 n c1) w3 := by
  subst hn
  refine ⟨A1, c1, by simp, by rw [← ints_app] at hr3; unfold IRow; rw [List.length_append]; exact hr3, hf.seq hg3 ?_, hB.fr hg3 ?_, ?_⟩
  · intro x hx
    simp at hx; subst hx
    cases hb : bk A with
    | none => exact .inr (.inl rfl)
    | some j => exact .inr (.inr ⟨j, (hA j hb).1, rfl⟩)
  · intro h
    simp at h
    exact (hA G h.symm).2 rfl
  · intro j hj
    rcases hb3 with h | h
    · exact hA j (h ▸ hj)
    · rw [h] at hj; injection hj with hj; have := hf.size; have := hB.lt; omega

/-- What a printing answers: such a row, in memory of its own. -/
def PrintAns (w : World) (l : List Int) (x : Ending) (w' : World) : Prop := ∃ A cc, x = .returned (.slice A l.length cc) ∧ Sl w' A (ints l) ∧ Fr [] w w' ∧ (∀ j, bk A = some j → w.heap.size ≤ j ∧ j < w'.heap.size)
theorem printAns_nil {w w' : World} (l : List Int) (h : l = []) (hf : Fr [] w w') : PrintAns w l (.returned (.slice none 0 0)) w' := by
  subst h
  exact ⟨none, 0, rfl, .inl rfl, hf, by intro j hj; cases hj⟩

set_option maxRecDepth 100000 in
set_option maxHeartbeats 3200000 in
theorem print_walk (a b c d e : Int) (w : World) (hb : b ≤ 9223372036854775807) :
    Calls Try.prog 16 #[.agg #[.int .i64 a, .int .i64 b, .int .i64 c, .int .i64 d, .int .i64 e]] w (PrintAns w (pPrint a b c d e)) := by
  have hf1 : Fr [] w (w.alloc (.cells #[.int .i64 a, .int .i64 b, .int .i64 c, .int .i64 d, .int .i64 e] 26)) := (Fr.refl [] w).alloc _
  have hB1 : Blk (w.alloc (.cells #[.int .i64 a, .int .i64 b, .int .i64 c, .int .i64 d, .int .i64 e] 26)) w.heap.size 26 #[.int .i64 a, .int .i64 b, .int .i64 c, .int .i64 d, .int .i64 e] := Blk.new w 26 _
  go_enter Try.func16, Try.ntmps16
  go_upto_if 12 with fail
  generalize (w.alloc (.cells #[.int .i64 a, .int .i64 b, .int .i64 c, .int .i64 d, .int .i64 e] 26)) = W1 at hf1 hB1 ⊢
  have hA1 : At3 w w.heap.size #[.int .i64 a, .int .i64 b, .int .i64 c, .int .i64 d, .int .i64 e] 26 [] (.slice none 0 0) W1 := ⟨none, 0, rfl, IRow.nil_ _ _, hf1, hB1, by intro j hj; cases hj⟩
  have c3 : W1.cell? ⟨w.heap.size, 3, none⟩ = some (.int .i64 d) := hB1.cell 3
  go_cut [3] (fun s3 wx => At3 w w.heap.size #[.int .i64 a, .int .i64 b, .int .i64 c, .int .i64 d, .int .i64 e] 26 (pre1 d) s3 wx)
  case first =>
    by_cases hd : d = 0
    · subst hd
      go_wp2
      go_meet
      exact hA1
    · have hd' : (d != 0) = true := by simpa using hd
      have HP : Hid (pre1 d = [34, d]) := by show _ = _; simp [pre1, hd]
      have hnil := ORow.nil_ (W1.alloc (.cells #[.int .i64 34, .int .i64 d] 3)) 3 1
      go_wp2_with (first | (at_builtin; go_must (
        refine wpList_app _ rfl _ _ 22 3 rfl (.int .i64 0) 1 8 Try.underlying22 info3 rfl (by decide) none 0 0 [] rfl hnil _ 2 2 (ints [34, d]) rfl rfl (blk_sl (Blk.new W1 3 #[.int .i64 34, .int .i64 d]) 2) (ints_one _) (by decide) (by decide) ?_
        intro A1 ca1 w3 hr3 hg3 hb3)))
      go_meet
      rw [HP.out]
      exact at3_app (xs := []) (ys := [34, d]) (hf1.alloc _) (hB1.alloc _) (by intro j hj; cases hj) hr3 rfl hg3 hb3
  case rest =>
    obtain ⟨A, cc, rfl, hrow, hf, hB, hA⟩ := hcut
    have HA := Lib.hid hA
    have hl1 := pre1_len d
    clear hA1 c3 hf1 hB1 hA
    have k2 : wc.cell? ⟨w.heap.size, 2, none⟩ = some (.int .i64 c) := hB.cell 2
    by_cases h0 : c < 0
    · go_wp2
      go_ret
      exact printAns_nil _ (pPrint_out (.inl h0)) hf
    · by_cases h1 : 9999 < c
      · go_wp2
        go_ret
        exact printAns_nil _ (pPrint_out (.inr h1)) hf
      · have h0' : 0 ≤ c := by omega
        have h1' : c ≤ 9999 := by omega
        clear h0 h1
        have hl2 := dg_len c
        go_upto_if 33 with (first
          | (go_at_call 30; go_must (
              refine (digits_any c wc h0' h1').mono ?_
              rintro ee w2 ⟨A2, c2, rfl, hr2, hf2, hA2⟩))
          | (at_builtin; go_must (
              refine wpList_app _ rfl _ _ 22 3 rfl (.int .i64 0) 1 8 Try.underlying22 info3 rfl (by decide) A cc (pre1 d).length (ints (pre1 d)) rfl (hrow.fr hf2 (.inr List.not_mem_nil)) A2 (dg c).length c2 (ints (dg c)) rfl (ints_len _) (hr2.sl) (ints_one _) (by simp only [maxLen]; omega) (by omega) ?_
              intro A3 c3 w3 hr3 hg3 hb3
              have hA3 : At3 w w.heap.size #[.int .i64 a, .int .i64 b, .int .i64 c, .int .i64 d, .int .i64 e] 26 (pre2 c d) (.slice A3 ((pre1 d).length + (dg c).length) c3) w3 := at3_app (hf.trans hf2) (hB.fr hf2 (by simp)) HA.out hr3 rfl hg3 hb3
              have k0 : w3.cell? ⟨w.heap.size, 0, none⟩ = some (.int .i64 a) := by obtain ⟨_, _, _, _, _, h, _⟩ := hA3; exact h.cell 0
              clear hr3 hg3 hb3 hr2 hf2 hA2 hrow hf hB HA k2)))
        go_cut [3] (fun s3 wx => At3 w w.heap.size #[.int .i64 a, .int .i64 b, .int .i64 c, .int .i64 d, .int .i64 e] 26 (pre3 a c d) s3 wx)
        case first =>
          obtain ⟨A, cc, hs, hrow, hf, hB, hA⟩ := hA3
          injection hs with hs1 hs2 hs3
          subst hs1 hs3
          have hl3 := pre2_len c d
          have HA := Lib.hid hA
          have hA3 : At3 w w.heap.size #[.int .i64 a, .int .i64 b, .int .i64 c, .int .i64 d, .int .i64 e] 26 (pre2 c d) (.slice A3 ((pre1 d).length + (dg c).length) c3) w3 := by rw [hs2]; exact ⟨_, _, rfl, hrow, hf, hB, hA⟩
          by_cases ha : a = 0
          · subst ha
            go_wp2
            go_meet
            have : pre3 0 c d = pre2 c d := by simp [pre3]
            rw [this]
            exact hA3
          · have ha' : (a != 0) = true := by simpa using ha
            have HP : Hid (pre3 a c d = pre2 c d ++ [a]) := by show _ = _; simp [pre3, ha]
            clear hA
            rw [hs2]
            clear hs2 hA3
            go_wp2_with (first | (at_builtin; go_must (
              refine wpList_app _ rfl _ _ 22 3 rfl (.int .i64 0) 1 8 Try.underlying22 info3 rfl (by decide) A3 c3 (pre2 c d).length (ints (pre2 c d)) rfl (hrow.fr (Fr.alloc (Fr.refl [] w3) _) (.inr List.not_mem_nil)) _ 1 1 (ints [a]) rfl (ints_len _) (sl_new w3 _ 3) (ints_one _) (by simp only [maxLen]; omega) (by omega) ?_
              intro A4 c4 w4 hr4 hg4 hb4)))
            go_meet
            rw [HP.out]
            exact at3_app (hf.alloc _) (hB.alloc _) HA.out hr4 rfl hg4 hb4
        case rest =>
          clear hA3 k0 hl1 hl2
          obtain ⟨A, cc, rfl, hrow, hf, hB, hA⟩ := hcut
          have HA := Lib.hid hA
          have hl3 := pre3_len a c d
          have hl4 : (spl b).length ≤ 2 := by rw [spl_len]; exact (vl_le b).2
          clear hA
          have k1 : wc.cell? ⟨w.heap.size, 1, none⟩ = some (.int .i64 b) := hB.cell 1
          go_upto_if 46 with (first
            | (go_at_call 31; go_must (
                refine (spelled_any b wc hb).mono ?_
                rintro ee w4 ⟨A4, c4, rfl, hr4, hf4, hA4⟩))
            | (at_builtin; go_must (
                refine wpList_app _ rfl _ _ 22 3 rfl (.int .i64 0) 1 8 Try.underlying22 info3 rfl (by decide) A cc (pre3 a c d).length (ints (pre3 a c d)) rfl (hrow.fr hf4 (.inr List.not_mem_nil)) A4 (spl b).length c4 (ints (spl b)) rfl (ints_len _) (hr4.sl) (ints_one _) (by simp only [maxLen]; omega) (by omega) ?_
                intro A5 c5 w5 hr5 hg5 hb5
                have hA5 : At3 w w.heap.size #[.int .i64 a, .int .i64 b, .int .i64 c, .int .i64 d, .int .i64 e] 26 (pre4 a b c d) (.slice A5 ((pre3 a c d).length + (spl b).length) c5) w5 := at3_app (hf.trans hf4) (hB.fr hf4 (by simp)) HA.out hr5 rfl hg5 hb5
                have k4 : w5.cell? ⟨w.heap.size, 4, none⟩ = some (.int .i64 e) := by obtain ⟨_, _, _, _, _, h, _⟩ := hA5; exact h.cell 4
                clear hr5 hg5 hb5 hr4 hf4 hA4 hrow hf hB HA k1)))
          go_cut [3] (fun s3 wx => At3 w w.heap.size #[.int .i64 a, .int .i64 b, .int .i64 c, .int .i64 d, .int .i64 e] 26 (ckeys a b c d e) s3 wx)
          case first =>
            obtain ⟨A, cc, hs, hrow, hf, hB, hA⟩ := hA5
            injection hs with hs1 hs2 hs3
            subst hs1 hs3
            have hl5 := pre4_len a b c d
            have HA := Lib.hid hA
            have hA5 : At3 w w.heap.size #[.int .i64 a, .int .i64 b, .int .i64 c, .int .i64 d, .int .i64 e] 26 (pre4 a b c d) (.slice A5 ((pre3 a c d).length + (spl b).length) c5) w5 := by rw [hs2]; exact ⟨_, _, rfl, hrow, hf, hB, hA⟩
            by_cases he : e = 0
            · subst he
              go_wp2
              go_meet
              have : ckeys a b c d 0 = pre4 a b c d := by simp [pre5]
              rw [this]
              exact hA5
            · have he' : (e != 0) = true := by simpa using he
              have HP : Hid (ckeys a b c d e = pre4 a b c d ++ [e]) := by show _ = _; simp [pre5, he]
              clear hA
              rw [hs2]
              clear hs2 hA5
              go_wp2_with (first | (at_builtin; go_must (
                refine wpList_app _ rfl _ _ 22 3 rfl (.int .i64 0) 1 8 Try.underlying22 info3 rfl (by decide) A5 c5 (pre4 a b c d).length (ints (pre4 a b c d)) rfl (hrow.fr (Fr.alloc (Fr.refl [] w5) _) (.inr List.not_mem_nil)) _ 1 1 (ints [e]) rfl (ints_len _) (sl_new w5 _ 3) (ints_one _) (by simp only [maxLen]; omega) (by omega) ?_
                intro A6 c6 w6 hr6 hg6 hb6)))
              go_meet
              rw [HP.out]
              exact at3_app (hf.alloc _) (hB.alloc _) HA.out hr6 rfl hg6 hb6
          case rest =>
            clear hA5 k4 hl3 hl4
            obtain ⟨A, cc, rfl, hrow, hf, hB, hA⟩ := hcut
            have HA := Lib.hid hA
            have hle := ckeys_le a b c d e
            have hpos := ckeys_pos a b c d e
            have hsl : Sl wc A (ints (ckeys a b c d e)) := hrow.sl
            have hAl : ∀ j, bk A = some j → j < wc.heap.size := fun j hj => hrow.lt hj
            obtain ⟨l, hl⟩ : ∃ l, l = ckeys a b c d e := ⟨_, rfl⟩
            rw [← hl] at hrow hle hpos hsl ⊢
            have HL := Lib.hid hl
            have HAl := Lib.hid hAl
            clear hA hl hAl hrow
            go_wp2_with fail
            refine (new_at wc).mono ?_
            rintro ee w1 ⟨g, rfl, hg, hg1, hf1, hP0⟩
            have hP1 : PAt (· < wc.heap.size) w1 w1 g (kst l 0).1 (kst l 0).2 := hP0 _ _ _ (FrU.refl _ w1 (fun k hk => Nat.lt_of_lt_of_le hk hf1.size)) (by omega) (Fr.refl [] w1)
            have hFs : Fr [] wc w1 := hf1
            clear hP0 hf1
            go_wp2_with fail
            go_loopw [55] (fun i wr => ∃ q : Nat, i = .int .i64 q ∧ q ≤ l.length ∧ PAt (· < wc.heap.size) wr wr g (kst l q).1 (kst l q).2 ∧ Fr [] wc wr ∧ Hid (q = l.length → ¬ Made a b c d e l)) (fun i _ => l.length - (intOf i).toNat)
            case atStart => exact ⟨0, rfl, by omega, hP1, hFs, fun h => by omega⟩
            case round =>
              obtain ⟨q, rfl, hq, hP, hF, HM⟩ := hrel
              by_cases hlt : q < l.length
              · obtain ⟨ad, rfl, hcell⟩ := sl_ints (hsl.fr hF (.inr List.not_mem_nil)) hlt
                obtain ⟨a1, b1, c1, d1, e1, t, u, ht, ht3⟩ := tell1_five (kst l q) (l.getD q 0)
                have hkey := key_kst _ wr g (kst l q) (l.getD q 0) hP (J_kst l q) (by have := kst_len l q; omega) a1 b1 c1 d1 e1 t u ht
                have hnext : kst l (q + 1) = step1 (kst l q) (l.getD q 0) := rfl
                rw [← hnext] at hkey
                obtain ⟨k, hk⟩ : ∃ k, k = l.getD q 0 := ⟨_, rfl⟩
                rw [← hk] at hcell hkey
                have HK := Lib.hid hkey
                have HT := Lib.hid ht
                clear hk hnext hkey ht hP1 hFs HM
                go_wp2_with fail
                refine HK.out.mono ?_
                rintro ee w3 ⟨rfl, hP3⟩
                have hF3 : Fr [] wc w3 := fru_fr hF hP3.1 (fun k hk => hk)
                have hB3 : Blk w3 w.heap.size 26 #[.int .i64 a, .int .i64 b, .int .i64 c, .int .i64 d, .int .i64 e] := hB.fr hF3 (by simp)
                have m0 : w3.cell? ⟨w.heap.size, 0, none⟩ = some (.int .i64 a) := hB3.cell 0
                have m1 : w3.cell? ⟨w.heap.size, 1, none⟩ = some (.int .i64 b) := hB3.cell 1
                have m2 : w3.cell? ⟨w.heap.size, 2, none⟩ = some (.int .i64 c) := hB3.cell 2
                have m3 : w3.cell? ⟨w.heap.size, 3, none⟩ = some (.int .i64 d) := hB3.cell 3
                have m4 : w3.cell? ⟨w.heap.size, 4, none⟩ = some (.int .i64 e) := hB3.cell 4
                have hbl := hB3.lt
                clear hB3 HK
                by_cases ht1 : t = 1
                · subst ht1
                  by_cases hend : q + 1 < l.length
                  · have hqe : ((q : Int) == (l.length : Int) - 1) = false := by simp; omega
                    go_wp2_with fail
                    go_roundw
                    case rel =>
                      have hfx := (Fr.refl [] w3).alloc (.cells #[.int .i64 a1, .int .i64 b1, .int .i64 c1, .int .i64 d1, .int .i64 e1] 26)
                      exact ⟨q + 1, by go_num, by omega, PAt.on (hP3.re (Fr.refl [] _) (by simp) (U' := (· < wc.heap.size)) (fun k hk => ⟨Nat.lt_of_lt_of_le hk hF3.size, .inl hk⟩)) hfx, hF3.trans hfx, fun h => by omega⟩
                    case measure => simp [intOf]; omega
                  · have hqe : (q : Int) = (l.length : Int) - 1 := by omega
                    have hqn : q = l.length - 1 := by omega
                    by_cases hall : a1 = a ∧ b1 = b ∧ c1 = c ∧ d1 = d ∧ e1 = e
                    · obtain ⟨rfl, rfl, rfl, rfl, rfl⟩ := hall
                      have hu := (J_told (J_kst l q) HT.out).2.2
                      have hm : Made a1 b1 c1 d1 e1 l := by
                        have h := HT.out
                        rw [hu, hqn] at h
                        exact h
                      have HM := Lib.hid hm
                      have HQE := Lib.hid hqe
                      have hqe2 : ((q : Int) == (l.length : Int) - 1) = true := by simpa using hqe
                      clear hm hqn hqe
                      go_wp2_with fail
                      go_ret
                      have hpp := pPrint_made h0' h1' (l := l) HL.out HM.out
                      rw [hpp]
                      have hfx := (Fr.refl [] w3).alloc (.cells #[.int .i64 a1, .int .i64 b1, .int .i64 c1, .int .i64 d1, .int .i64 e1] 26)
                      exact ⟨_, _, rfl, hsl.fr (hF3.trans hfx) (.inr List.not_mem_nil), hf.trans (hF3.trans hfx), fun j hj => ⟨(HA.out j hj).1, Nat.lt_of_lt_of_le (HAl.out j hj) (hF3.trans hfx).size⟩⟩
                    · have HNM : Hid (¬ Made a b c d e l) := by
                        show ¬ _
                        intro h2
                        have h := HT.out
                        unfold Made at h2
                        rw [show l.length - 1 = q by omega, h] at h2
                        simp only [five, Prod.mk.injEq, List.cons.injEq, Value.int.injEq, true_and, and_true] at h2
                        exact hall h2.1
                      have HQE := Lib.hid hqe
                      have hqe2 : ((q : Int) == (l.length : Int) - 1) = true := by simpa using hqe
                      clear hqn hqe
                      go_wp2_with fail
                      all_goals (try (exfalso; exact hall ⟨by assumption, by assumption, by assumption, by assumption, by assumption⟩))
                      all_goals
                        go_roundw
                        case rel => exact ⟨q + 1, by go_num, by omega, PAt.on (hP3.re (Fr.refl [] _) (by simp) (U' := (· < wc.heap.size)) (fun k hk => ⟨Nat.lt_of_lt_of_le hk hF3.size, .inl hk⟩)) ((Fr.refl [] w3).alloc _), hF3.trans ((Fr.refl [] w3).alloc _), fun _ => HNM.out⟩
                        case measure => simp [intOf]; omega
                · have ht1' : (t == 1) = false := beq_eq_false_iff_ne.2 ht1
                  have HNM : Hid (¬ (q + 1 = l.length ∧ Made a b c d e l)) := by
                    show ¬ _
                    rintro ⟨h1, h2⟩
                    have h := HT.out
                    unfold Made at h2
                    rw [show l.length - 1 = q by omega, h] at h2
                    simp only [Prod.mk.injEq] at h2
                    exact ht1 h2.2.1
                  clear ht1
                  go_wp2_with fail
                  go_roundw
                  case rel =>
                    have hfx := (Fr.refl [] w3).alloc (.cells #[.int .i64 a1, .int .i64 b1, .int .i64 c1, .int .i64 d1, .int .i64 e1] 26)
                    exact ⟨q + 1, by go_num, by omega, PAt.on (hP3.re (Fr.refl [] _) (by simp) (U' := (· < wc.heap.size)) (fun k hk => ⟨Nat.lt_of_lt_of_le hk hF3.size, .inl hk⟩)) hfx, hF3.trans hfx, fun h hm => HNM.out ⟨h, hm⟩⟩
                  case measure => simp [intOf]; omega
              · obtain rfl : q = l.length := by omega
                have hnm := HM.out rfl
                clear HM
                go_wp2_with fail
                go_ret
                exact printAns_nil _ (pPrint_not (by rw [← HL.out]; exact hnm)) (hf.trans hF)
end Go.Proofs.Ythhkannmeljfkaa
