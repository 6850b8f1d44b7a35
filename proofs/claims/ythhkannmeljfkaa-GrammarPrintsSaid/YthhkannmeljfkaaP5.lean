import Derived.Test.YthhkannmeljfkaaP4
namespace Go.Proofs.Ythhkannmeljfkaa
open Go.RowKit Go.Proofs.Dm

def byOf (s : Nat) : Int := if s = 0 then 1000 else if s = 1 then 100 else if s = 2 then 10 else if s = 3 then 1 else 0
theorem byOf_next (s : Nat) (h : s < 4) : byOf s / 10 = byOf (s + 1) ∧ 1 ≤ byOf s ∧ byOf s ≤ 1000 := by
  rcases s with _ | _ | _ | _ | s <;> first | omega | (refine ⟨?_, ?_, ?_⟩ <;> decide)
def dgp (c : Int) : Nat → List Int
  | 0 => []
  | s + 1 => dgp c s ++ (if byOf s ≤ c then [48 + c / byOf s % 10] else [])
theorem dgp_len (c : Int) : ∀ s, (dgp c s).length ≤ s
  | 0 => by simp [dgp]
  | s + 1 => by
    have := dgp_len c s
    unfold dgp
    rw [List.length_append]
    split <;> simp <;> omega
theorem dgp_all (c : Int) : dgp c 4 = dg c := by
  show ((([] ++ (if 1000 ≤ c then [48 + c / 1000 % 10] else [])) ++ (if 100 ≤ c then [48 + c / 100 % 10] else [])) ++ (if 10 ≤ c then [48 + c / 10 % 10] else [])) ++ (if 1 ≤ c then [48 + c / 1 % 10] else []) = _
  unfold dg
  by_cases h1 : 1000 ≤ c
  · rw [if_pos h1, if_pos (by omega), if_pos (by omega), if_pos (by omega), if_pos h1]; simp
  · rw [if_neg h1, if_neg h1]
    by_cases h2 : 100 ≤ c
    · rw [if_pos h2, if_pos (by omega), if_pos (by omega), if_pos h2]; simp
    · rw [if_neg h2, if_neg h2]
      by_cases h3 : 10 ≤ c
      · rw [if_pos h3, if_pos (by omega), if_pos h3]; simp
      · rw [if_neg h3, if_neg h3]
        by_cases h4 : 1 ≤ c
        · rw [if_pos h4, if_pos h4]; simp
        · rw [if_neg h4, if_neg h4]; simp
theorem pRun_what : ∀ (l : List Int) (P : PS), ((pRun P l).2.1 = 0 ∨ (pRun P l).2.1 = 1 ∨ (pRun P l).2.1 = 2) ∧ ∃ a b c d e, (pRun P l).1 = five a b c d e
  | [], P => ⟨.inl rfl, 0, 0, 0, 0, 0, rfl⟩
  | k :: rest, P => by
    unfold pRun
    split
    · exact ⟨.inr (.inr rfl), 0, 0, 0, 0, 0, rfl⟩
    · split
      · exact ⟨.inr (.inl rfl), _, _, _, _, _, rfl⟩
      · split
        · exact ⟨.inr (.inr rfl), 0, 0, 0, 0, 0, rfl⟩
        · exact pRun_what rest _

theorem run_what (L : Value) (p o v n r x t u : Int) (w : World) : (Instr.field 32 (.agg #[L, .int .i64 p, .int .i64 o, .int .i64 v, .int .i64 n, .int .i64 r, .int .i64 x, .int .i64 t, .int .i64 u]) 3).run Try.prog w = .ok (.int .i64 t) w := by kernel_rfl
/-- What reading the first keys told. -/
def Seen (a b c d e : Int) (l : List Int) (q : Nat) : Prop :=
  (∀ i, i + 1 < q → i + 1 < l.length → (pRun (start 0 false) (l.take (i + 1))).2.1 = 0) ∧ (q = l.length + 1 → (pRun (start 0 false) l).2.1 = 1 → (pRun (start 0 false) l).1 = five a b c d e)
theorem seen_next {a b c d e : Int} {l : List Int} {q : Nat} (h : Seen a b c d e l q) (h1 : q < l.length → (pRun (start 0 false) (l.take q)).2.1 = 0) (h2 : q = l.length → (pRun (start 0 false) l).2.1 = 1 → (pRun (start 0 false) l).1 = five a b c d e) : Seen a b c d e l (q + 1) := by
  refine ⟨fun i hi hl => ?_, fun hq => h2 (by omega)⟩
  by_cases hiq : i + 1 = q
  · rw [hiq]; exact h1 (by omega)
  · exact h.1 i (by omega) hl

set_option maxRecDepth 100000 in
set_option maxHeartbeats 6400000 in
theorem rprint_walk (a b c d e : Int) (w : World) (hb : b ≤ 9223372036854775807) :
    Calls Try.prog 17 #[.agg #[.int .i64 a, .int .i64 b, .int .i64 c, .int .i64 d, .int .i64 e]] w (PrintAns w (pPrint a b c d e)) := by
  have hf1 : Fr [] w (w.alloc (.cells #[.int .i64 a, .int .i64 b, .int .i64 c, .int .i64 d, .int .i64 e] 30)) := (Fr.refl [] w).alloc _
  have hB1 : Blk (w.alloc (.cells #[.int .i64 a, .int .i64 b, .int .i64 c, .int .i64 d, .int .i64 e] 30)) w.heap.size 30 #[.int .i64 a, .int .i64 b, .int .i64 c, .int .i64 d, .int .i64 e] := Blk.new w 30 _
  go_enter Try.func17, Try.ntmps17
  go_upto_if 11 with fail
  generalize (w.alloc (.cells #[.int .i64 a, .int .i64 b, .int .i64 c, .int .i64 d, .int .i64 e] 30)) = W1 at hf1 hB1 ⊢
  have hA1 : At3 w w.heap.size #[.int .i64 a, .int .i64 b, .int .i64 c, .int .i64 d, .int .i64 e] 30 [] (.slice none 0 0) W1 := ⟨none, 0, rfl, IRow.nil_ _ _, hf1, hB1, by intro j hj; cases hj⟩
  have c3 : W1.cell? ⟨w.heap.size, 3, none⟩ = some (.int .i64 d) := hB1.cell 3
  go_cut [3] (fun s3 wx => At3 w w.heap.size #[.int .i64 a, .int .i64 b, .int .i64 c, .int .i64 d, .int .i64 e] 30 (pre1 d) s3 wx)
  case first =>
    by_cases hd : d = 0
    · subst hd
      go_wp2
      go_meet
      exact hA1
    · have hd' : (d != 0) = true := by simpa using hd
      have HP : Hid (pre1 d = [34, d]) := by show _ = _; simp [pre1, hd]
      have hnil := ORow.nil_ (W1.alloc (.cells #[.int .i64 34, .int .i64 d] 3)) 3 1
      go_wp2_with (first | (at_builtin; go_must (
        refine wpList_app _ rfl _ _ 22 3 rfl (.int .i64 0) 1 8 Try.underlying22 info3 rfl (by decide) none 0 0 [] rfl hnil _ 2 2 (ints [34, d]) rfl rfl (blk_sl (Blk.new W1 3 #[.int .i64 34, .int .i64 d]) 2) (ints_one _) (by decide) (by decide) ?_
        intro A1 ca1 w3 hr3 hg3 hb3)))
      go_meet
      rw [HP.out]
      exact at3_app (xs := []) (ys := [34, d]) (hf1.alloc _) (hB1.alloc _) (by intro j hj; cases hj) hr3 rfl hg3 hb3
  case rest =>
    clear hA1 c3 hf1 hB1
    have hl1 := pre1_len d
    by_cases h0 : c < 0
    · obtain ⟨A, cc, rfl, hrow, hf, hB, hA⟩ := hcut
      have k2 : wc.cell? ⟨w.heap.size, 2, none⟩ = some (.int .i64 c) := hB.cell 2
      clear hA hrow
      go_wp2
      go_ret
      exact printAns_nil _ (pPrint_out (.inl h0)) hf
    · by_cases h1 : 9999 < c
      · obtain ⟨A, cc, rfl, hrow, hf, hB, hA⟩ := hcut
        have k2 : wc.cell? ⟨w.heap.size, 2, none⟩ = some (.int .i64 c) := hB.cell 2
        clear hA hrow
        go_wp2
        go_ret
        exact printAns_nil _ (pPrint_out (.inr h1)) hf
      · have h0' : 0 ≤ c := by omega
        have h1' : c ≤ 9999 := by omega
        clear h0 h1
        have k2 : wc.cell? ⟨w.heap.size, 2, none⟩ = some (.int .i64 c) := by obtain ⟨_, _, _, _, _, h, _⟩ := hcut; exact h.cell 2
        have HC := Lib.hid hcut
        clear hcut
        go_wp2_with fail
        go_loopw [4, 3] (fun bv s3 wr => ∃ s : Nat, s ≤ 4 ∧ bv = .int .i64 (byOf s) ∧ At3 w w.heap.size #[.int .i64 a, .int .i64 b, .int .i64 c, .int .i64 d, .int .i64 e] 30 (pre1 d ++ dgp c s) s3 wr) (fun bv _ _ => (intOf bv).toNat)
        case atStart => exact ⟨0, by omega, rfl, by simpa [dgp] using HC.out⟩
        case round =>
          obtain ⟨s, hs, rfl, A, cc, rfl, hrow, hf, hB, hA⟩ := hrel
          have HA := Lib.hid hA
          have k2 : wr.cell? ⟨w.heap.size, 2, none⟩ = some (.int .i64 c) := hB.cell 2
          clear hA HC
          have hl2 := dgp_len c s
          have hl3 : (pre1 d ++ dgp c s).length ≤ 6 := by rw [List.length_append]; omega
          by_cases hs4 : s < 4
          · obtain ⟨hy1, hy2, hy3⟩ := byOf_next s hs4
            have hdg : dgp c (s + 1) = dgp c s ++ (if byOf s ≤ c then [48 + c / byOf s % 10] else []) := rfl
            obtain ⟨y, hy⟩ : ∃ y, y = byOf s := ⟨_, rfl⟩
            rw [← hy] at hy1 hy2 hy3 hdg ⊢
            have HY := Lib.hid hy1
            have HD := Lib.hid hdg
            clear hy hy1 hdg
            by_cases hcy : y ≤ c
            · have hdv : 0 ≤ c / y := Int.ediv_nonneg h0' (by omega)
              have hdv2 : c / y ≤ 9999 := Int.le_trans (Int.ediv_le_self _ h0') h1'
              have HZ : Hid (dgp c (s + 1) = dgp c s ++ [48 + c / y % 10]) := by show _ = _; rw [HD.out, if_pos hcy]
              go_wp2_with (first | (at_builtin; go_must (
                refine wpList_app _ rfl _ _ 22 3 rfl (.int .i64 0) 1 8 Try.underlying22 info3 rfl (by decide) A cc (pre1 d ++ dgp c s).length (ints (pre1 d ++ dgp c s)) rfl (hrow.fr (Fr.alloc (Fr.refl [] wr) _) (.inr List.not_mem_nil)) _ 1 1 (ints [48 + c / y % 10]) rfl (ints_len _) (sl_new wr _ 3) (ints_one _) (by simp only [maxLen]; omega) (by omega) ?_
                intro A4 c4 w4 hr4 hg4 hb4)))
              go_roundw
              case rel =>
                refine ⟨s + 1, by omega, by rw [← HY.out], ?_⟩
                have hh := at3_app (hf.alloc _) (hB.alloc _) HA.out hr4 rfl hg4 hb4
                rw [show (pre1 d ++ dgp c s).length = (pre1 d).length + (dgp c s).length from List.length_append] at hh
                rw [HZ.out, ← List.append_assoc]
                exact hh
              case measure => simp [intOf]; omega
            · have HZ : Hid (dgp c (s + 1) = dgp c s) := by show _ = _; rw [HD.out, if_neg hcy]; simp
              have hcy' : c < y := by omega
              go_wp2
              go_roundw
              case rel =>
                refine ⟨s + 1, by omega, by rw [← HY.out], ?_⟩
                rw [HZ.out]
                exact ⟨A, cc, rfl, hrow, hf, hB, HA.out⟩
              case measure => simp [intOf]; omega
          · obtain rfl : s = 4 := by omega
            have hy0 : byOf 4 = 0 := rfl
            rw [hy0]
            have hp2 : pre1 d ++ dgp c 4 = pre2 c d := by rw [dgp_all]; rfl
            rw [hp2] at hrow ⊢
            clear hp2 hl2 hl3 hl1 hs4 hy0 k2
            have k0 : wr.cell? ⟨w.heap.size, 0, none⟩ = some (.int .i64 a) := hB.cell 0
            have hl3 := pre2_len c d
            go_upto_if 44 with fail
            go_cut [3] (fun s3 wx => At3 w w.heap.size #[.int .i64 a, .int .i64 b, .int .i64 c, .int .i64 d, .int .i64 e] 30 (pre3 a c d) s3 wx)
            case first =>
              by_cases ha : a = 0
              · subst ha
                go_wp2
                go_meet
                have : pre3 0 c d = pre2 c d := by simp [pre3]
                rw [this]
                exact ⟨A, cc, rfl, hrow, hf, hB, HA.out⟩
              · have ha' : (a != 0) = true := by simpa using ha
                have HP : Hid (pre3 a c d = pre2 c d ++ [a]) := by show _ = _; simp [pre3, ha]
                go_wp2_with (first | (at_builtin; go_must (
                  refine wpList_app _ rfl _ _ 22 3 rfl (.int .i64 0) 1 8 Try.underlying22 info3 rfl (by decide) A cc (pre2 c d).length (ints (pre2 c d)) rfl (hrow.fr (Fr.alloc (Fr.refl [] wr) _) (.inr List.not_mem_nil)) _ 1 1 (ints [a]) rfl (ints_len _) (sl_new wr _ 3) (ints_one _) (by simp only [maxLen]; omega) (by omega) ?_
                  intro A4 c4 w4 hr4 hg4 hb4)))
                go_meet
                rw [HP.out]
                exact at3_app (hf.alloc _) (hB.alloc _) HA.out hr4 rfl hg4 hb4
            case rest =>
              clear k0 hl3 hrow hf hB HA
              obtain ⟨A, cc, rfl, hrow, hf, hB, hA⟩ := hcut
              have HA := Lib.hid hA
              have hl3 := pre3_len a c d
              clear hA
              have k1 : wc.cell? ⟨w.heap.size, 1, none⟩ = some (.int .i64 b) := hB.cell 1
              go_upto_if 52 with fail
              go_cut [3] (fun s3 wx => At3 w w.heap.size #[.int .i64 a, .int .i64 b, .int .i64 c, .int .i64 d, .int .i64 e] 30 (pre4 a b c d) s3 wx)
              case first =>
                by_cases hv : 256 ≤ b
                · have HP : Hid (pre4 a b c d = pre3 a c d ++ [b / 256, b % 256]) := by show _ = _; simp [pre4, spl, hv]
                  go_wp2_with (first | (at_builtin; go_must (
                    refine wpList_app _ rfl _ _ 22 3 rfl (.int .i64 0) 1 8 Try.underlying22 info3 rfl (by decide) A cc (pre3 a c d).length (ints (pre3 a c d)) rfl (hrow.fr (Fr.alloc (Fr.refl [] wc) _) (.inr List.not_mem_nil)) _ 2 2 (ints [b / 256, b % 256]) rfl (ints_len _) (blk_sl (Blk.new wc 3 #[.int .i64 (b / 256), .int .i64 (b % 256)]) 2) (ints_one _) (by simp only [maxLen]; omega) (by omega) ?_
                    intro A4 c4 w4 hr4 hg4 hb4)))
                  go_meet
                  rw [HP.out]
                  exact at3_app (hf.alloc _) (hB.alloc _) HA.out hr4 rfl hg4 hb4
                · have HP : Hid (pre4 a b c d = pre3 a c d ++ [b]) := by show _ = _; simp [pre4, spl, hv]
                  have hv' : b < 256 := by omega
                  go_wp2_with (first | (at_builtin; go_must (
                    refine wpList_app _ rfl _ _ 22 3 rfl (.int .i64 0) 1 8 Try.underlying22 info3 rfl (by decide) A cc (pre3 a c d).length (ints (pre3 a c d)) rfl (hrow.fr (Fr.alloc (Fr.refl [] wc) _) (.inr List.not_mem_nil)) _ 1 1 (ints [b]) rfl (ints_len _) (sl_new wc _ 3) (ints_one _) (by simp only [maxLen]; omega) (by omega) ?_
                    intro A4 c4 w4 hr4 hg4 hb4)))
                  go_meet
                  rw [HP.out]
                  exact at3_app (hf.alloc _) (hB.alloc _) HA.out hr4 rfl hg4 hb4
              case rest =>
                clear k1 hl3 hrow hf hB HA
                obtain ⟨A, cc, rfl, hrow, hf, hB, hA⟩ := hcut
                have HA := Lib.hid hA
                have hl3 := pre4_len a b c d
                clear hA
                have k4 : wc.cell? ⟨w.heap.size, 4, none⟩ = some (.int .i64 e) := hB.cell 4
                go_upto_if 69 with fail
                go_cut [3] (fun s3 wx => At3 w w.heap.size #[.int .i64 a, .int .i64 b, .int .i64 c, .int .i64 d, .int .i64 e] 30 (ckeys a b c d e) s3 wx)
                case first =>
                  by_cases he : e = 0
                  · subst he
                    go_wp2
                    go_meet
                    have : ckeys a b c d 0 = pre4 a b c d := by simp [pre5]
                    rw [this]
                    exact ⟨A, cc, rfl, hrow, hf, hB, HA.out⟩
                  · have he' : (e != 0) = true := by simpa using he
                    have HP : Hid (ckeys a b c d e = pre4 a b c d ++ [e]) := by show _ = _; simp [pre5, he]
                    go_wp2_with (first | (at_builtin; go_must (
                      refine wpList_app _ rfl _ _ 22 3 rfl (.int .i64 0) 1 8 Try.underlying22 info3 rfl (by decide) A cc (pre4 a b c d).length (ints (pre4 a b c d)) rfl (hrow.fr (Fr.alloc (Fr.refl [] wc) _) (.inr List.not_mem_nil)) _ 1 1 (ints [e]) rfl (ints_len _) (sl_new wc _ 3) (ints_one _) (by simp only [maxLen]; omega) (by omega) ?_
                      intro A4 c4 w4 hr4 hg4 hb4)))
                    go_meet
                    rw [HP.out]
                    exact at3_app (hf.alloc _) (hB.alloc _) HA.out hr4 rfl hg4 hb4
                case rest =>
                  clear k4 hl3 hrow hf hB HA
                  obtain ⟨A, cc, rfl, hrow, hf, hB, hA⟩ := hcut
                  have HA := Lib.hid hA
                  have hle := ckeys_le a b c d e
                  have hpos := ckeys_pos a b c d e
                  have hsl : Sl wc A (ints (ckeys a b c d e)) := hrow.sl
                  have hAl : ∀ j, bk A = some j → j < wc.heap.size := fun j hj => hrow.lt hj
                  obtain ⟨l, hl⟩ : ∃ l, l = ckeys a b c d e := ⟨_, rfl⟩
                  rw [← hl] at hrow hle hpos hsl ⊢
                  have hcap : l.length ≤ cc := ORow.cap hrow
                  have HL := Lib.hid hl
                  have HAl := Lib.hid hAl
                  clear hA hl hAl hrow
                  go_wp2_with fail
                  obtain ⟨ad, rfl⟩ : ∃ ad, A = some ad := by
                    rcases hsl with h | ⟨ad, h, _⟩
                    · simp [ints] at h; rw [h] at hpos; simp at hpos
                    · exact ⟨ad, h⟩
                  go_loopw [5] (fun iv wr => ∃ q : Nat, iv = .int .i64 q ∧ 1 ≤ q ∧ q ≤ l.length + 1 ∧ Fr [] wc wr ∧ Hid (Seen a b c d e l q)) (fun iv _ => l.length + 1 - (intOf iv).toNat)
                  case atStart => exact ⟨1, rfl, by omega, by omega, Fr.refl _ _, ⟨fun i h => by omega, fun h => by omega⟩⟩
                  case round =>
                    obtain ⟨q, rfl, hq1, hq2, hF, HSE⟩ := hrel
                    by_cases hlt : q ≤ l.length
                    · have hlen : (l.take q).length = q := by rw [List.length_take]; omega
                      have hrd := read_at wr (some ad) cc (l.take q) false false (by omega) (by rw [ints_take]; exact (hsl.fr hF (.inr List.not_mem_nil)).take q) (fun j hj => Nat.lt_of_lt_of_le (HAl.out j hj) hF.size)
                      rw [hlen] at hrd
                      obtain ⟨hwh, _⟩ := pRun_what (l.take q) (start 0 false)
                      obtain ⟨T, hT⟩ : ∃ T, T = pRun (start 0 false) (l.take q) := ⟨_, rfl⟩
                      have hT' : pRun ⟨0, 0, 0, 0, 0, 0, 18, false, false⟩ (l.take q) = T := hT.symm
                      rw [hT'] at hrd
                      rw [← hT] at hwh
                      obtain ⟨T1, T2, T3⟩ := T
                      simp only at hwh
                      have hM : Made a b c d e l → (q < l.length → T2 = 0) ∧ (q = l.length → T1 = five a b c d e ∧ T2 = 1) := by
                        intro hm
                        obtain ⟨x1, _, x3⟩ := made_all l HL.out hm
                        constructor
                        · intro hql
                          have := (x1 (q - 1) (by omega)).2.2
                          rw [show q - 1 + 1 = q by omega, ← hT] at this
                          simp only [Prod.mk.injEq] at this
                          exact this.2.1
                        · intro hql
                          rw [hql, List.take_length, x3] at hT
                          simp only [Prod.mk.injEq] at hT
                          exact ⟨hT.1, hT.2.1⟩
                      have hS : (q < l.length → T2 = 0) → (q = l.length → T2 = 1 → T1 = five a b c d e) → Seen a b c d e l (q + 1) := by
                        intro g1 g2
                        refine seen_next HSE.out (fun h => by rw [← hT]; exact g1 h) (fun h h1 => ?_)
                        have hT2 := hT
                        rw [h, List.take_length] at hT2
                        rw [← hT2] at h1 ⊢
                        exact g2 h h1
                      have HM := Lib.hid hM
                      have HS := Lib.hid hS
                      have HR := Lib.hid hrd
                      have HLEN := Lib.hid hlen
                      clear hM hS hrd hT hT' hlen HSE
                      go_wp2_with fail
                      refine HR.out.mono ?_
                      rintro ee w3 ⟨hf3, hans⟩
                      obtain ⟨⟨pos, o5, v5, n5, r5, x5, t5, u5⟩, rfl, g1, g2, g3⟩ := hans
                      simp only at g1 g2 g3
                      subst g1 g2
                      rw [HLEN.out]
                      have HG := Lib.hid g3
                      have hF3 : Fr [] wc w3 := hF.trans hf3
                      have hB3 : Blk w3 w.heap.size 30 #[.int .i64 a, .int .i64 b, .int .i64 c, .int .i64 d, .int .i64 e] := hB.fr hF3 (by simp)
                      have m0 : w3.cell? ⟨w.heap.size, 0, none⟩ = some (.int .i64 a) := hB3.cell 0
                      have m1 : w3.cell? ⟨w.heap.size, 1, none⟩ = some (.int .i64 b) := hB3.cell 1
                      have m2 : w3.cell? ⟨w.heap.size, 2, none⟩ = some (.int .i64 c) := hB3.cell 2
                      have m3 : w3.cell? ⟨w.heap.size, 3, none⟩ = some (.int .i64 d) := hB3.cell 3
                      have m4 : w3.cell? ⟨w.heap.size, 4, none⟩ = some (.int .i64 e) := hB3.cell 4
                      have hbl := hB3.lt
                      have hfx : ∀ o, Fr [] w3 (w3.alloc o) := fun o => (Fr.refl [] w3).alloc o
                      clear hB3 g3 HR HLEN hf3
                      rcases hwh with h | h | h
                      · subst h
                        have HSN := HS.out (fun _ => rfl) (fun _ h => by omega)
                        have HSN := Lib.hid HSN
                        clear HS HM HG
                        go_wp2_with fail
                        go_roundw
                        case rel => exact ⟨q + 1, by go_num, by omega, by omega, hF3.trans (hfx _), HSN⟩
                        case measure => simp [intOf]; omega
                      · subst h
                        by_cases hql : q < l.length
                        · have hnm : ¬ Made a b c d e l := fun hm => by have := (HM.out hm).1 hql; omega
                          have HNM := Lib.hid hnm
                          clear HS HM HG hnm
                          go_wp2_with fail
                          go_ret
                          exact printAns_nil _ (pPrint_not (by rw [← HL.out]; exact HNM.out)) ((hf.trans hF3).trans (hfx _))
                        · have hqe : q = l.length := by omega
                          by_cases hall : o5 = a ∧ v5 = b ∧ n5 = c ∧ r5 = d ∧ x5 = e
                          · obtain ⟨rfl, rfl, rfl, rfl, rfl⟩ := hall
                            have HSN := HS.out (fun h => by omega) (fun _ _ => (HG.out rfl))
                            have HSN := Lib.hid HSN
                            have HQE := Lib.hid hqe
                            clear HS HM HG hqe
                            go_wp2_with fail
                            go_roundw
                            case rel => exact ⟨q + 1, by go_num, by omega, by omega, hF3.trans (hfx _), HSN⟩
                            case measure => simp [intOf]; omega
                          · have hnm : ¬ Made a b c d e l := fun hm => by
                              have h1 := ((HM.out hm).2 hqe).1
                              have h2 := HG.out rfl
                              rw [h1] at h2
                              simp only [five, List.cons.injEq, Value.int.injEq, true_and, and_true] at h2
                              exact hall ⟨h2.1.symm, h2.2.1.symm, h2.2.2.1.symm, h2.2.2.2.1.symm, h2.2.2.2.2.symm⟩
                            have HNM := Lib.hid hnm
                            have HQE := Lib.hid hqe
                            have HALL := Lib.hid hall
                            clear HS HM HG hqe hnm hall
                            go_wp2_with fail
                            all_goals (try (exfalso; exact HALL.out ⟨by assumption, by assumption, by assumption, by assumption, by assumption⟩))
                            all_goals
                              go_ret
                              exact printAns_nil _ (pPrint_not (by rw [← HL.out]; exact HNM.out)) ((hf.trans hF3).trans (hfx _))
                      · subst h
                        have hnm : ¬ Made a b c d e l := fun hm => by
                          by_cases hql : q < l.length
                          · have := (HM.out hm).1 hql; omega
                          · have := ((HM.out hm).2 (by omega)).2; omega
                        have HNM := Lib.hid hnm
                        clear HS HM HG hnm
                        go_wp2_with fail
                        go_ret
                        exact printAns_nil _ (pPrint_not (by rw [← HL.out]; exact HNM.out)) ((hf.trans hF3).trans (hfx _))
                    · obtain rfl : q = l.length + 1 := by omega
                      have hSE := HSE.out
                      have hrd := read_at wr (some ad) cc l false false (by omega) (hsl.fr hF (.inr List.not_mem_nil)) (fun j hj => Nat.lt_of_lt_of_le (HAl.out j hj) hF.size)
                      obtain ⟨T, hT⟩ : ∃ T, T = pRun (start 0 false) l := ⟨_, rfl⟩
                      have hT' : pRun ⟨0, 0, 0, 0, 0, 0, 18, false, false⟩ l = T := hT.symm
                      rw [hT'] at hrd
                      obtain ⟨T1, T2, T3⟩ := T
                      have HM : Hid (Made a b c d e l → T2 = 1) := by
                        show _ → _
                        intro hm
                        have := (made_all l HL.out hm).2.2
                        rw [← hT] at this
                        simp only [Prod.mk.injEq] at this
                        exact this.2.1
                      have HF : Hid (T2 = 1 → (∀ i, i < l.length → l.getD i 0 ≠ 27) → Made a b c d e l) := by
                        show _ → _
                        intro h1 h27
                        refine made_of l hpos h27 (fun i hi => hSE.1 i (by omega) hi) T3 ?_
                        have h2 := hSE.2 rfl
                        rw [← hT] at h2
                        rw [← hT, ← h2 h1, ← h1]
                      have HR := Lib.hid hrd
                      clear hSE HSE hrd hT hT'
                      go_wp2_with fail
                      refine HR.out.mono ?_
                      rintro ee w3 ⟨hf3, hans⟩
                      obtain ⟨⟨pos, o5, v5, n5, r5, x5, t5, u5⟩, rfl, g1, g2, g3⟩ := hans
                      simp only at g1 g2 g3
                      subst g1 g2
                      have hF3 : Fr [] wc w3 := hF.trans hf3
                      clear g3 HR hf3
                      have hfd := run_what (.slice (some ad) l.length cc) pos o5 v5 n5 r5 x5 t5 u5 w3
                      by_cases ht : t5 = 1
                      · subst ht
                        go_wp2_with fail
                        go_loopw [111] (fun iv wr => ∃ q : Nat, iv = .int .i64 q ∧ q ≤ l.length ∧ wr = w3 ∧ Hid (∀ i, i < q → l.getD i 0 ≠ 27)) (fun iv _ => l.length - (intOf iv).toNat)
                        case atStart => exact ⟨0, rfl, by omega, rfl, fun i h => by omega⟩
                        case round =>
                          obtain ⟨q, rfl, hq, rfl, H27⟩ := hrel
                          by_cases hlt : q < l.length
                          · obtain ⟨ad', hadd, hcell⟩ := sl_ints (hsl.fr hF3 (.inr List.not_mem_nil)) hlt
                            injection hadd with hadd
                            subst hadd
                            obtain ⟨k, hk⟩ : ∃ k, k = l.getD q 0 := ⟨_, rfl⟩
                            rw [← hk] at hcell
                            have HK := Lib.hid hk
                            clear hk
                            by_cases h27 : k = 27
                            · subst h27
                              go_wp2_with fail
                              go_ret
                              have hnm : ¬ Made a b c d e l := fun hm => by
                                obtain ⟨x1, x2, _⟩ := made_all l HL.out hm
                                by_cases hql : q + 1 < l.length
                                · exact (x1 q hql).1 HK.out.symm
                                · exact x2 (by rw [show l.length - 1 = q by omega]; exact HK.out.symm)
                              exact printAns_nil _ (pPrint_not (by rw [← HL.out]; exact hnm)) (hf.trans hF3)
                            · have h27' : (k == 27) = false := beq_eq_false_iff_ne.2 h27
                              have HN := Lib.hid h27
                              clear h27
                              go_wp2_with fail
                              go_roundw
                              case rel =>
                                refine ⟨q + 1, by go_num, by omega, by trivial, fun i hi => ?_⟩
                                by_cases hiq : i = q
                                · rw [hiq, ← HK.out]; exact HN.out
                                · exact H27.out i (by omega)
                              case measure => simp [intOf]; omega
                          · obtain rfl : q = l.length := by omega
                            have hm := HF.out (by trivial) H27.out
                            have HM2 := Lib.hid hm
                            clear hm HM HF
                            go_wp2_with fail
                            go_ret
                            have hpp := pPrint_made h0' h1' (l := l) HL.out HM2.out
                            rw [hpp]
                            exact ⟨_, _, rfl, hsl.fr hF3 (.inr List.not_mem_nil), hf.trans hF3, fun j hj => ⟨(HA.out j hj).1, Nat.lt_of_lt_of_le (HAl.out j hj) hF3.size⟩⟩
                      · have ht1 : (t5 != 1) = true := by simpa using ht
                        have HNM : Hid (¬ Made a b c d e l) := fun hm => ht (HM.out hm)
                        clear ht HM HF
                        go_wp2_with fail
                        go_ret
                        exact printAns_nil _ (pPrint_not (by rw [← HL.out]; exact HNM.out)) (hf.trans hF3)
end Go.Proofs.Ythhkannmeljfkaa
