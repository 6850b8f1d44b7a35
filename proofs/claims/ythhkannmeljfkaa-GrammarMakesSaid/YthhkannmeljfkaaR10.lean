import Derived.Test.YthhkannmeljfkaaR9
namespace Go.Proofs.Ythhkannmeljfkaa
open Go.RowKit Go.Proofs.Dm

set_option maxRecDepth 100000 in
set_option maxHeartbeats 6400000 in
theorem makes_walk (a0 : Option Addr) (cap0 : Nat) (xs : List Int) (way : Int) (rec : Bool) (w : World) (hs0 : Sl w a0 (ints xs)) (hc0 : xs.length ≤ cap0) (hm0 : cap0 ≤ maxLen) :
    Calls Try.prog 3 #[.slice a0 xs.length cap0, .int .i64 way, .bool rec] w fun e w' => e = .returned (.bool true) ∧ Fr [] w w' := by
  go_enter Try.func3, Try.ntmps3
  go_wp2_with fail
  refine (new_at w).mono ?_
  rintro e w1 ⟨g, rfl, hg, hg1, hf1, hP0⟩
  have hsz : w.heap.size ≤ w1.heap.size := hf1.size
  have hP1 : PAt (UB w none) w1 w1 g P0 [] := hP0 _ _ _ (FrU.refl _ w1 (by intro k hk; rcases hk with hk | hk; omega; cases hk)) (by intro h; rcases h with h | h; omega; cases h) (Fr.refl [] w1)
  clear hP0
  go_wp2_with fail
  go_loopw [18, 8] (fun i b wr => ∃ (q : Nat) (P : PS) (B : List Int) (Ab : Option Addr) (cb : Nat), i = .int .i64 q ∧ b = .slice Ab B.length cb ∧ q ≤ xs.length ∧ B.length ≤ q ∧ q ≤ 120 ∧ IRow wr 3 Ab cb B ∧ PAt (UB w Ab) wr wr g P B ∧ Fr [] w wr ∧ GInv P ∧ Runs P B way rec ∧ (∀ j, bk Ab = some j → w.heap.size ≤ j)) (fun i _ _ => 120 - (intOf i).toNat)
  case atStart => exact ⟨0, P0, [], none, 0, rfl, rfl, by omega, by simp, by omega, IRow.nil_ _ _, hP1, hf1, gInv_P0, runs_P0 way rec, by intro j hj; cases hj⟩
  case round =>
    obtain ⟨q, P, B, Ab, cb, rfl, rfl, hq, hBq, hq120, hrow, hP, hF, hG, hruns, hAbw⟩ := hrel
    by_cases hlt : q < xs.length
    · by_cases h120 : q < 120
      · obtain ⟨ad, rfl, hcell⟩ := sl_ints (hs0.fr hF (.inr List.not_mem_nil)) hlt
        obtain ⟨k, hk⟩ : ∃ k, k = xs.getD q 0 := ⟨_, rfl⟩
        rw [← hk] at hcell
        obtain ⟨a, b, c, d, e, t, u, P1, B1, B', hkey, hG1, hru, ht3, htz, hB0, hB1, hk27⟩ := key_uni w wr g P B k way rec Ab hP hG hruns (by omega)
        have HBL : Hid (B1.length ≤ B.length + 1) := by
          show _ ≤ _
          by_cases ht0 : t = 0
          · rw [hB0 ht0]
            rcases hk27 with ⟨_, h, _⟩ | ⟨_, h, _⟩
            · rw [h]; simp
            · rw [h]; simp
          · rw [hB1 ht0]; simp
        have HK := Lib.hid hkey
        have HRU := Lib.hid hru
        have HG1 := Lib.hid hG1
        have HK27 := Lib.hid hk27
        have HTZ := Lib.hid htz
        have HB0 := Lib.hid hB0
        have HB1 := Lib.hid hB1
        have HT3 := Lib.hid ht3
        have HAbw := Lib.hid hAbw
        clear hP1 hf1 hk hm0 hs0 hkey hG1 hru ht3 htz hB0 hB1 hk27 hruns hG hAbw
        go_wp2_with fail
        refine HK.out.mono ?_
        rintro ee w1 ⟨rfl, h1⟩
        clear HK
        have hrow1 := hrow.fru h1.1 (fun j hj => .inr hj)
        have hAn : ∀ j, bk Ab = some j → j < w1.heap.size := fun j hj => hrow1.lt hj
        have hFw1 : Fr [] w w1 := fru_fr hF h1.1 (fun k hk => .inl hk)
        have hC2 : Blk ((w1.alloc (.cells #[.int .i64 a, .int .i64 b, .int .i64 c, .int .i64 d, .int .i64 e] 26)).alloc (.cells #[.slice none 0 0, .int .i64 0, .int .i64 0, .int .i64 0, .int .i64 0, .int .i64 0, .int .i64 0, .int .i64 0, .int .i64 0] 32)) w1.heap.size 26 #[.int .i64 a, .int .i64 b, .int .i64 c, .int .i64 d, .int .i64 e] := (Blk.new w1 26 _).alloc _
        have hR2 : Blk ((w1.alloc (.cells #[.int .i64 a, .int .i64 b, .int .i64 c, .int .i64 d, .int .i64 e] 26)).alloc (.cells #[.slice none 0 0, .int .i64 0, .int .i64 0, .int .i64 0, .int .i64 0, .int .i64 0, .int .i64 0, .int .i64 0, .int .i64 0] 32)) (w1.heap.size + 1) 32 #[.slice none 0 0, .int .i64 0, .int .i64 0, .int .i64 0, .int .i64 0, .int .i64 0, .int .i64 0, .int .i64 0, .int .i64 0] := by simpa using Blk.new (w1.alloc (.cells #[.int .i64 a, .int .i64 b, .int .i64 c, .int .i64 d, .int .i64 e] 26)) 32 #[.slice none 0 0, .int .i64 0, .int .i64 0, .int .i64 0, .int .i64 0, .int .i64 0, .int .i64 0, .int .i64 0, .int .i64 0]
        have hF2 : Fr [bk Ab] w1 ((w1.alloc (.cells #[.int .i64 a, .int .i64 b, .int .i64 c, .int .i64 d, .int .i64 e] 26)).alloc (.cells #[.slice none 0 0, .int .i64 0, .int .i64 0, .int .i64 0, .int .i64 0, .int .i64 0, .int .i64 0, .int .i64 0, .int .i64 0] 32)) := ((Fr.refl _ w1).alloc _).alloc _
        have HSZ2 : Hid (((w1.alloc (.cells #[.int .i64 a, .int .i64 b, .int .i64 c, .int .i64 d, .int .i64 e] 26)).alloc (.cells #[.slice none 0 0, .int .i64 0, .int .i64 0, .int .i64 0, .int .i64 0, .int .i64 0, .int .i64 0, .int .i64 0, .int .i64 0] 32)).heap.size = w1.heap.size + 2) := by show _ = _; simp
        have hrow2 : IRow ((w1.alloc (.cells #[.int .i64 a, .int .i64 b, .int .i64 c, .int .i64 d, .int .i64 e] 26)).alloc (.cells #[.slice none 0 0, .int .i64 0, .int .i64 0, .int .i64 0, .int .i64 0, .int .i64 0, .int .i64 0, .int .i64 0, .int .i64 0] 32)) 3 Ab cb B := hrow1.fr (((Fr.refl [] w1).alloc _).alloc _) (.inr List.not_mem_nil)
        clear hrow hP hF
        go_upto_if 35 with fail
        generalize (w1.alloc (.cells #[.int .i64 a, .int .i64 b, .int .i64 c, .int .i64 d, .int .i64 e] 26)).alloc (.cells #[.slice none 0 0, .int .i64 0, .int .i64 0, .int .i64 0, .int .i64 0, .int .i64 0, .int .i64 0, .int .i64 0, .int .i64 0] 32) = W2 at hC2 hR2 hF2 HSZ2 hrow2 ⊢
        go_cut [8] (fun s8 wx => ∃ (A1 : Option Addr) (c1 : Nat) (L : Value) (pos o5 v5 n5 r5 x5 : Int), s8 = .slice A1 B'.length c1 ∧ IRow wx 3 A1 c1 B' ∧ Fr [bk Ab] w1 wx ∧ Blk wx w1.heap.size 26 #[.int .i64 a, .int .i64 b, .int .i64 c, .int .i64 d, .int .i64 e] ∧ Blk wx (w1.heap.size + 1) 32 #[L, .int .i64 pos, .int .i64 o5, .int .i64 v5, .int .i64 n5, .int .i64 r5, .int .i64 x5, .int .i64 t, .int .i64 u] ∧ (t = 1 → o5 = a ∧ v5 = b ∧ n5 = c ∧ r5 = d ∧ x5 = e) ∧ (∀ j, bk A1 = some j → bk Ab = some j ∨ w1.heap.size + 2 ≤ j))
        case first =>
          rcases HK27.out with ⟨hk, hB', ht, hu⟩ | ⟨hk, hB', hrun⟩
          · subst hk hB' ht hu
            go_wp2
            go_meet
            exact ⟨none, 0, .slice none 0 0, 0, 0, 0, 0, 0, 0, rfl, IRow.nil_ _ _, hF2, hC2, hR2, fun h => by omega, fun j hj => by cases hj⟩
          · have hk27' : (k == 27) = false := beq_eq_false_iff_ne.2 hk
            have HRT := Lib.hid hrun
            have HBB := Lib.hid hB'
            clear hk hrun hB'
            go_wp2_with (first | (at_builtin; go_must (
              refine wpList_app _ rfl _ _ 22 3 rfl (.int .i64 0) 1 8 Try.underlying22 info3 rfl (by decide) Ab cb B.length (ints B) rfl (hrow2.fr (Fr.alloc (Fr.refl [] W2) _) (.inr List.not_mem_nil)) _ 1 1 (ints [k]) rfl rfl (sl_new W2 _ 3) (ints_one _) (by simp only [maxLen]; omega) (by omega) ?_
              intro A1 ca1 w3 hr3 hg3 hb3)))
            have hF3 := (hF2.alloc (.cells #[.int .i64 k] 3)).trans hg3
            have hC3 := (hC2.alloc (.cells #[.int .i64 k] 3)).fr hg3 (by intro h; simp at h; have := hAn _ h.symm; omega)
            have hR3 := (hR2.alloc (.cells #[.int .i64 k] 3)).fr hg3 (by intro h; simp at h; have := hAn _ h.symm; omega)
            have hir : IRow w3 3 A1 ca1 (B ++ [k]) := by simpa [IRow, ints] using hr3
            have hb3' : ∀ j, bk A1 = some j → bk Ab = some j ∨ w1.heap.size + 2 ≤ j := by
              intro j hj
              rcases hb3 with h | h
              · exact .inl (h ▸ hj)
              · rw [h] at hj; injection hj with hj; simp at hj; exact .inr (by have := HSZ2.out; omega)
            have hread := read_at w3 A1 ca1 (B ++ [k]) (way == 1) rec (by simp; omega) hir.sl (fun j hj => hir.lt hj)
            rw [show (B ++ [k]).length = B.length + 1 by simp] at hread
            clear hrow2 hF2 hC2 hR2 hr3 hg3 hb3
            refine hread.mono ?_
            rintro ee w4 ⟨hf4, hans⟩
            clear hread
            have hans' : ReadAns ee A1 ca1 (B ++ [k]) (five a b c d e, t, u) := by have h := HRT.out; rw [← h]; exact hans
            clear hans HRT
            obtain ⟨⟨pos, o5, v5, n5, r5, x5, t5, u5⟩, rfl, e1, e2, e3⟩ := hans'
            simp only at e1 e2 e3
            subst e1 e2
            have HE3 : Hid (t5 = 1 → o5 = a ∧ v5 = b ∧ n5 = c ∧ r5 = d ∧ x5 = e) := by
              intro h
              have e4 := e3 h
              simp only [five, List.cons.injEq, Value.int.injEq, true_and, and_true] at e4
              obtain ⟨rfl, rfl, rfl, rfl, rfl⟩ := e4
              exact ⟨rfl, rfl, rfl, rfl, rfl⟩
            rw [show (B ++ [k]).length = B.length + 1 by simp]
            have hF4 := hF3.seq hf4 (by simp)
            have hC4 := hC3.fr hf4 (by simp)
            have hR4 := hR3.fr hf4 (by simp)
            have hi4 := hir.fr hf4 (.inr List.not_mem_nil)
            clear hF3 hC3 hR3 hf4 hir e3
            have z0 : w4.cell? ⟨w1.heap.size + 1, 0, none⟩ = some (.slice none 0 0) := hR4.cell 0
            have z1 : w4.cell? ⟨w1.heap.size + 1, 1, none⟩ = some (.int .i64 0) := hR4.cell 1
            have z2 : w4.cell? ⟨w1.heap.size + 1, 2, none⟩ = some (.int .i64 0) := hR4.cell 2
            have z3 : w4.cell? ⟨w1.heap.size + 1, 3, none⟩ = some (.int .i64 0) := hR4.cell 3
            have z4 : w4.cell? ⟨w1.heap.size + 1, 4, none⟩ = some (.int .i64 0) := hR4.cell 4
            have z5 : w4.cell? ⟨w1.heap.size + 1, 5, none⟩ = some (.int .i64 0) := hR4.cell 5
            have z6 : w4.cell? ⟨w1.heap.size + 1, 6, none⟩ = some (.int .i64 0) := hR4.cell 6
            have z7 : w4.cell? ⟨w1.heap.size + 1, 7, none⟩ = some (.int .i64 0) := hR4.cell 7
            have z8 : w4.cell? ⟨w1.heap.size + 1, 8, none⟩ = some (.int .i64 0) := hR4.cell 8
            have f0 := hR4.frozen 0
            have f1 := hR4.frozen 1
            have f2 := hR4.frozen 2
            have f3 := hR4.frozen 3
            have f4 := hR4.frozen 4
            have f5 := hR4.frozen 5
            have f6 := hR4.frozen 6
            have f7 := hR4.frozen 7
            have f8 := hR4.frozen 8
            go_wp2
            go_meet
            have hFW := fr_set9 w4 (w1.heap.size + 1) (.slice A1 (B.length + 1) ca1) (.int .i64 pos) (.int .i64 o5) (.int .i64 v5) (.int .i64 n5) (.int .i64 r5) (.int .i64 x5) (.int .i64 t5) (.int .i64 u5)
            rw [HBB.out]
            refine ⟨A1, ca1, .slice A1 (B.length + 1) ca1, pos, o5, v5, n5, r5, x5, by simp, hi4.fr hFW ?_, hF4.seq hFW (by intro x hx; simp at hx; subst hx; exact .inr (.inr ⟨_, Nat.le_succ _, rfl⟩)), hC4.fr hFW (by simp), blk_set9 hR4 _ _ _ _ _ _ _ _ _, HE3.out, hb3'⟩
            right
            intro h
            simp at h
            rcases hb3' _ h with hb | hb
            · have := hAn _ hb; omega
            · omega
        case rest =>
          obtain ⟨A1, c1, L, pos, o5, v5, n5, r5, x5, rfl, hi5, hF5, hC5, hR5, hfit, hA1⟩ := hcut
          clear hC2 hR2 hF2 HSZ2 hrow2 hrow1 HK27
          have HFIT := Lib.hid hfit
          have HA1 := Lib.hid hA1
          clear hfit hA1
          have HI5 := Lib.hid hi5
          have z0 : wc.cell? ⟨w1.heap.size + 1, 0, none⟩ = some (L) := hR5.cell 0
          have z1 : wc.cell? ⟨w1.heap.size + 1, 1, none⟩ = some (.int .i64 pos) := hR5.cell 1
          have z2 : wc.cell? ⟨w1.heap.size + 1, 2, none⟩ = some (.int .i64 o5) := hR5.cell 2
          have z3 : wc.cell? ⟨w1.heap.size + 1, 3, none⟩ = some (.int .i64 v5) := hR5.cell 3
          have z4 : wc.cell? ⟨w1.heap.size + 1, 4, none⟩ = some (.int .i64 n5) := hR5.cell 4
          have z5 : wc.cell? ⟨w1.heap.size + 1, 5, none⟩ = some (.int .i64 r5) := hR5.cell 5
          have z6 : wc.cell? ⟨w1.heap.size + 1, 6, none⟩ = some (.int .i64 x5) := hR5.cell 6
          have z7 : wc.cell? ⟨w1.heap.size + 1, 7, none⟩ = some (.int .i64 t) := hR5.cell 7
          have z8 : wc.cell? ⟨w1.heap.size + 1, 8, none⟩ = some (.int .i64 u) := hR5.cell 8
          have f0 := hR5.frozen 0
          have f1 := hR5.frozen 1
          have f2 := hR5.frozen 2
          have f3 := hR5.frozen 3
          have f4 := hR5.frozen 4
          have f5 := hR5.frozen 5
          have f6 := hR5.frozen 6
          have f7 := hR5.frozen 7
          have f8 := hR5.frozen 8
          go_upto_if 47 with fail
          go_cut [8] (fun s8 wx => s8 = .slice A1 B'.length c1 ∧ Fr [some (w1.heap.size + 1)] wc wx ∧ Blk wx (w1.heap.size + 1) 32 #[L, .int .i64 pos, .int .i64 a, .int .i64 b, .int .i64 c, .int .i64 d, .int .i64 e, .int .i64 t, .int .i64 u])
          case first =>
            by_cases ht1 : t = 1
            · obtain ⟨rfl, rfl, rfl, rfl, rfl⟩ := HFIT.out ht1
              subst ht1
              go_wp2
              go_meet
              exact ⟨rfl, Fr.refl _ _, hR5⟩
            · obtain ⟨rfl, rfl, rfl, rfl, rfl⟩ := HTZ.out ht1
              have hne1 : (t != 1) = true := by simpa using ht1
              clear ht1
              go_wp2
              go_meet
              exact ⟨rfl, fr_zero5 _ _ _ _ _ _ _, blk_zero5 hR5 _ _ _ _ _⟩
          case rest =>
            obtain ⟨rfl, hFx, hRx⟩ := hcut
            have hF6 := hF5.seq hFx (by intro x hx; simp at hx; subst hx; exact .inr (.inr ⟨_, Nat.le_succ _, rfl⟩))
            have hC6 := hC5.fr hFx (by simp)
            have hi6 : IRow wc 3 A1 c1 B' := HI5.out.fr hFx (.inr (by
              intro h
              simp at h
              rcases HA1.out _ h with hb | hb
              · have := hAn _ hb; omega
              · omega))
            clear hF5 hC5 HI5 hR5 hFx z0 z1 z2 z3 z4 z5 z6 z7 z8 f0 f1 f2 f3 f4 f5 f6 f7 f8
            have y7 : wc.cell? ⟨w1.heap.size + 1, 7, none⟩ = some (.int .i64 t) := hRx.cell 7
            go_upto_if 52 with fail
            go_cut [8] (fun s8 wx => wx = wc ∧ ∃ (Ax : Option Addr) (cx : Nat), s8 = .slice Ax B1.length cx ∧ IRow wc 3 Ax cx B1 ∧ (∀ j, bk Ax = some j → bk Ab = some j ∨ w1.heap.size + 2 ≤ j))
            case first =>
              by_cases ht0 : t = 0
              · have HBB := Lib.hid (HB0.out ht0)
                subst ht0
                go_wp2
                go_meet
                exact ⟨rfl, A1, c1, by rw [HBB.out], by rw [HBB.out]; exact hi6, HA1.out⟩
              · have HBB := Lib.hid (HB1.out ht0)
                have htp : 0 < t := by have := HT3.out; omega
                go_wp2
                go_meet
                exact ⟨rfl, none, 0, by rw [HBB.out]; rfl, by rw [HBB.out]; exact IRow.nil_ _ _, fun j hj => by cases hj⟩
            case rest =>
              obtain ⟨rfl, Ax, cx, rfl, hix, hAx⟩ := hcut
              have hFw : Fr [] w wc := hFw1.seq hF6 (by
                intro x hx
                simp at hx
                subst hx
                cases hb : bk Ab with
                | none => exact .inr (.inl rfl)
                | some j => exact .inr (.inr ⟨j, HAbw.out j hb, rfl⟩))
              have hPW : PAt (UB w Ax) wc wc g P1 B1 := h1.re hF6 (by intro i hi; simp at hi; exact .inr hi.symm) (by
                intro i hi
                rcases hi with hi | hi
                · exact ⟨by have := hFw.size; omega, .inl (.inl hi)⟩
                · refine ⟨hix.lt hi, ?_⟩
                  rcases hAx i hi with hb | hb
                  · exact .inl (.inr hb)
                  · exact .inr (by omega))
              have hAxw : ∀ j, bk Ax = some j → w.heap.size ≤ j := by
                intro j hj
                rcases hAx j hj with hb | hb
                · exact HAbw.out j hb
                · have := hFw1.size; omega
              have HAXW := Lib.hid hAxw
              have HPW := Lib.hid hPW
              have HFW := Lib.hid hFw
              clear hAxw hPW hFw h1 hi6 HA1 hF6 y7 HFIT hFw1 hAx HTZ HB0 HB1 HT3 hAn HAbw
              go_upto_region 17 with fail
              go_cut [76] (fun s76 wx => s76 = .bool false ∧ PAt (UB w Ax) wc wx g P1 B1 ∧ Fr [] w wx)
              case first =>
                have m0 : wc.cell? ⟨w1.heap.size, 0, none⟩ = some (.int .i64 a) := hC6.cell 0
                have m1 : wc.cell? ⟨w1.heap.size, 1, none⟩ = some (.int .i64 b) := hC6.cell 1
                have m2 : wc.cell? ⟨w1.heap.size, 2, none⟩ = some (.int .i64 c) := hC6.cell 2
                have m3 : wc.cell? ⟨w1.heap.size, 3, none⟩ = some (.int .i64 d) := hC6.cell 3
                have m4 : wc.cell? ⟨w1.heap.size, 4, none⟩ = some (.int .i64 e) := hC6.cell 4
                have n2 : wc.cell? ⟨w1.heap.size + 1, 2, none⟩ = some (.int .i64 a) := hRx.cell 2
                have n3 : wc.cell? ⟨w1.heap.size + 1, 3, none⟩ = some (.int .i64 b) := hRx.cell 3
                have n4 : wc.cell? ⟨w1.heap.size + 1, 4, none⟩ = some (.int .i64 c) := hRx.cell 4
                have n5 : wc.cell? ⟨w1.heap.size + 1, 5, none⟩ = some (.int .i64 d) := hRx.cell 5
                have n6 : wc.cell? ⟨w1.heap.size + 1, 6, none⟩ = some (.int .i64 e) := hRx.cell 6
                have n7 : wc.cell? ⟨w1.heap.size + 1, 7, none⟩ = some (.int .i64 t) := hRx.cell 7
                have n8 : wc.cell? ⟨w1.heap.size + 1, 8, none⟩ = some (.int .i64 u) := hRx.cell 8
                have HBL2 : Hid (B1.length < 1000000) := by show _ < _; have := HBL.out; omega
                go_region_with (first
                  | (go_at_call 10; go_must (
                      refine (ours_at a b c d e _).mono ?_
                      rintro ee w5 ⟨rfl, hf5⟩
                      have hR5 := Blk.fr hRx.drew hf5 (by simp)
                      have p2 : w5.cell? ⟨w1.heap.size + 1, 2, none⟩ = some (.int .i64 a) := hR5.cell 2
                      have p3 : w5.cell? ⟨w1.heap.size + 1, 3, none⟩ = some (.int .i64 b) := hR5.cell 3
                      have p4 : w5.cell? ⟨w1.heap.size + 1, 4, none⟩ = some (.int .i64 c) := hR5.cell 4
                      have p5 : w5.cell? ⟨w1.heap.size + 1, 5, none⟩ = some (.int .i64 d) := hR5.cell 5
                      have p6 : w5.cell? ⟨w1.heap.size + 1, 6, none⟩ = some (.int .i64 e) := hR5.cell 6
                      have p7 : w5.cell? ⟨w1.heap.size + 1, 7, none⟩ = some (.int .i64 t) := hR5.cell 7
                      have p8 : w5.cell? ⟨w1.heap.size + 1, 8, none⟩ = some (.int .i64 u) := hR5.cell 8))
                  | (go_at_call 12; go_must (
                      refine (pend_at (UB w Ax) wc _ g P1 B1 ((HPW.out.grow ((Fr.refl [] wc).drew)).grow hf5) HBL2.out).mono ?_
                      rintro ee w6 ⟨A6, c6, rfl, hs6, hP6⟩))
                  | (go_at_call 11; go_must (
                      refine (same_yes A6 Ax c6 cx B1 _ hs6 (hix.fru hP6.1 (fun j hj => .inr hj)).sl (Nat.le_trans (Nat.le_of_lt HBL2.out) (by decide))).mono ?_
                      rintro ee w7 ⟨rfl, hf7⟩)))
                all_goals
                  go_simp
                  go_wp2
                  go_meet
                  exact ⟨rfl, hP6.grow hf7, (fru_fr HFW.out hP6.1 (fun k hk => .inl hk)).trans hf7⟩
              case rest =>
                obtain ⟨rfl, hPx, hFx⟩ := hcut
                have hixx := hix.fru hPx.1 (fun j hj => .inr hj)
                have hPxx := hPx.re (Fr.refl [] _) (by simp) (U' := UB w Ax) (fun k hk => ⟨Nat.lt_of_lt_of_le (hPx.1.dom k hk) hPx.1.size, .inl hk⟩)
                have HALL := Lib.hid (And.intro hixx (And.intro hPxx hFx))
                clear hixx hPxx hPx hFx hix hRx hC6
                go_wp2
                go_roundw
                case rel =>
                  have hA := HALL.out
                  exact ⟨q + 1, P1, B1, Ax, cx, by go_num, rfl, by omega, by have := HBL.out; omega, by omega, hA.1, hA.2.1, hA.2.2, HG1.out, HRU.out, HAXW.out⟩
                case measure => simp [intOf]; omega
      · obtain ⟨ad, rfl, hcell⟩ := sl_ints (hs0.fr hF (.inr List.not_mem_nil)) hlt
        have h120' : 120 ≤ q := by omega
        clear hm0 hs0
        go_wp2_with fail
        refine (resetp_at _ wr wr g P B hP).mono ?_
        rintro ee w2 ⟨rfl, hP2⟩
        go_wp2_with fail
        refine (pend_at _ wr w2 g P0 [] hP2 (by simp)).mono ?_
        rintro ee w3 ⟨A6, c6, rfl, _, hP3⟩
        have hF3 := fru_fr hF hP3.1 (fun k hk => .inl hk)
        clear hP hP2 hP3 hF hP1 hf1
        go_wp2_with fail
        refine (awake_yes _).mono ?_
        rintro ee w4 ⟨rfl, hf4⟩
        go_wp2
        go_ret
        exact ⟨rfl, hF3.trans hf4⟩
    · obtain rfl : q = xs.length := by omega
      clear hm0 hs0
      go_wp2_with fail
      refine (resetp_at _ wr wr g P B hP).mono ?_
      rintro ee w2 ⟨rfl, hP2⟩
      go_wp2_with fail
      refine (pend_at _ wr w2 g P0 [] hP2 (by simp)).mono ?_
      rintro ee w3 ⟨A6, c6, rfl, _, hP3⟩
      have hF3 := fru_fr hF hP3.1 (fun k hk => .inl hk)
      clear hP hP2 hP3 hF hP1 hf1
      go_wp2_with fail
      refine (awake_yes _).mono ?_
      rintro ee w4 ⟨rfl, hf4⟩
      go_wp2
      go_ret
      exact ⟨rfl, hF3.trans hf4⟩
end Go.Proofs.Ythhkannmeljfkaa
