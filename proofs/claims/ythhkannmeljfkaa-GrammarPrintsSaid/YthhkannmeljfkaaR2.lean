import Derived.Test.YthhkannmeljfkaaR1
namespace Go.Proofs.Ythhkannmeljfkaa
open Go.RowKit Go.Proofs.Dm

/-- What keys come to. -/
def pRun (P : PS) : List Int → List Value × Int × Int
  | [] => (Zero5, 0, 0)
  | k :: rest => if overB (kept (pStep P k)) = true then (Zero5, 2, 5) else if (pStep P k).2.2 = 1 then (cmd5 (kept (pStep P k)), 1, 0) else if (pStep P k).2.2 = 2 then (Zero5, 2, 10) else pRun (kept (pStep P k)) rest
def pGo (r : R3) (rest : List Int) : List Value × Int × Int := if overB (kept r) = true then (Zero5, 2, 5) else if r.2.2 = 1 then (cmd5 (kept r), 1, 0) else if r.2.2 = 2 then (Zero5, 2, 10) else pRun (kept r) rest
theorem pRun_cons (P : PS) (k : Int) (rest : List Int) : pRun P (k :: rest) = pGo (pStep P k) rest := rfl
/-- A key that is no digit. -/
def pNon (P : PS) (k : Int) : R3 := if P.st = 18 then pBegin2 P k else pOperated2 P k

theorem pRun_digit (P : PS) (hst : P.st = 18 ∨ P.st = 39) (k : Int) (rest : List Int) (hd : isDigit P k = true) :
    pRun P (k :: rest) = if 9999 < P.digits * 10 + k - 48 ∨ 9999 < (P.digits * 10 + k - 48) * max P.count 1 then (Zero5, 2, 5) else pRun { P with digits := P.digits * 10 + k - 48 } rest := by
  have h : pStep P k = pDigit P k P.st := by
    rcases hst with h | h
    · simp [pStep, h, pBegin, hd]
    · simp [pStep, h, pOperated, hd]
  rw [pRun_cons, h]
  obtain ⟨op, verb, count, reg, char, digits, st, vis, rc⟩ := P
  simp only [pGo, pDigit, kept, overB]
  by_cases h1 : 9999 < digits * 10 + k - 48
  · simp [h1]
  · by_cases h2 : 9999 < (digits * 10 + k - 48) * max count 1
    · simp [h2]
    · simp [h1, h2]
theorem pRun_non (P : PS) (hst : P.st = 18 ∨ P.st = 39) (k : Int) (rest : List Int) (hd : isDigit P k = false) : pRun P (k :: rest) = pGo (pNon P.close k) rest := by
  have hs : P.close.st = P.st := by unfold PS.close; split <;> rfl
  rw [pRun_cons]
  rcases hst with h | h
  · simp [pStep, h, pBegin, hd, pNon, hs]
  · simp [pStep, h, pOperated, hd, pNon, hs]
/-- What counting leaves. -/
def CntPost (l : List Int) (i : Nat) (op verb count reg char : Int) (st : Nat) (vis rc : Bool) (b : Bool) (j : Nat) (cnt what err : Int) : Prop :=
  (b = false ∧ what = 2 ∧ err = 5 ∧ pRun ⟨op, verb, count, reg, char, 0, st, vis, rc⟩ (l.drop i) = (Zero5, 2, 5)) ∨
  (b = true ∧ what = 0 ∧ err = 0 ∧ ((j = l.length ∧ pRun ⟨op, verb, count, reg, char, 0, st, vis, rc⟩ (l.drop i) = (Zero5, 0, 0)) ∨
    (j < l.length ∧ i ≤ j ∧ 0 ≤ cnt ∧ cnt ≤ 9999 ∧ pRun ⟨op, verb, count, reg, char, 0, st, vis, rc⟩ (l.drop i) = pGo (pNon ⟨op, verb, cnt, reg, char, 0, st, vis, rc⟩ (l.getD j 0)) (l.drop (j + 1)))))

/-- What counting answers. -/
def CntAns (e : Ending) (w' : World) (g : Nat) (A : Option Addr) (c : Nat) (l : List Int) (i : Nat) (op verb count reg char : Int) (st : Nat) (vis rc : Bool) : Prop :=
  ∃ b, e = .returned (.bool b) ∧ ∃ j cnt what err, RAt w' g A c l ⟨j, op, verb, cnt, reg, char, what, err⟩ ∧ j ≤ l.length ∧ CntPost l i op verb count reg char st vis rc b j cnt what err

def posOf (w : World) (g : Nat) : Nat := (intOf ((w.cell? ⟨g, 1, none⟩).getD (.int .i64 0))).toNat

theorem drop_at (l : List Int) (j : Nat) (h : j < l.length) : l.drop j = l.getD j 0 :: l.drop (j + 1) := by
  rw [List.drop_eq_getElem_cons h]
  simp [List.getD_eq_getElem?_getD, h]
theorem sl_ints {w : World} {A : Option Addr} {l : List Int} (h : Sl w A (ints l)) {j : Nat} (hj : j < l.length) : ∃ ad, A = some ad ∧ w.cell? (ad.add j) = some (.int .i64 (l.getD j 0)) := by
  obtain ⟨ad, hA, _, hc⟩ := h.at_ (k := j) (u := .int .i64 (l.getD j 0)) (by simp [ints, List.getD_eq_getElem?_getD, hj])
  exact ⟨ad, hA, hc⟩

set_option maxRecDepth 100000 in
set_option maxHeartbeats 3200000 in
theorem count_at (w : World) (g : Nat) (A : Option Addr) (c : Nat) (l : List Int) (i : Nat) (op verb count reg char : Int) (st : Nat) (vis rc : Bool) (hst : st = 18 ∨ st = 39)
    (h : RAt w g A c l ⟨i, op, verb, count, reg, char, 0, 0⟩) (hl : l.length < 60000) (hi : i ≤ l.length) (hc0 : 0 ≤ count) (hc1 : count ≤ 9999) :
    Calls Try.prog 42 #[.pointer (some ⟨g, 0, none⟩)] w fun e w' => Fr [some g] w w' ∧ CntAns e w' g A c l i op verb count reg char st vis rc := by
  go_enter Try.func42, Try.ntmps42
  go_wp2_with fail
  go_loopw [3, 4] (fun v _ wr => ∃ (j : Nat) (n : Int), v = .int .i64 n ∧ RAt wr g A c l ⟨j, op, verb, count, reg, char, 0, 0⟩ ∧ Fr [some g] w wr ∧ j ≤ l.length ∧ i ≤ j ∧ 0 ≤ n ∧ n ≤ 9999 ∧ n * max count 1 ≤ 9999 ∧
      pRun ⟨op, verb, count, reg, char, 0, st, vis, rc⟩ (l.drop i) = pRun ⟨op, verb, count, reg, char, n, st, vis, rc⟩ (l.drop j)) (fun _ _ wr => l.length - posOf wr g)
  case atStart => exact ⟨i, 0, rfl, h, Fr.refl _ _, hi, Nat.le_refl _, by omega, by omega, by omega, rfl⟩
  case round =>
    obtain ⟨j, n, rfl, ⟨hb, hs, hA⟩, hf, hj, hij, hn0, hn1, hn2, hrun⟩ := hrel
    have c0 : wr.cell? ⟨g, 0, none⟩ = some (.slice A l.length c) := hb.cell 0
    have c1 : wr.cell? ⟨g, 1, none⟩ = some (.int .i64 j) := hb.cell 1
    have c4 : wr.cell? ⟨g, 4, none⟩ = some (.int .i64 count) := hb.cell 4
    have c7 : wr.cell? ⟨g, 7, none⟩ = some (.int .i64 0) := hb.cell 7
    have c8 : wr.cell? ⟨g, 8, none⟩ = some (.int .i64 0) := hb.cell 8
    have f1 := hb.frozen 1
    have f4 := hb.frozen 4
    have f7 := hb.frozen 7
    have f8 := hb.frozen 8
    by_cases hlt : j < l.length
    · have hdr := drop_at l j hlt
      obtain ⟨ad, rfl, hcell⟩ := sl_ints hs hlt
      have hfar : ad.block ≠ g := by simpa [bk] using hA
      have hjl : ¬ l.length ≤ j := by omega
      obtain ⟨x, hx⟩ : ∃ x, x = l.getD j 0 := ⟨_, rfl⟩
      rw [← hx] at hcell hdr
      rw [hdr] at hrun
      by_cases hdig : isDigit ⟨op, verb, count, reg, char, n, st, vis, rc⟩ x = true
      · have hfx : ∀ a, Fr [some g] w ((((wr.drewN a).setCell ⟨g, 1, none⟩ (.int .i64 (j + 1))).setCell ⟨g, 7, none⟩ (.int .i64 2)).setCell ⟨g, 8, none⟩ (.int .i64 5)) := fun a => (((hf.drewN a).setB (g := g) (by simp) 1 _).setB (g := g) (by simp) 7 _).setB (g := g) (by simp) 8 _
        have hfx' : ∀ a, Fr [some g] wr ((((wr.drewN a).setCell ⟨g, 1, none⟩ (.int .i64 (j + 1))).setCell ⟨g, 7, none⟩ (.int .i64 2)).setCell ⟨g, 8, none⟩ (.int .i64 5)) := fun a => ((((Fr.refl [some g] wr).drewN a).setB (g := g) (by simp) 1 _).setB (g := g) (by simp) 7 _).setB (g := g) (by simp) 8 _
        have hfy : ∀ a, Fr [some g] w ((wr.drewN a).setCell ⟨g, 1, none⟩ (.int .i64 (j + 1))) := fun a => (hf.drewN a).setB (g := g) (by simp) 1 _
        have hfy' : ∀ a, Fr [some g] wr ((wr.drewN a).setCell ⟨g, 1, none⟩ (.int .i64 (j + 1))) := fun a => ((Fr.refl [some g] wr).drewN a).setB (g := g) (by simp) 1 _
        rw [pRun_digit _ hst x _ hdig] at hrun
        simp only at hrun
        obtain ⟨N, hN⟩ : ∃ N, N = n * 10 + x - 48 := ⟨_, rfl⟩
        rw [← hN] at hrun
        have HR := Lib.hid hrun
        simp only [isDigit, Bool.and_eq_true, decide_eq_true_eq, Bool.not_eq_true', Bool.and_eq_false_iff, beq_eq_false_iff_ne] at hdig
        obtain ⟨⟨hw0, hw1⟩, hwn⟩ := hdig
        have hN0 : 0 ≤ N := by omega
        have hN1 : N ≤ 100000 := by omega
        have hd1 : decide (48 ≤ x) = true := decide_eq_true hw0
        have hd2 : decide (x ≤ 57) = true := decide_eq_true hw1
        clear hrun hdr hx h
        by_cases hnn : 0 < n
        · have hdn : decide (0 < n) = true := decide_eq_true hnn
          clear hw0 hw1 hnn hwn
          go_wp2_with fail
          go_quiet (fail)
          go_wp2_with fail
          go_quiet (fail)
          rw [← hN]
          clear hN hd1 hd2 hdn hcell
          by_cases hcp : 0 < count
          · have hmx : max count 1 = count := Int.max_eq_left (by omega)
            rw [hmx] at HR
            clear hmx hn2
            by_cases hbig : 9999 < N * count
            · have hq1 : decide (9999 < N * count) = true := decide_eq_true hbig
              have hmb : N * count ≤ 100000000000 := Int.le_trans (Int.mul_le_mul hN1 hc1 hc0 (by omega)) (by omega)
              go_wp2
              go_ret
              exact ⟨hfx _, false, rfl, j + 1, count, 2, 5, ⟨(((hb.drewN _).set_ 1 _).set_ 7 _).set_ 8 _, hs.fr (hfx' _) (.inr (by simpa using hA)), hA⟩, by omega, .inl ⟨rfl, rfl, rfl, HR.out.trans (if_pos (.inr hbig))⟩⟩
            · have hq1 : decide (9999 < N * count) = false := decide_eq_false hbig
              have hmb : N * count ≤ 9999 := by omega
              have hm0 : 0 ≤ N * count := Int.mul_nonneg hN0 hc0
              have hN9 : N ≤ 9999 := Int.le_trans (by simpa using Int.mul_le_mul_of_nonneg_left (show 1 ≤ count by omega) hN0) hmb
              have hq2 : decide (9999 < N) = false := decide_eq_false (by omega)
              go_wp2
              go_roundw
              case rel => exact ⟨j + 1, N, rfl, ⟨(hb.drewN _).set_ 1 _, hs.fr (hfy' _) (.inr (by simpa using hA)), hA⟩, hfy _, by omega, by omega, hN0, hN9, by rw [Int.max_eq_left (by omega)]; exact hmb, HR.out.trans (if_neg (by omega))⟩
              case measure => simp only [posOf]; rw [((hb.drewN _).set_ 1 _).cell 1, hb.cell 1]; simp [rd, intOf]; omega
          · obtain rfl : count = 0 := by omega
            rw [show (max (0 : Int) 1) = 1 from rfl, Int.mul_one] at HR
            clear hn2
            by_cases hbig : 9999 < N
            · have hq1 : decide (9999 < N) = true := decide_eq_true hbig
              go_wp2
              go_ret
              exact ⟨hfx _, false, rfl, j + 1, 0, 2, 5, ⟨(((hb.drewN _).set_ 1 _).set_ 7 _).set_ 8 _, hs.fr (hfx' _) (.inr (by simpa using hA)), hA⟩, by omega, .inl ⟨rfl, rfl, rfl, HR.out.trans (if_pos (.inr hbig))⟩⟩
            · have hq1 : decide (9999 < N) = false := decide_eq_false hbig
              go_wp2
              go_roundw
              case rel => exact ⟨j + 1, N, rfl, ⟨(hb.drewN _).set_ 1 _, hs.fr (hfy' _) (.inr (by simpa using hA)), hA⟩, hfy _, by omega, by omega, hN0, by omega, by rw [show (max (0 : Int) 1) = 1 from rfl]; omega, HR.out.trans (if_neg (by omega))⟩
              case measure => simp only [posOf]; rw [((hb.drewN _).set_ 1 _).cell 1, hb.cell 1]; simp [rd, intOf]; omega
        · have hdn : decide (0 < n) = false := decide_eq_false hnn
          have hd3 : decide (48 < x) = true := decide_eq_true (by omega)
          clear hw0 hw1 hnn hwn
          go_wp2_with fail
          go_quiet (fail)
          go_wp2_with fail
          go_quiet (fail)
          rw [← hN]
          clear hN hd1 hd2 hdn hd3 hcell
          by_cases hcp : 0 < count
          · have hmx : max count 1 = count := Int.max_eq_left (by omega)
            rw [hmx] at HR
            clear hmx hn2
            by_cases hbig : 9999 < N * count
            · have hq1 : decide (9999 < N * count) = true := decide_eq_true hbig
              have hmb : N * count ≤ 100000000000 := Int.le_trans (Int.mul_le_mul hN1 hc1 hc0 (by omega)) (by omega)
              go_wp2
              go_ret
              exact ⟨hfx _, false, rfl, j + 1, count, 2, 5, ⟨(((hb.drewN _).set_ 1 _).set_ 7 _).set_ 8 _, hs.fr (hfx' _) (.inr (by simpa using hA)), hA⟩, by omega, .inl ⟨rfl, rfl, rfl, HR.out.trans (if_pos (.inr hbig))⟩⟩
            · have hq1 : decide (9999 < N * count) = false := decide_eq_false hbig
              have hmb : N * count ≤ 9999 := by omega
              have hm0 : 0 ≤ N * count := Int.mul_nonneg hN0 hc0
              have hN9 : N ≤ 9999 := Int.le_trans (by simpa using Int.mul_le_mul_of_nonneg_left (show 1 ≤ count by omega) hN0) hmb
              have hq2 : decide (9999 < N) = false := decide_eq_false (by omega)
              go_wp2
              go_roundw
              case rel => exact ⟨j + 1, N, rfl, ⟨(hb.drewN _).set_ 1 _, hs.fr (hfy' _) (.inr (by simpa using hA)), hA⟩, hfy _, by omega, by omega, hN0, hN9, by rw [Int.max_eq_left (by omega)]; exact hmb, HR.out.trans (if_neg (by omega))⟩
              case measure => simp only [posOf]; rw [((hb.drewN _).set_ 1 _).cell 1, hb.cell 1]; simp [rd, intOf]; omega
          · obtain rfl : count = 0 := by omega
            rw [show (max (0 : Int) 1) = 1 from rfl, Int.mul_one] at HR
            clear hn2
            by_cases hbig : 9999 < N
            · have hq1 : decide (9999 < N) = true := decide_eq_true hbig
              go_wp2
              go_ret
              exact ⟨hfx _, false, rfl, j + 1, 0, 2, 5, ⟨(((hb.drewN _).set_ 1 _).set_ 7 _).set_ 8 _, hs.fr (hfx' _) (.inr (by simpa using hA)), hA⟩, by omega, .inl ⟨rfl, rfl, rfl, HR.out.trans (if_pos (.inr hbig))⟩⟩
            · have hq1 : decide (9999 < N) = false := decide_eq_false hbig
              go_wp2
              go_roundw
              case rel => exact ⟨j + 1, N, rfl, ⟨(hb.drewN _).set_ 1 _, hs.fr (hfy' _) (.inr (by simpa using hA)), hA⟩, hfy _, by omega, by omega, hN0, by omega, by rw [show (max (0 : Int) 1) = 1 from rfl]; omega, HR.out.trans (if_neg (by omega))⟩
              case measure => simp only [posOf]; rw [((hb.drewN _).set_ 1 _).cell 1, hb.cell 1]; simp [rd, intOf]; omega
      · have hdig' : isDigit ⟨op, verb, count, reg, char, n, st, vis, rc⟩ x = false := by simpa using hdig
        rw [pRun_non _ hst x _ hdig'] at hrun
        have hw : x < 48 ∨ (48 ≤ x ∧ 57 < x) ∨ (x = 48 ∧ n = 0) := by
          simp only [isDigit, Bool.and_eq_true, decide_eq_true_eq, Bool.not_eq_true', Bool.and_eq_false_iff, beq_eq_false_iff_ne] at hdig
          omega
        clear hdig hdig' hdr h
        have hn : n = 0 ∨ (0 < n ∧ count = 0) ∨ (0 < n ∧ 0 < count) := by omega
        rcases hn with rfl | ⟨hn, rfl⟩ | ⟨hn, hcp⟩
        · have HR := Lib.hid (hrun.trans (by rw [show PS.close ⟨op, verb, count, reg, char, 0, st, vis, rc⟩ = ⟨op, verb, count, reg, char, 0, st, vis, rc⟩ from by simp [PS.close], hx]))
          clear hrun hx
          rcases hw with hw | ⟨hw1, hw⟩ | ⟨hx48, hw⟩
          · have hd1 : decide (48 ≤ x) = false := decide_eq_false (by omega)
            clear hw
            go_wp2_with fail
            go_quiet (fail)
            go_wp2_with fail
            go_quiet (fail)
            go_wp2
            go_ret
            exact ⟨(hf.drewN _).drewN _, true, rfl, j, count, 0, 0, ⟨(hb.drewN _).drewN _, hs.fr (((Fr.refl [] wr).drewN _).drewN _) (.inr List.not_mem_nil), hA⟩, hj, .inr ⟨rfl, rfl, rfl, .inr ⟨hlt, hij, hc0, hc1, HR.out⟩⟩⟩
          · have hd1 : decide (48 ≤ x) = true := decide_eq_true hw1
            have hd2 : decide (x ≤ 57) = false := decide_eq_false (by omega)
            clear hw hw1
            go_wp2_with fail
            go_quiet (fail)
            go_wp2_with fail
            go_quiet (fail)
            go_wp2
            go_ret
            exact ⟨(hf.drewN _).drewN _, true, rfl, j, count, 0, 0, ⟨(hb.drewN _).drewN _, hs.fr (((Fr.refl [] wr).drewN _).drewN _) (.inr List.not_mem_nil), hA⟩, hj, .inr ⟨rfl, rfl, rfl, .inr ⟨hlt, hij, hc0, hc1, HR.out⟩⟩⟩
          · subst hx48
            have hd0 : decide ((0 : Int) < 0) = false := by decide
            clear hw
            go_wp2_with fail
            go_quiet (fail)
            go_wp2_with fail
            go_quiet (fail)
            go_wp2
            go_ret
            exact ⟨(hf.drewN _).drewN _, true, rfl, j, count, 0, 0, ⟨(hb.drewN _).drewN _, hs.fr (((Fr.refl [] wr).drewN _).drewN _) (.inr List.not_mem_nil), hA⟩, hj, .inr ⟨rfl, rfl, rfl, .inr ⟨hlt, hij, hc0, hc1, HR.out⟩⟩⟩
        · have HR := Lib.hid (hrun.trans (by rw [show PS.close ⟨op, verb, 0, reg, char, n, st, vis, rc⟩ = ⟨op, verb, n, reg, char, 0, st, vis, rc⟩ from by simp [PS.close, hn, show (max (0 : Int) 1) = 1 from rfl]]))
          have HN := Lib.hid hn
          rw [hx] at HR
          clear hrun hx hn2
          have hdn : decide (0 < n) = true := decide_eq_true hn
          have hf4 : ∀ a, Fr [some g] w ((wr.drewN a).setCell ⟨g, 4, none⟩ (.int .i64 (n))) := fun a => (hf.drewN a).setB (g := g) (by simp) 4 _
          have hf4' : ∀ a, Fr [some g] wr ((wr.drewN a).setCell ⟨g, 4, none⟩ (.int .i64 (n))) := fun a => ((Fr.refl [some g] wr).drewN a).setB (g := g) (by simp) 4 _
          rcases hw with hw | ⟨hw1, hw⟩ | ⟨hx48, hw⟩
          · have hd1 : decide (48 ≤ x) = false := decide_eq_false (by omega)
            clear hw
            go_wp2_with fail
            go_quiet (fail)
            go_wp2_with fail
            go_quiet (fail)
            go_wp2
            go_ret
            exact ⟨hf4 _, true, rfl, j, n, 0, 0, ⟨(hb.drewN _).set_ 4 _, hs.fr (hf4' _) (.inr (by simpa using hA)), hA⟩, hj, .inr ⟨rfl, rfl, rfl, .inr ⟨hlt, hij, hn0, hn1, HR.out⟩⟩⟩
          · have hd1 : decide (48 ≤ x) = true := decide_eq_true hw1
            have hd2 : decide (x ≤ 57) = false := decide_eq_false (by omega)
            clear hw hw1
            go_wp2_with fail
            go_quiet (fail)
            go_wp2_with fail
            go_quiet (fail)
            go_wp2
            go_ret
            exact ⟨hf4 _, true, rfl, j, n, 0, 0, ⟨(hb.drewN _).set_ 4 _, hs.fr (hf4' _) (.inr (by simpa using hA)), hA⟩, hj, .inr ⟨rfl, rfl, rfl, .inr ⟨hlt, hij, hn0, hn1, HR.out⟩⟩⟩
          · exact absurd hw (by have := HN.out; omega)
        · have hm2 : n * count ≤ 9999 := by rwa [Int.max_eq_left (by omega)] at hn2
          have hm0 : 0 ≤ n * count := Int.mul_nonneg hn0 hc0
          have HR := Lib.hid (hrun.trans (by rw [show PS.close ⟨op, verb, count, reg, char, n, st, vis, rc⟩ = ⟨op, verb, n * count, reg, char, 0, st, vis, rc⟩ from by simp [PS.close, hn, Int.max_eq_left (show 1 ≤ count by omega)]]))
          have HN := Lib.hid hn
          rw [hx] at HR
          clear hrun hx hn2
          have hdn : decide (0 < n) = true := decide_eq_true hn
          have hf4 : ∀ a, Fr [some g] w ((wr.drewN a).setCell ⟨g, 4, none⟩ (.int .i64 (n * count))) := fun a => (hf.drewN a).setB (g := g) (by simp) 4 _
          have hf4' : ∀ a, Fr [some g] wr ((wr.drewN a).setCell ⟨g, 4, none⟩ (.int .i64 (n * count))) := fun a => ((Fr.refl [some g] wr).drewN a).setB (g := g) (by simp) 4 _
          rcases hw with hw | ⟨hw1, hw⟩ | ⟨hx48, hw⟩
          · have hd1 : decide (48 ≤ x) = false := decide_eq_false (by omega)
            clear hw
            go_wp2_with fail
            go_quiet (fail)
            go_wp2_with fail
            go_quiet (fail)
            go_wp2
            go_ret
            exact ⟨hf4 _, true, rfl, j, n * count, 0, 0, ⟨(hb.drewN _).set_ 4 _, hs.fr (hf4' _) (.inr (by simpa using hA)), hA⟩, hj, .inr ⟨rfl, rfl, rfl, .inr ⟨hlt, hij, hm0, hm2, HR.out⟩⟩⟩
          · have hd1 : decide (48 ≤ x) = true := decide_eq_true hw1
            have hd2 : decide (x ≤ 57) = false := decide_eq_false (by omega)
            clear hw hw1
            go_wp2_with fail
            go_quiet (fail)
            go_wp2_with fail
            go_quiet (fail)
            go_wp2
            go_ret
            exact ⟨hf4 _, true, rfl, j, n * count, 0, 0, ⟨(hb.drewN _).set_ 4 _, hs.fr (hf4' _) (.inr (by simpa using hA)), hA⟩, hj, .inr ⟨rfl, rfl, rfl, .inr ⟨hlt, hij, hm0, hm2, HR.out⟩⟩⟩
          · exact absurd hw (by have := HN.out; omega)
    · obtain rfl : j = l.length := by omega
      rw [List.drop_length] at hrun
      have HR := Lib.hid hrun
      clear hrun h
      by_cases hn : 0 < n
      · go_wp2_with fail
        go_quiet (fail)
        go_wp2_with fail
        go_quiet (fail)
        go_wp2
        go_ret
        exact ⟨(hf.drewN _).drewN _, true, rfl, l.length, count, 0, 0, ⟨(hb.drewN _).drewN _, hs.fr (((Fr.refl [] wr).drewN _).drewN _) (.inr List.not_mem_nil), hA⟩, Nat.le_refl _, .inr ⟨rfl, rfl, rfl, .inl ⟨rfl, HR.out⟩⟩⟩
      · have hdn : decide (0 < n) = false := decide_eq_false (by omega)
        go_wp2_with fail
        go_quiet (fail)
        go_wp2_with fail
        go_quiet (fail)
        go_wp2
        go_ret
        exact ⟨(hf.drewN _).drewN _, true, rfl, l.length, count, 0, 0, ⟨(hb.drewN _).drewN _, hs.fr (((Fr.refl [] wr).drewN _).drewN _) (.inr List.not_mem_nil), hA⟩, Nat.le_refl _, .inr ⟨rfl, rfl, rfl, .inl ⟨rfl, HR.out⟩⟩⟩
end Go.Proofs.Ythhkannmeljfkaa
