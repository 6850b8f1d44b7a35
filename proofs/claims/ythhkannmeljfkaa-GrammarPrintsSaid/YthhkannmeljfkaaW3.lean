import Derived.Test.YthhkannmeljfkaaW2
import Derived.Laws.EntriesVeiled
namespace Go.Proofs.Ythhkannmeljfkaa
open Go.RowKit Go.Proofs.Dm

theorem whole_any (g : Nat) (L : Value) (op verb count reg char digits : Int) (st : Nat) (vis rc : Bool) (v : Int) (w : World) (hb : Blk w g 52 (pc ⟨op, verb, count, reg, char, digits, st, vis, rc⟩ L)) :
    Calls Try.prog 37 #[.pointer (some ⟨g, 0, none⟩), .int .i64 v] w fun e w' => e = .returned (.tuple #[.agg #[.nilFunc], .int .i64 1]) ∧ Blk w' g 52 (pc ⟨op, v, count, reg, char, digits, st, vis, rc⟩ L) ∧ Fr [some g] w w' := by
  have c1 : w.cell? ⟨g, 1, none⟩ = some (.int .i64 verb) := hb.cell 1
  have f1 := hb.frozen 1
  have hg := hb.lt
  go_enter Try.func37, Try.ntmps37
  go_wp2
  refine bodyPost_ret (v := .tuple #[.agg #[.nilFunc], .int .i64 1]) (by simp [results, Try.results37, go_sem]) rfl ⟨rfl, (hb.set_ 1 _).alloc _, ((Fr.refl _ w).setB (g := g) (by simp) 1 _).alloc _⟩

theorem among_at (k : Int) (s : ByteArray) (w : World) (b : Bool) (h : amongB k s = b) : Calls Try.prog 29 #[.int .i64 k, .string s] w fun e w' => e = .returned (.bool b) ∧ w = w' := by
  subst h
  exact among_any k s w
theorem among_range {k : Int} {s : ByteArray} (h : amongB k s = true) : 32 < k ∧ k < 127 := by
  simp only [amongB, Bool.and_eq_true, decide_eq_true_eq] at h
  exact ⟨h.1.1, h.1.2⟩
theorem ctrl_at (k : Int) (s : ByteArray) (w : World) (b : Bool) (h : ctrlB k s = b) : Calls Try.prog 41 #[.int .i64 k, .string s] w fun e w' => e = .returned (.bool b) ∧ w = w' := by
  subst h
  exact ctrl_any k s w

/-- What a key comes to: the parser, the next stage, more, done or wrong. -/
abbrev R3 := PS × Nat × Int
def pWhole (P : PS) (v : Int) : R3 := ({ P with verb := v }, 0, 1)
def pWrong (P : PS) : R3 := (P, 0, 2)
def pRegister (P : PS) (k : Int) : R3 := if letterB k true = true then ({ P with reg := k }, 18, 0) else pWrong P
def pNamed (P : PS) (k : Int) : R3 := if letterB k false = true then pWhole { P with char := k } P.verb else pWrong P
def sOthers : ByteArray := ⟨#[45, 43, 105, 97, 100, 104, 108, 106, 107]⟩
def sObjects : ByteArray := ⟨#[99, 114, 108, 98, 116]⟩
def sSeen : ByteArray := ⟨#[100, 120, 121, 99, 112, 111, 118, 86, 58]⟩
def sSeenCtrl : ByteArray := ⟨#[118, 100, 117]⟩
def sMotions : ByteArray := ⟨#[104, 106, 107, 108, 48, 36, 119, 98, 123, 125, 71, 72, 76, 110, 78]⟩
def sOps : ByteArray := ⟨#[100, 121, 99]⟩
def sPlain : ByteArray := ⟨#[120, 112, 80, 111, 79, 117, 46, 105, 97, 73, 65, 118, 86, 58, 47]⟩
def sCtrl : ByteArray := ⟨#[118, 114, 100, 117]⟩
def pSecond (P : PS) (k : Int) : R3 := if k = 103 then pWhole P (26368 + k) else if P.op = 0 ∧ P.vis = false ∧ amongB k sOthers = true then pWhole P (26368 + k) else pWrong P
def pObject (P : PS) (k : Int) : R3 := if amongB k sObjects = true then pWhole P (26880 + k) else pWrong P
def pSelected (P : PS) (k : Int) : R3 := if amongB k sSeen = true ∨ ctrlB k sSeenCtrl = true then pWhole P k else pWrong P
def pBegin2 (P : PS) (k : Int) : R3 :=
  if k = 34 then (P, 34, 0) else if k = 103 then (P, 35, 0) else if amongB (arrowF k) sMotions = true then pWhole P (arrowF k) else if P.vis = true then pSelected P k
  else if amongB k sOps = true then ({ P with op := k }, 39, 0) else if k = 113 ∧ P.rc = true then pWhole P k else if k = 113 ∨ k = 64 then ({ P with verb := k }, 40, 0)
  else if amongB k sPlain = true ∨ ctrlB k sCtrl = true then pWhole P k else pWrong P
def pDigit (P : PS) (k : Int) (st : Nat) : R3 := ({ P with digits := P.digits * 10 + k - 48 }, st, 0)
def pBegin (P : PS) (k : Int) : R3 := if isDigit P k = true then pDigit P k 18 else pBegin2 P.close k
def pOperated2 (P : PS) (k : Int) : R3 :=
  if k = P.op then pWhole P (arrowF k) else if amongB (arrowF k) sMotions = true then pWhole P (arrowF k) else if k = 105 then (P, 48, 0) else if k = 103 then (P, 35, 0) else pWrong P
def pOperated (P : PS) (k : Int) : R3 := if isDigit P k = true then pDigit P k 39 else pOperated2 P.close k

set_option maxHeartbeats 800000 in
theorem register_any (g : Nat) (L : Value) (op verb count reg char digits : Int) (st : Nat) (vis rc : Bool) (k : Int) (w : World) (hb : Blk w g 52 (pc ⟨op, verb, count, reg, char, digits, st, vis, rc⟩ L)) (r : R3) (hr : pRegister ⟨op, verb, count, reg, char, digits, st, vis, rc⟩ k = r) :
    Calls Try.prog 34 #[.pointer (some ⟨g, 0, none⟩), .int .i64 k] w fun e w' => e = .returned (.tuple #[.agg #[stV r.2.1], .int .i64 r.2.2]) ∧ Blk w' g 52 (pc r.1 L) ∧ Fr [some g] w w' := by
  have hg := hb.lt
  have hgn : g ≠ w.heap.size := by omega
  have c3 : w.cell? ⟨g, 3, none⟩ = some (.int .i64 reg) := hb.cell 3
  have f3 := hb.frozen 3
  cases hl : letterB k true with
  | true =>
    obtain rfl : r = (⟨op, verb, count, k, char, digits, st, vis, rc⟩, 18, 0) := by rw [← hr]; simp [pRegister, hl]
    clear hr
    go_enter Try.func34, Try.ntmps34
    go_wp2_with (go_at_call 47; go_must (refine (letter_any k true _).mono ?_; rintro e w1 ⟨rfl, rfl⟩))
    refine bodyPost_ret (v := .tuple #[.agg #[(.func (.func 18) #[] #[])], .int .i64 0]) (by simp [results, Try.results34, go_sem]) rfl ⟨rfl, (hb.set_ 3 _).alloc _, ((Fr.refl _ w).setB (g := g) (by simp) 3 _).alloc _⟩
  | false =>
    obtain rfl : r = (⟨op, verb, count, reg, char, digits, st, vis, rc⟩, 0, 2) := by rw [← hr]; simp [pRegister, pWrong, hl]
    clear hr
    go_enter Try.func34, Try.ntmps34
    go_wp2_with (go_at_call 47; go_must (refine (letter_any k true _).mono ?_; rintro e w1 ⟨rfl, rfl⟩))
    refine bodyPost_ret (v := .tuple #[.agg #[.nilFunc], .int .i64 2]) (by simp [results, Try.results34, go_sem]) rfl ⟨rfl, hb.alloc _, (Fr.refl _ w).alloc _⟩

set_option maxHeartbeats 800000 in
theorem named_any (g : Nat) (L : Value) (op verb count reg char digits : Int) (st : Nat) (vis rc : Bool) (k : Int) (w : World) (hb : Blk w g 52 (pc ⟨op, verb, count, reg, char, digits, st, vis, rc⟩ L)) (r : R3) (hr : pNamed ⟨op, verb, count, reg, char, digits, st, vis, rc⟩ k = r) :
    Calls Try.prog 40 #[.pointer (some ⟨g, 0, none⟩), .int .i64 k] w fun e w' => e = .returned (.tuple #[.agg #[stV r.2.1], .int .i64 r.2.2]) ∧ Blk w' g 52 (pc r.1 L) ∧ Fr [some g] w w' := by
  have hg := hb.lt
  have hgn : g ≠ w.heap.size := by omega
  have c1 : w.cell? ⟨g, 1, none⟩ = some (.int .i64 verb) := hb.cell 1
  have c4 : w.cell? ⟨g, 4, none⟩ = some (.int .i64 char) := hb.cell 4
  have f4 := hb.frozen 4
  cases hl : letterB k false with
  | true =>
    obtain rfl : r = (⟨op, verb, count, reg, k, digits, st, vis, rc⟩, 0, 1) := by rw [← hr]; simp [pNamed, pWhole, hl]
    clear hr
    have hb1 : Blk (w.setCell ⟨g, 4, none⟩ (.int .i64 k)) g 52 (pc ⟨op, verb, count, reg, k, digits, st, vis, rc⟩ L) := hb.set_ 4 (.int .i64 k)
    go_enter Try.func40, Try.ntmps40
    go_wp2_with (first
      | (go_at_call 47; go_must (refine (letter_any k false _).mono ?_; rintro e w1 ⟨rfl, rfl⟩))
      | (go_at_call 37; go_must (
        refine (whole_any g L op verb count reg k digits st vis rc _ _ (hb1.alloc _)).mono ?_
        rintro e w3 ⟨rfl, hB3, hf3⟩
        have hB03 := Blk.fr (Blk.new _ 50 #[.nilFunc]) hf3 (by simp; omega)
        have d03 : w3.cell? ⟨w.heap.size, 0, none⟩ = some .nilFunc := by simpa using hB03.cell 0
        have e03 : w3.frozen? ⟨w.heap.size, 0, none⟩ = false := by simpa using hB03.frozen 0)))
    refine bodyPost_ret (v := .tuple #[.agg #[.nilFunc], .int .i64 1]) (by simp [results, Try.results40, go_sem, d03]) rfl ⟨rfl, hB3.far hgn _, ((((Fr.refl _ w).setB (g := g) (by simp) 4 _).alloc _).seq hf3 (by simp)).setB (g := w.heap.size) (by simp) 0 _⟩
  | false =>
    obtain rfl : r = (⟨op, verb, count, reg, char, digits, st, vis, rc⟩, 0, 2) := by rw [← hr]; simp [pNamed, pWrong, hl]
    clear hr
    go_enter Try.func40, Try.ntmps40
    go_wp2_with (go_at_call 47; go_must (refine (letter_any k false _).mono ?_; rintro e w1 ⟨rfl, rfl⟩))
    refine bodyPost_ret (v := .tuple #[.agg #[.nilFunc], .int .i64 2]) (by simp [results, Try.results40, go_sem]) rfl ⟨rfl, hb.alloc _, (Fr.refl _ w).alloc _⟩

set_option maxHeartbeats 800000 in
theorem second_any (g : Nat) (L : Value) (op verb count reg char digits : Int) (st : Nat) (vis rc : Bool) (k : Int) (w : World) (hb : Blk w g 52 (pc ⟨op, verb, count, reg, char, digits, st, vis, rc⟩ L)) (r : R3) (hr : pSecond ⟨op, verb, count, reg, char, digits, st, vis, rc⟩ k = r) :
    Calls Try.prog 35 #[.pointer (some ⟨g, 0, none⟩), .int .i64 k] w fun e w' => e = .returned (.tuple #[.agg #[stV r.2.1], .int .i64 r.2.2]) ∧ Blk w' g 52 (pc r.1 L) ∧ Fr [some g] w w' := by
  have hg := hb.lt
  have hgn : g ≠ w.heap.size := by omega
  have c0 : w.cell? ⟨g, 0, none⟩ = some (.int .i64 op) := hb.cell 0
  have c8 : w.cell? ⟨g, 8, none⟩ = some (.bool vis) := hb.cell 8
  by_cases h1 : k = 103
  · subst h1
    obtain rfl : r = (⟨op, 26471, count, reg, char, digits, st, vis, rc⟩, 0, 1) := by rw [← hr]; simp [pSecond, pWhole, pWrong]
    clear hr
    go_enter Try.func35, Try.ntmps35
    go_wp2_with (first
      | (go_at_call 37; go_must (
        refine (whole_any g L op verb count reg char digits st vis rc _ _ (hb.alloc _)).mono ?_
        rintro e w3 ⟨rfl, hB3, hf3⟩
        have hB03 := Blk.fr (Blk.new _ 50 #[.nilFunc]) hf3 (by simp; omega)
        have d03 : w3.cell? ⟨w.heap.size, 0, none⟩ = some .nilFunc := by simpa using hB03.cell 0
        have e03 : w3.frozen? ⟨w.heap.size, 0, none⟩ = false := by simpa using hB03.frozen 0)))
    refine bodyPost_ret (v := .tuple #[.agg #[.nilFunc], .int .i64 1]) (by simp [results, Try.results35, go_sem, d03]) rfl ⟨rfl, hB3.far hgn _, (((Fr.refl _ w).alloc _).seq hf3 (by simp)).setB (g := w.heap.size) (by simp) 0 _⟩
  · have hk : (k == 103) = false := beq_eq_false_iff_ne.2 h1
    by_cases h2 : op = 0
    · subst h2
      cases vis with
      | true =>
        obtain rfl : r = (⟨0, verb, count, reg, char, digits, st, true, rc⟩, 0, 2) := by rw [← hr]; simp [pSecond, pWhole, pWrong, h1]
        clear hr
        go_enter Try.func35, Try.ntmps35
        go_wp2_with (first
          | (go_at_call 37; go_must (
            refine (whole_any g L op verb count reg char digits st vis rc _ _ (hb.alloc _)).mono ?_
            rintro e w3 ⟨rfl, hB3, hf3⟩
            have hB03 := Blk.fr (Blk.new _ 50 #[.nilFunc]) hf3 (by simp; omega)
            have d03 : w3.cell? ⟨w.heap.size, 0, none⟩ = some .nilFunc := by simpa using hB03.cell 0
            have e03 : w3.frozen? ⟨w.heap.size, 0, none⟩ = false := by simpa using hB03.frozen 0)))
        refine bodyPost_ret (v := .tuple #[.agg #[.nilFunc], .int .i64 2]) (by simp [results, Try.results35, go_sem]) rfl ⟨rfl, hb.alloc _, (Fr.refl _ w).alloc _⟩
      | false =>
        cases hl : amongB k sOthers with
        | true =>
          obtain rfl : r = (⟨0, 26368 + k, count, reg, char, digits, st, false, rc⟩, 0, 1) := by rw [← hr]; simp [pSecond, pWhole, pWrong, h1, hl]
          clear hr
          obtain ⟨hk1, hk2⟩ := among_range hl
          go_enter Try.func35, Try.ntmps35
          go_wp2_with (first
            | (go_at_call 29; refine (among_at _ sOthers _ true hl).mono ?_; rintro e w1 ⟨rfl, rfl⟩)
            | (go_at_call 37; go_must (
              refine (whole_any g L 0 verb count reg char digits st false rc _ _ (hb.alloc _)).mono ?_
              rintro e w3 ⟨rfl, hB3, hf3⟩
              have hB03 := Blk.fr (Blk.new _ 50 #[.nilFunc]) hf3 (by simp; omega)
              have d03 : w3.cell? ⟨w.heap.size, 0, none⟩ = some .nilFunc := by simpa using hB03.cell 0
              have e03 : w3.frozen? ⟨w.heap.size, 0, none⟩ = false := by simpa using hB03.frozen 0)))
          refine bodyPost_ret (v := .tuple #[.agg #[.nilFunc], .int .i64 1]) (by simp [results, Try.results35, go_sem, d03]) rfl ⟨rfl, hB3.far hgn _, (((Fr.refl _ w).alloc _).seq hf3 (by simp)).setB (g := w.heap.size) (by simp) 0 _⟩
        | false =>
          obtain rfl : r = (⟨0, verb, count, reg, char, digits, st, false, rc⟩, 0, 2) := by rw [← hr]; simp [pSecond, pWhole, pWrong, h1, hl]
          clear hr
          go_enter Try.func35, Try.ntmps35
          go_wp2_with (first
            | (go_at_call 29; refine (among_at _ sOthers _ false hl).mono ?_; rintro e w1 ⟨rfl, rfl⟩))
          refine bodyPost_ret (v := .tuple #[.agg #[.nilFunc], .int .i64 2]) (by simp [results, Try.results35, go_sem]) rfl ⟨rfl, hb.alloc _, (Fr.refl _ w).alloc _⟩
    · have ho : (op == 0) = false := beq_eq_false_iff_ne.2 h2
      obtain rfl : r = (⟨op, verb, count, reg, char, digits, st, vis, rc⟩, 0, 2) := by rw [← hr]; simp [pSecond, pWhole, pWrong, h1, h2]
      clear hr
      go_enter Try.func35, Try.ntmps35
      go_wp2_with (first
        | (go_at_call 37; go_must (
          refine (whole_any g L op verb count reg char digits st vis rc _ _ (hb.alloc _)).mono ?_
          rintro e w3 ⟨rfl, hB3, hf3⟩
          have hB03 := Blk.fr (Blk.new _ 50 #[.nilFunc]) hf3 (by simp; omega)
          have d03 : w3.cell? ⟨w.heap.size, 0, none⟩ = some .nilFunc := by simpa using hB03.cell 0
          have e03 : w3.frozen? ⟨w.heap.size, 0, none⟩ = false := by simpa using hB03.frozen 0)))
      refine bodyPost_ret (v := .tuple #[.agg #[.nilFunc], .int .i64 2]) (by simp [results, Try.results35, go_sem]) rfl ⟨rfl, hb.alloc _, (Fr.refl _ w).alloc _⟩

set_option maxHeartbeats 800000 in
theorem object_any (g : Nat) (L : Value) (op verb count reg char digits : Int) (st : Nat) (vis rc : Bool) (k : Int) (w : World) (hb : Blk w g 52 (pc ⟨op, verb, count, reg, char, digits, st, vis, rc⟩ L)) (r : R3) (hr : pObject ⟨op, verb, count, reg, char, digits, st, vis, rc⟩ k = r) :
    Calls Try.prog 48 #[.pointer (some ⟨g, 0, none⟩), .int .i64 k] w fun e w' => e = .returned (.tuple #[.agg #[stV r.2.1], .int .i64 r.2.2]) ∧ Blk w' g 52 (pc r.1 L) ∧ Fr [some g] w w' := by
  have hg := hb.lt
  have hgn : g ≠ w.heap.size := by omega
  cases hl : amongB k sObjects with
  | true =>
    obtain rfl : r = (⟨op, 26880 + k, count, reg, char, digits, st, vis, rc⟩, 0, 1) := by rw [← hr]; simp [pObject, pWhole, hl]
    clear hr
    obtain ⟨hk1, hk2⟩ := among_range hl
    go_enter Try.func48, Try.ntmps48
    go_wp2_with (first
      | (go_at_call 29; refine (among_at _ sObjects _ true hl).mono ?_; rintro e w1 ⟨rfl, rfl⟩)
      | (go_at_call 37; go_must (
        refine (whole_any g L op verb count reg char digits st vis rc _ _ (hb.alloc _)).mono ?_
        rintro e w3 ⟨rfl, hB3, hf3⟩
        have hB03 := Blk.fr (Blk.new _ 50 #[.nilFunc]) hf3 (by simp; omega)
        have d03 : w3.cell? ⟨w.heap.size, 0, none⟩ = some .nilFunc := by simpa using hB03.cell 0
        have e03 : w3.frozen? ⟨w.heap.size, 0, none⟩ = false := by simpa using hB03.frozen 0)))
    refine bodyPost_ret (v := .tuple #[.agg #[.nilFunc], .int .i64 1]) (by simp [results, Try.results48, go_sem, d03]) rfl ⟨rfl, hB3.far hgn _, (((Fr.refl _ w).alloc _).seq hf3 (by simp)).setB (g := w.heap.size) (by simp) 0 _⟩
  | false =>
    obtain rfl : r = (⟨op, verb, count, reg, char, digits, st, vis, rc⟩, 0, 2) := by rw [← hr]; simp [pObject, pWrong, hl]
    clear hr
    go_enter Try.func48, Try.ntmps48
    go_wp2_with (go_at_call 29; refine (among_at _ sObjects _ false hl).mono ?_; rintro e w1 ⟨rfl, rfl⟩)
    refine bodyPost_ret (v := .tuple #[.agg #[.nilFunc], .int .i64 2]) (by simp [results, Try.results48, go_sem]) rfl ⟨rfl, hb.alloc _, (Fr.refl _ w).alloc _⟩

end Go.Proofs.Ythhkannmeljfkaa
