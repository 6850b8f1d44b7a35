import Derived.Test.YthhkannmeljfkaaW3
namespace Go.Proofs.Ythhkannmeljfkaa
open Go.RowKit Go.Proofs.Dm

set_option maxHeartbeats 800000 in
theorem selected_any (g : Nat) (L : Value) (op verb count reg char digits : Int) (st : Nat) (vis rc : Bool) (k : Int) (w : World) (hb : Blk w g 52 (pc ⟨op, verb, count, reg, char, digits, st, vis, rc⟩ L)) (r : R3) (hr : pSelected ⟨op, verb, count, reg, char, digits, st, vis, rc⟩ k = r) :
    Calls Try.prog 38 #[.pointer (some ⟨g, 0, none⟩), .int .i64 k] w fun e w' => e = .returned (.tuple #[.agg #[stV r.2.1], .int .i64 r.2.2]) ∧ Blk w' g 52 (pc r.1 L) ∧ Fr [some g] w w' := by
  have hg := hb.lt
  have hgn : g ≠ w.heap.size := by omega
  cases h1 : amongB k sSeen with
  | true =>
    obtain rfl : r = (⟨op, k, count, reg, char, digits, st, vis, rc⟩, 0, 1) := by rw [← hr]; simp [pSelected, pWhole, pWrong, h1]
    clear hr
    go_enter Try.func38, Try.ntmps38
    go_wp2_with (first
      | (go_at_call 29; refine (among_at _ sSeen _ true h1).mono ?_; rintro e w1 ⟨rfl, rfl⟩)
      | (go_at_call 37; go_must (
        refine (whole_any g L op verb count reg char digits st vis rc _ _ (hb.alloc _)).mono ?_
        rintro e w3 ⟨rfl, hB3, hf3⟩
        have hB03 := Blk.fr (Blk.new _ 50 #[.nilFunc]) hf3 (by simp; omega)
        have d03 : w3.cell? ⟨w.heap.size, 0, none⟩ = some .nilFunc := by simpa using hB03.cell 0
        have e03 : w3.frozen? ⟨w.heap.size, 0, none⟩ = false := by simpa using hB03.frozen 0)))
    refine bodyPost_ret (v := .tuple #[.agg #[.nilFunc], .int .i64 1]) (by simp [results, Try.results38, go_sem, d03]) rfl ⟨rfl, hB3.far hgn _, (((Fr.refl _ w).alloc _).seq hf3 (by simp)).setB (g := w.heap.size) (by simp) 0 _⟩
  | false =>
    cases h2 : ctrlB k sSeenCtrl with
    | true =>
      obtain rfl : r = (⟨op, k, count, reg, char, digits, st, vis, rc⟩, 0, 1) := by rw [← hr]; simp [pSelected, pWhole, pWrong, h1, h2]
      clear hr
      go_enter Try.func38, Try.ntmps38
      go_wp2_with (first
        | (go_at_call 29; refine (among_at _ sSeen _ false h1).mono ?_; rintro e w1 ⟨rfl, rfl⟩)
        | (go_at_call 41; refine (ctrl_at _ sSeenCtrl _ true h2).mono ?_; rintro e w1 ⟨rfl, rfl⟩)
        | (go_at_call 37; go_must (
          refine (whole_any g L op verb count reg char digits st vis rc _ _ (hb.alloc _)).mono ?_
          rintro e w3 ⟨rfl, hB3, hf3⟩
          have hB03 := Blk.fr (Blk.new _ 50 #[.nilFunc]) hf3 (by simp; omega)
          have d03 : w3.cell? ⟨w.heap.size, 0, none⟩ = some .nilFunc := by simpa using hB03.cell 0
          have e03 : w3.frozen? ⟨w.heap.size, 0, none⟩ = false := by simpa using hB03.frozen 0)))
      refine bodyPost_ret (v := .tuple #[.agg #[.nilFunc], .int .i64 1]) (by simp [results, Try.results38, go_sem, d03]) rfl ⟨rfl, hB3.far hgn _, (((Fr.refl _ w).alloc _).seq hf3 (by simp)).setB (g := w.heap.size) (by simp) 0 _⟩
    | false =>
      obtain rfl : r = (⟨op, verb, count, reg, char, digits, st, vis, rc⟩, 0, 2) := by rw [← hr]; simp [pSelected, pWhole, pWrong, h1, h2]
      clear hr
      go_enter Try.func38, Try.ntmps38
      go_wp2_with (first
        | (go_at_call 29; refine (among_at _ sSeen _ false h1).mono ?_; rintro e w1 ⟨rfl, rfl⟩)
        | (go_at_call 41; refine (ctrl_at _ sSeenCtrl _ false h2).mono ?_; rintro e w1 ⟨rfl, rfl⟩))
      refine bodyPost_ret (v := .tuple #[.agg #[.nilFunc], .int .i64 2]) (by simp [results, Try.results38, go_sem]) rfl ⟨rfl, hb.alloc _, (Fr.refl _ w).alloc _⟩

set_option maxHeartbeats 800000 in
theorem begin2_any (g : Nat) (L : Value) (op verb count reg char digits : Int) (st : Nat) (vis rc : Bool) (k : Int) (w : World) (hb : Blk w g 52 (pc ⟨op, verb, count, reg, char, digits, st, vis, rc⟩ L)) (b0 : 0 ≤ digits) (b1 : digits ≤ 9999) (b2 : 0 ≤ count) (b3 : count ≤ 9999)
    (hnd : isDigit ⟨op, verb, count, reg, char, digits, st, vis, rc⟩ k = false) (c' d' : Int) (hcl : PS.close ⟨op, verb, count, reg, char, digits, st, vis, rc⟩ = ⟨op, verb, c', reg, char, d', st, vis, rc⟩) (r : R3) (hr : pBegin2 ⟨op, verb, c', reg, char, d', st, vis, rc⟩ k = r) :
    Calls Try.prog 18 #[.pointer (some ⟨g, 0, none⟩), .int .i64 k] w fun e w' => e = .returned (.tuple #[.agg #[stV r.2.1], .int .i64 r.2.2]) ∧ Blk w' g 52 (pc r.1 L) ∧ Fr [some g] w w' := by
  have hg := hb.lt
  have hgn : g ≠ w.heap.size := by omega
  have HC := Lib.hid hcl
  have tok1 : True := trivial
  have tok2 : True := trivial
  have tok3 : True := trivial
  clear hcl
  by_cases h1 : k = 34
  · subst h1
    obtain rfl : r = (⟨op, verb, c', reg, char, d', st, vis, rc⟩, 34, 0) := by rw [← hr]; simp [pBegin2, pWhole, pWrong]
    clear hr
    go_enter Try.func18, Try.ntmps18
    go_wp2_with (first
      | (go_at_call 32; go_must (refine (counted_no g L op verb count reg char digits st vis rc 34 _ (hb.alloc _) hnd).mono ?_; rintro e w1 ⟨rfl, rfl⟩))
      | (go_at_call 33; go_must (
        refine (close_any g L op verb count reg char digits st vis rc _ (hb.alloc _) b0 b1 b2 b3).mono ?_
        rintro e w2 ⟨rfl, hB2, hf2⟩
        rw [HC.out] at hB2
        have hB02 := Blk.fr (Blk.new _ 50 #[.nilFunc]) hf2 (by simp; omega)
        have d02 : w2.cell? ⟨w.heap.size, 0, none⟩ = some .nilFunc := by simpa using hB02.cell 0
        have e02 : w2.frozen? ⟨w.heap.size, 0, none⟩ = false := by simpa using hB02.frozen 0
        have c0 : w2.cell? ⟨g, 0, none⟩ = some (.int .i64 op) := hB2.cell 0
        have c1 : w2.cell? ⟨g, 1, none⟩ = some (.int .i64 verb) := hB2.cell 1
        have c8 : w2.cell? ⟨g, 8, none⟩ = some (.bool vis) := hB2.cell 8
        have c9 : w2.cell? ⟨g, 9, none⟩ = some (.bool rc) := hB2.cell 9
        have f0 := hB2.frozen 0
        have f1 := hB2.frozen 1)))
    refine bodyPost_ret (v := .tuple #[.agg #[(.func (.func 34) #[] #[])], .int .i64 0]) (by simp [results, Try.results18, go_sem, d02]) rfl ⟨rfl, hB2.far hgn _, (((Fr.refl _ w).alloc _).seq hf2 (by simp)).setB (g := w.heap.size) (by simp) 0 _⟩
  have n1 : (k == 34) = false := beq_eq_false_iff_ne.2 h1
  by_cases h2 : k = 103
  · subst h2
    obtain rfl : r = (⟨op, verb, c', reg, char, d', st, vis, rc⟩, 35, 0) := by rw [← hr]; simp [pBegin2, pWhole, pWrong]
    clear hr
    go_enter Try.func18, Try.ntmps18
    go_wp2_with (first
      | (go_at_call 32; go_must (refine (counted_no g L op verb count reg char digits st vis rc 103 _ (hb.alloc _) hnd).mono ?_; rintro e w1 ⟨rfl, rfl⟩))
      | (go_at_call 33; go_must (
        refine (close_any g L op verb count reg char digits st vis rc _ (hb.alloc _) b0 b1 b2 b3).mono ?_
        rintro e w2 ⟨rfl, hB2, hf2⟩
        rw [HC.out] at hB2
        have hB02 := Blk.fr (Blk.new _ 50 #[.nilFunc]) hf2 (by simp; omega)
        have d02 : w2.cell? ⟨w.heap.size, 0, none⟩ = some .nilFunc := by simpa using hB02.cell 0
        have e02 : w2.frozen? ⟨w.heap.size, 0, none⟩ = false := by simpa using hB02.frozen 0
        have c0 : w2.cell? ⟨g, 0, none⟩ = some (.int .i64 op) := hB2.cell 0
        have c1 : w2.cell? ⟨g, 1, none⟩ = some (.int .i64 verb) := hB2.cell 1
        have c8 : w2.cell? ⟨g, 8, none⟩ = some (.bool vis) := hB2.cell 8
        have c9 : w2.cell? ⟨g, 9, none⟩ = some (.bool rc) := hB2.cell 9
        have f0 := hB2.frozen 0
        have f1 := hB2.frozen 1)))
    refine bodyPost_ret (v := .tuple #[.agg #[(.func (.func 35) #[] #[])], .int .i64 0]) (by simp [results, Try.results18, go_sem, d02]) rfl ⟨rfl, hB2.far hgn _, (((Fr.refl _ w).alloc _).seq hf2 (by simp)).setB (g := w.heap.size) (by simp) 0 _⟩
  have n2 : (k == 103) = false := beq_eq_false_iff_ne.2 h2
  cases h3 : amongB (arrowF k) sMotions with
  | true =>
    obtain rfl : r = (⟨op, arrowF k, c', reg, char, d', st, vis, rc⟩, 0, 1) := by rw [← hr]; simp [pBegin2, pWhole, pWrong, h1, h2, h3]
    clear hr
    go_enter Try.func18, Try.ntmps18
    go_wp2_with (first
      | (go_at_call 32; go_must (refine (counted_no g L op verb count reg char digits st vis rc k _ (hb.alloc _) hnd).mono ?_; rintro e w1 ⟨rfl, rfl⟩))
      | (go_at_call 33; go_must (
        refine (close_any g L op verb count reg char digits st vis rc _ (hb.alloc _) b0 b1 b2 b3).mono ?_
        rintro e w2 ⟨rfl, hB2, hf2⟩
        rw [HC.out] at hB2
        have hB02 := Blk.fr (Blk.new _ 50 #[.nilFunc]) hf2 (by simp; omega)
        have d02 : w2.cell? ⟨w.heap.size, 0, none⟩ = some .nilFunc := by simpa using hB02.cell 0
        have e02 : w2.frozen? ⟨w.heap.size, 0, none⟩ = false := by simpa using hB02.frozen 0
        have c0 : w2.cell? ⟨g, 0, none⟩ = some (.int .i64 op) := hB2.cell 0
        have c1 : w2.cell? ⟨g, 1, none⟩ = some (.int .i64 verb) := hB2.cell 1
        have c8 : w2.cell? ⟨g, 8, none⟩ = some (.bool vis) := hB2.cell 8
        have c9 : w2.cell? ⟨g, 9, none⟩ = some (.bool rc) := hB2.cell 9
        have f0 := hB2.frozen 0
        have f1 := hB2.frozen 1))
      | (go_at_call 36; go_must (refine (arrow_any k _).mono ?_; rintro e w1 ⟨rfl, rfl⟩))
      | (go_at_call 29; have _t := tok1; clear _t; go_must (refine (among_at (arrowF k) sMotions _ true h3).mono ?_; rintro e w1 ⟨rfl, rfl⟩; clear tok1))
      | (go_at_call 37; go_must (
        refine (whole_any g L op verb c' reg char d' st vis rc _ _ hB2).mono ?_
        rintro e w3 ⟨rfl, hB3, hf3⟩
        have hB03 := Blk.fr hB02 hf3 (by simp; omega)
        have d03 : w3.cell? ⟨w.heap.size, 0, none⟩ = some .nilFunc := by simpa using hB03.cell 0
        have e03 : w3.frozen? ⟨w.heap.size, 0, none⟩ = false := by simpa using hB03.frozen 0)))
    refine bodyPost_ret (v := .tuple #[.agg #[.nilFunc], .int .i64 1]) (by simp [results, Try.results18, go_sem, d03]) rfl ⟨rfl, hB3.far hgn _, ((((Fr.refl _ w).alloc _).seq hf2 (by simp)).trans hf3).setB (g := w.heap.size) (by simp) 0 _⟩
  | false =>
    cases vis with
    | true =>
      obtain rfl : r = pSelected ⟨op, verb, c', reg, char, d', st, true, rc⟩ k := by rw [← hr]; simp [pBegin2, pWhole, pWrong, h1, h2, h3]
      clear hr
      go_enter Try.func18, Try.ntmps18
      go_wp2_with (first
        | (go_at_call 32; go_must (refine (counted_no g L op verb count reg char digits st true rc k _ (hb.alloc _) hnd).mono ?_; rintro e w1 ⟨rfl, rfl⟩))
        | (go_at_call 33; go_must (
          refine (close_any g L op verb count reg char digits st true rc _ (hb.alloc _) b0 b1 b2 b3).mono ?_
          rintro e w2 ⟨rfl, hB2, hf2⟩
          rw [HC.out] at hB2
          have hB02 := Blk.fr (Blk.new _ 50 #[.nilFunc]) hf2 (by simp; omega)
          have d02 : w2.cell? ⟨w.heap.size, 0, none⟩ = some .nilFunc := by simpa using hB02.cell 0
          have e02 : w2.frozen? ⟨w.heap.size, 0, none⟩ = false := by simpa using hB02.frozen 0
          have c0 : w2.cell? ⟨g, 0, none⟩ = some (.int .i64 op) := hB2.cell 0
          have c1 : w2.cell? ⟨g, 1, none⟩ = some (.int .i64 verb) := hB2.cell 1
          have c8 : w2.cell? ⟨g, 8, none⟩ = some (.bool true) := hB2.cell 8
          have c9 : w2.cell? ⟨g, 9, none⟩ = some (.bool rc) := hB2.cell 9
          have f0 := hB2.frozen 0
          have f1 := hB2.frozen 1))
        | (go_at_call 36; go_must (refine (arrow_any k _).mono ?_; rintro e w1 ⟨rfl, rfl⟩))
        | (go_at_call 29; have _t := tok1; clear _t; go_must (refine (among_at (arrowF k) sMotions _ false h3).mono ?_; rintro e w1 ⟨rfl, rfl⟩; clear tok1))
        | (go_at_call 38; go_must (
          refine (selected_any g L op verb c' reg char d' st true rc k _ hB2 _ rfl).mono ?_
          rintro e w3 ⟨rfl, hB3, hf3⟩
          have hB03 := Blk.fr hB02 hf3 (by simp; omega)
          have d03 : w3.cell? ⟨w.heap.size, 0, none⟩ = some .nilFunc := by simpa using hB03.cell 0
          have e03 : w3.frozen? ⟨w.heap.size, 0, none⟩ = false := by simpa using hB03.frozen 0
          have hz : stV (pSelected ⟨op, verb, c', reg, char, d', st, true, rc⟩ k).2.1 = .nilFunc := by unfold pSelected; split <;> rfl
          rw [hz])))
      have hz : stV (pSelected ⟨op, verb, c', reg, char, d', st, true, rc⟩ k).2.1 = .nilFunc := by unfold pSelected; split <;> rfl
      refine bodyPost_ret (v := .tuple #[.agg #[.nilFunc], .int .i64 (pSelected ⟨op, verb, c', reg, char, d', st, true, rc⟩ k).2.2]) (by simp [results, Try.results18, go_sem, d03]) rfl ⟨by rw [hz], hB3.far hgn _, ((((Fr.refl _ w).alloc _).seq hf2 (by simp)).trans hf3).setB (g := w.heap.size) (by simp) 0 _⟩
    | false =>
      cases h4 : amongB k sOps with
      | true =>
        obtain rfl : r = (⟨k, verb, c', reg, char, d', st, false, rc⟩, 39, 0) := by rw [← hr]; simp [pBegin2, pWhole, pWrong, h1, h2, h3, h4]
        clear hr
        go_enter Try.func18, Try.ntmps18
        go_wp2_with (first
          | (go_at_call 32; go_must (refine (counted_no g L op verb count reg char digits st false rc k _ (hb.alloc _) hnd).mono ?_; rintro e w1 ⟨rfl, rfl⟩))
          | (go_at_call 33; go_must (
            refine (close_any g L op verb count reg char digits st false rc _ (hb.alloc _) b0 b1 b2 b3).mono ?_
            rintro e w2 ⟨rfl, hB2, hf2⟩
            rw [HC.out] at hB2
            have hB02 := Blk.fr (Blk.new _ 50 #[.nilFunc]) hf2 (by simp; omega)
            have d02 : w2.cell? ⟨w.heap.size, 0, none⟩ = some .nilFunc := by simpa using hB02.cell 0
            have e02 : w2.frozen? ⟨w.heap.size, 0, none⟩ = false := by simpa using hB02.frozen 0
            have c0 : w2.cell? ⟨g, 0, none⟩ = some (.int .i64 op) := hB2.cell 0
            have c1 : w2.cell? ⟨g, 1, none⟩ = some (.int .i64 verb) := hB2.cell 1
            have c8 : w2.cell? ⟨g, 8, none⟩ = some (.bool false) := hB2.cell 8
            have c9 : w2.cell? ⟨g, 9, none⟩ = some (.bool rc) := hB2.cell 9
            have f0 := hB2.frozen 0
            have f1 := hB2.frozen 1))
          | (go_at_call 36; go_must (refine (arrow_any k _).mono ?_; rintro e w1 ⟨rfl, rfl⟩))
          | (go_at_call 29; have _t := tok1; clear _t; go_must (refine (among_at (arrowF k) sMotions _ false h3).mono ?_; rintro e w1 ⟨rfl, rfl⟩; clear tok1))
          | (go_at_call 29; have _t := tok2; clear _t; go_must (refine (among_at k sOps _ true h4).mono ?_; rintro e w1 ⟨rfl, rfl⟩; clear tok2)))
        refine bodyPost_ret (v := .tuple #[.agg #[(.func (.func 39) #[] #[])], .int .i64 0]) (by simp [results, Try.results18, go_sem, d02]) rfl ⟨rfl, (hB2.set_ 0 _).far hgn _, ((((Fr.refl _ w).alloc _).seq hf2 (by simp)).setB (g := g) (by simp) 0 _).setB (g := w.heap.size) (by simp) 0 _⟩
      | false =>
        by_cases h5 : k = 113
        · subst h5
          cases rc with
          | true =>
            obtain rfl : r = (⟨op, 113, c', reg, char, d', st, false, true⟩, 0, 1) := by rw [← hr]; simp [pBegin2, pWhole, pWrong, h3, h4]
            clear hr
            go_enter Try.func18, Try.ntmps18
            go_wp2_with (first
              | (go_at_call 32; go_must (refine (counted_no g L op verb count reg char digits st false true 113 _ (hb.alloc _) hnd).mono ?_; rintro e w1 ⟨rfl, rfl⟩))
              | (go_at_call 33; go_must (
                refine (close_any g L op verb count reg char digits st false true _ (hb.alloc _) b0 b1 b2 b3).mono ?_
                rintro e w2 ⟨rfl, hB2, hf2⟩
                rw [HC.out] at hB2
                have hB02 := Blk.fr (Blk.new _ 50 #[.nilFunc]) hf2 (by simp; omega)
                have d02 : w2.cell? ⟨w.heap.size, 0, none⟩ = some .nilFunc := by simpa using hB02.cell 0
                have e02 : w2.frozen? ⟨w.heap.size, 0, none⟩ = false := by simpa using hB02.frozen 0
                have c0 : w2.cell? ⟨g, 0, none⟩ = some (.int .i64 op) := hB2.cell 0
                have c1 : w2.cell? ⟨g, 1, none⟩ = some (.int .i64 verb) := hB2.cell 1
                have c8 : w2.cell? ⟨g, 8, none⟩ = some (.bool false) := hB2.cell 8
                have c9 : w2.cell? ⟨g, 9, none⟩ = some (.bool true) := hB2.cell 9
                have f0 := hB2.frozen 0
                have f1 := hB2.frozen 1))
              | (go_at_call 36; go_must (refine (arrow_any 113 _).mono ?_; rintro e w1 ⟨rfl, rfl⟩))
              | (go_at_call 29; have _t := tok1; clear _t; go_must (refine (among_at (arrowF 113) sMotions _ false h3).mono ?_; rintro e w1 ⟨rfl, rfl⟩; clear tok1))
              | (go_at_call 29; have _t := tok2; clear _t; go_must (refine (among_at 113 sOps _ false h4).mono ?_; rintro e w1 ⟨rfl, rfl⟩; clear tok2))
              | (go_at_call 37; go_must (
                refine (whole_any g L op verb c' reg char d' st false true _ _ hB2).mono ?_
                rintro e w3 ⟨rfl, hB3, hf3⟩
                have hB03 := Blk.fr hB02 hf3 (by simp; omega)
                have d03 : w3.cell? ⟨w.heap.size, 0, none⟩ = some .nilFunc := by simpa using hB03.cell 0
                have e03 : w3.frozen? ⟨w.heap.size, 0, none⟩ = false := by simpa using hB03.frozen 0)))
            refine bodyPost_ret (v := .tuple #[.agg #[.nilFunc], .int .i64 1]) (by simp [results, Try.results18, go_sem, d03]) rfl ⟨rfl, hB3.far hgn _, ((((Fr.refl _ w).alloc _).seq hf2 (by simp)).trans hf3).setB (g := w.heap.size) (by simp) 0 _⟩
          | false =>
            obtain rfl : r = (⟨op, 113, c', reg, char, d', st, false, false⟩, 40, 0) := by rw [← hr]; simp [pBegin2, pWhole, pWrong, h3, h4]
            clear hr
            go_enter Try.func18, Try.ntmps18
            go_wp2_with (first
              | (go_at_call 32; go_must (refine (counted_no g L op verb count reg char digits st false false 113 _ (hb.alloc _) hnd).mono ?_; rintro e w1 ⟨rfl, rfl⟩))
              | (go_at_call 33; go_must (
                refine (close_any g L op verb count reg char digits st false false _ (hb.alloc _) b0 b1 b2 b3).mono ?_
                rintro e w2 ⟨rfl, hB2, hf2⟩
                rw [HC.out] at hB2
                have hB02 := Blk.fr (Blk.new _ 50 #[.nilFunc]) hf2 (by simp; omega)
                have d02 : w2.cell? ⟨w.heap.size, 0, none⟩ = some .nilFunc := by simpa using hB02.cell 0
                have e02 : w2.frozen? ⟨w.heap.size, 0, none⟩ = false := by simpa using hB02.frozen 0
                have c0 : w2.cell? ⟨g, 0, none⟩ = some (.int .i64 op) := hB2.cell 0
                have c1 : w2.cell? ⟨g, 1, none⟩ = some (.int .i64 verb) := hB2.cell 1
                have c8 : w2.cell? ⟨g, 8, none⟩ = some (.bool false) := hB2.cell 8
                have c9 : w2.cell? ⟨g, 9, none⟩ = some (.bool false) := hB2.cell 9
                have f0 := hB2.frozen 0
                have f1 := hB2.frozen 1))
              | (go_at_call 36; go_must (refine (arrow_any 113 _).mono ?_; rintro e w1 ⟨rfl, rfl⟩))
              | (go_at_call 29; have _t := tok1; clear _t; go_must (refine (among_at (arrowF 113) sMotions _ false h3).mono ?_; rintro e w1 ⟨rfl, rfl⟩; clear tok1))
              | (go_at_call 29; have _t := tok2; clear _t; go_must (refine (among_at 113 sOps _ false h4).mono ?_; rintro e w1 ⟨rfl, rfl⟩; clear tok2)))
            refine bodyPost_ret (v := .tuple #[.agg #[(.func (.func 40) #[] #[])], .int .i64 0]) (by simp [results, Try.results18, go_sem, d02]) rfl ⟨rfl, (hB2.set_ 1 _).far hgn _, ((((Fr.refl _ w).alloc _).seq hf2 (by simp)).setB (g := g) (by simp) 1 _).setB (g := w.heap.size) (by simp) 0 _⟩
        · have n5 : (k == 113) = false := beq_eq_false_iff_ne.2 h5
          by_cases h6 : k = 64
          · subst h6
            obtain rfl : r = (⟨op, 64, c', reg, char, d', st, false, rc⟩, 40, 0) := by rw [← hr]; simp [pBegin2, pWhole, pWrong, h3, h4]
            clear hr
            go_enter Try.func18, Try.ntmps18
            go_wp2_with (first
              | (go_at_call 32; go_must (refine (counted_no g L op verb count reg char digits st false rc 64 _ (hb.alloc _) hnd).mono ?_; rintro e w1 ⟨rfl, rfl⟩))
              | (go_at_call 33; go_must (
                refine (close_any g L op verb count reg char digits st false rc _ (hb.alloc _) b0 b1 b2 b3).mono ?_
                rintro e w2 ⟨rfl, hB2, hf2⟩
                rw [HC.out] at hB2
                have hB02 := Blk.fr (Blk.new _ 50 #[.nilFunc]) hf2 (by simp; omega)
                have d02 : w2.cell? ⟨w.heap.size, 0, none⟩ = some .nilFunc := by simpa using hB02.cell 0
                have e02 : w2.frozen? ⟨w.heap.size, 0, none⟩ = false := by simpa using hB02.frozen 0
                have c0 : w2.cell? ⟨g, 0, none⟩ = some (.int .i64 op) := hB2.cell 0
                have c1 : w2.cell? ⟨g, 1, none⟩ = some (.int .i64 verb) := hB2.cell 1
                have c8 : w2.cell? ⟨g, 8, none⟩ = some (.bool false) := hB2.cell 8
                have c9 : w2.cell? ⟨g, 9, none⟩ = some (.bool rc) := hB2.cell 9
                have f0 := hB2.frozen 0
                have f1 := hB2.frozen 1))
              | (go_at_call 36; go_must (refine (arrow_any 64 _).mono ?_; rintro e w1 ⟨rfl, rfl⟩))
              | (go_at_call 29; have _t := tok1; clear _t; go_must (refine (among_at (arrowF 64) sMotions _ false h3).mono ?_; rintro e w1 ⟨rfl, rfl⟩; clear tok1))
              | (go_at_call 29; have _t := tok2; clear _t; go_must (refine (among_at 64 sOps _ false h4).mono ?_; rintro e w1 ⟨rfl, rfl⟩; clear tok2)))
            refine bodyPost_ret (v := .tuple #[.agg #[(.func (.func 40) #[] #[])], .int .i64 0]) (by simp [results, Try.results18, go_sem, d02]) rfl ⟨rfl, (hB2.set_ 1 _).far hgn _, ((((Fr.refl _ w).alloc _).seq hf2 (by simp)).setB (g := g) (by simp) 1 _).setB (g := w.heap.size) (by simp) 0 _⟩
          · have n6 : (k == 64) = false := beq_eq_false_iff_ne.2 h6
            cases h7 : amongB k sPlain with
            | true =>
              obtain rfl : r = (⟨op, k, c', reg, char, d', st, false, rc⟩, 0, 1) := by rw [← hr]; simp [pBegin2, pWhole, pWrong, h1, h2, h3, h4, h5, h6, h7]
              clear hr
              go_enter Try.func18, Try.ntmps18
              go_wp2_with (first
                | (go_at_call 32; go_must (refine (counted_no g L op verb count reg char digits st false rc k _ (hb.alloc _) hnd).mono ?_; rintro e w1 ⟨rfl, rfl⟩))
                | (go_at_call 33; go_must (
                  refine (close_any g L op verb count reg char digits st false rc _ (hb.alloc _) b0 b1 b2 b3).mono ?_
                  rintro e w2 ⟨rfl, hB2, hf2⟩
                  rw [HC.out] at hB2
                  have hB02 := Blk.fr (Blk.new _ 50 #[.nilFunc]) hf2 (by simp; omega)
                  have d02 : w2.cell? ⟨w.heap.size, 0, none⟩ = some .nilFunc := by simpa using hB02.cell 0
                  have e02 : w2.frozen? ⟨w.heap.size, 0, none⟩ = false := by simpa using hB02.frozen 0
                  have c0 : w2.cell? ⟨g, 0, none⟩ = some (.int .i64 op) := hB2.cell 0
                  have c1 : w2.cell? ⟨g, 1, none⟩ = some (.int .i64 verb) := hB2.cell 1
                  have c8 : w2.cell? ⟨g, 8, none⟩ = some (.bool false) := hB2.cell 8
                  have c9 : w2.cell? ⟨g, 9, none⟩ = some (.bool rc) := hB2.cell 9
                  have f0 := hB2.frozen 0
                  have f1 := hB2.frozen 1))
                | (go_at_call 36; go_must (refine (arrow_any k _).mono ?_; rintro e w1 ⟨rfl, rfl⟩))
                | (go_at_call 29; have _t := tok1; clear _t; go_must (refine (among_at (arrowF k) sMotions _ false h3).mono ?_; rintro e w1 ⟨rfl, rfl⟩; clear tok1))
                | (go_at_call 29; have _t := tok2; clear _t; go_must (refine (among_at k sOps _ false h4).mono ?_; rintro e w1 ⟨rfl, rfl⟩; clear tok2))
                | (go_at_call 29; have _t := tok3; clear _t; go_must (refine (among_at k sPlain _ true h7).mono ?_; rintro e w1 ⟨rfl, rfl⟩; clear tok3))
                | (go_at_call 37; go_must (
                  refine (whole_any g L op verb c' reg char d' st false rc _ _ hB2).mono ?_
                  rintro e w3 ⟨rfl, hB3, hf3⟩
                  have hB03 := Blk.fr hB02 hf3 (by simp; omega)
                  have d03 : w3.cell? ⟨w.heap.size, 0, none⟩ = some .nilFunc := by simpa using hB03.cell 0
                  have e03 : w3.frozen? ⟨w.heap.size, 0, none⟩ = false := by simpa using hB03.frozen 0)))
              refine bodyPost_ret (v := .tuple #[.agg #[.nilFunc], .int .i64 1]) (by simp [results, Try.results18, go_sem, d03]) rfl ⟨rfl, hB3.far hgn _, ((((Fr.refl _ w).alloc _).seq hf2 (by simp)).trans hf3).setB (g := w.heap.size) (by simp) 0 _⟩
            | false =>
              cases h8 : ctrlB k sCtrl with
              | true =>
                obtain rfl : r = (⟨op, k, c', reg, char, d', st, false, rc⟩, 0, 1) := by rw [← hr]; simp [pBegin2, pWhole, pWrong, h1, h2, h3, h4, h5, h6, h7, h8]
                clear hr
                go_enter Try.func18, Try.ntmps18
                go_wp2_with (first
                  | (go_at_call 32; go_must (refine (counted_no g L op verb count reg char digits st false rc k _ (hb.alloc _) hnd).mono ?_; rintro e w1 ⟨rfl, rfl⟩))
                  | (go_at_call 33; go_must (
                    refine (close_any g L op verb count reg char digits st false rc _ (hb.alloc _) b0 b1 b2 b3).mono ?_
                    rintro e w2 ⟨rfl, hB2, hf2⟩
                    rw [HC.out] at hB2
                    have hB02 := Blk.fr (Blk.new _ 50 #[.nilFunc]) hf2 (by simp; omega)
                    have d02 : w2.cell? ⟨w.heap.size, 0, none⟩ = some .nilFunc := by simpa using hB02.cell 0
                    have e02 : w2.frozen? ⟨w.heap.size, 0, none⟩ = false := by simpa using hB02.frozen 0
                    have c0 : w2.cell? ⟨g, 0, none⟩ = some (.int .i64 op) := hB2.cell 0
                    have c1 : w2.cell? ⟨g, 1, none⟩ = some (.int .i64 verb) := hB2.cell 1
                    have c8 : w2.cell? ⟨g, 8, none⟩ = some (.bool false) := hB2.cell 8
                    have c9 : w2.cell? ⟨g, 9, none⟩ = some (.bool rc) := hB2.cell 9
                    have f0 := hB2.frozen 0
                    have f1 := hB2.frozen 1))
                  | (go_at_call 36; go_must (refine (arrow_any k _).mono ?_; rintro e w1 ⟨rfl, rfl⟩))
                  | (go_at_call 29; have _t := tok1; clear _t; go_must (refine (among_at (arrowF k) sMotions _ false h3).mono ?_; rintro e w1 ⟨rfl, rfl⟩; clear tok1))
                  | (go_at_call 29; have _t := tok2; clear _t; go_must (refine (among_at k sOps _ false h4).mono ?_; rintro e w1 ⟨rfl, rfl⟩; clear tok2))
                  | (go_at_call 29; have _t := tok3; clear _t; go_must (refine (among_at k sPlain _ false h7).mono ?_; rintro e w1 ⟨rfl, rfl⟩; clear tok3))
                  | (go_at_call 41; refine (ctrl_at _ sCtrl _ true h8).mono ?_; rintro e w1 ⟨rfl, rfl⟩)
                  | (go_at_call 37; go_must (
                    refine (whole_any g L op verb c' reg char d' st false rc _ _ hB2).mono ?_
                    rintro e w3 ⟨rfl, hB3, hf3⟩
                    have hB03 := Blk.fr hB02 hf3 (by simp; omega)
                    have d03 : w3.cell? ⟨w.heap.size, 0, none⟩ = some .nilFunc := by simpa using hB03.cell 0
                    have e03 : w3.frozen? ⟨w.heap.size, 0, none⟩ = false := by simpa using hB03.frozen 0)))
                refine bodyPost_ret (v := .tuple #[.agg #[.nilFunc], .int .i64 1]) (by simp [results, Try.results18, go_sem, d03]) rfl ⟨rfl, hB3.far hgn _, ((((Fr.refl _ w).alloc _).seq hf2 (by simp)).trans hf3).setB (g := w.heap.size) (by simp) 0 _⟩
              | false =>
                obtain rfl : r = (⟨op, verb, c', reg, char, d', st, false, rc⟩, 0, 2) := by rw [← hr]; simp [pBegin2, pWhole, pWrong, h1, h2, h3, h4, h5, h6, h7, h8]
                clear hr
                go_enter Try.func18, Try.ntmps18
                go_wp2_with (first
                  | (go_at_call 32; go_must (refine (counted_no g L op verb count reg char digits st false rc k _ (hb.alloc _) hnd).mono ?_; rintro e w1 ⟨rfl, rfl⟩))
                  | (go_at_call 33; go_must (
                    refine (close_any g L op verb count reg char digits st false rc _ (hb.alloc _) b0 b1 b2 b3).mono ?_
                    rintro e w2 ⟨rfl, hB2, hf2⟩
                    rw [HC.out] at hB2
                    have hB02 := Blk.fr (Blk.new _ 50 #[.nilFunc]) hf2 (by simp; omega)
                    have d02 : w2.cell? ⟨w.heap.size, 0, none⟩ = some .nilFunc := by simpa using hB02.cell 0
                    have e02 : w2.frozen? ⟨w.heap.size, 0, none⟩ = false := by simpa using hB02.frozen 0
                    have c0 : w2.cell? ⟨g, 0, none⟩ = some (.int .i64 op) := hB2.cell 0
                    have c1 : w2.cell? ⟨g, 1, none⟩ = some (.int .i64 verb) := hB2.cell 1
                    have c8 : w2.cell? ⟨g, 8, none⟩ = some (.bool false) := hB2.cell 8
                    have c9 : w2.cell? ⟨g, 9, none⟩ = some (.bool rc) := hB2.cell 9
                    have f0 := hB2.frozen 0
                    have f1 := hB2.frozen 1))
                  | (go_at_call 36; go_must (refine (arrow_any k _).mono ?_; rintro e w1 ⟨rfl, rfl⟩))
                  | (go_at_call 29; have _t := tok1; clear _t; go_must (refine (among_at (arrowF k) sMotions _ false h3).mono ?_; rintro e w1 ⟨rfl, rfl⟩; clear tok1))
                  | (go_at_call 29; have _t := tok2; clear _t; go_must (refine (among_at k sOps _ false h4).mono ?_; rintro e w1 ⟨rfl, rfl⟩; clear tok2))
                  | (go_at_call 29; have _t := tok3; clear _t; go_must (refine (among_at k sPlain _ false h7).mono ?_; rintro e w1 ⟨rfl, rfl⟩; clear tok3))
                  | (go_at_call 41; refine (ctrl_at _ sCtrl _ false h8).mono ?_; rintro e w1 ⟨rfl, rfl⟩))
                refine bodyPost_ret (v := .tuple #[.agg #[.nilFunc], .int .i64 2]) (by simp [results, Try.results18, go_sem, d02]) rfl ⟨rfl, hB2.far hgn _, (((Fr.refl _ w).alloc _).seq hf2 (by simp)).setB (g := w.heap.size) (by simp) 0 _⟩

set_option maxHeartbeats 800000 in
theorem operated2_any (g : Nat) (L : Value) (op verb count reg char digits : Int) (st : Nat) (vis rc : Bool) (k : Int) (w : World) (hb : Blk w g 52 (pc ⟨op, verb, count, reg, char, digits, st, vis, rc⟩ L)) (b0 : 0 ≤ digits) (b1 : digits ≤ 9999) (b2 : 0 ≤ count) (b3 : count ≤ 9999)
    (hnd : isDigit ⟨op, verb, count, reg, char, digits, st, vis, rc⟩ k = false) (c' d' : Int) (hcl : PS.close ⟨op, verb, count, reg, char, digits, st, vis, rc⟩ = ⟨op, verb, c', reg, char, d', st, vis, rc⟩) (r : R3) (hr : pOperated2 ⟨op, verb, c', reg, char, d', st, vis, rc⟩ k = r) :
    Calls Try.prog 39 #[.pointer (some ⟨g, 0, none⟩), .int .i64 k] w fun e w' => e = .returned (.tuple #[.agg #[stV r.2.1], .int .i64 r.2.2]) ∧ Blk w' g 52 (pc r.1 L) ∧ Fr [some g] w w' := by
  have hg := hb.lt
  have hgn : g ≠ w.heap.size := by omega
  have HC := Lib.hid hcl
  have tok1 : True := trivial
  have tok2 : True := trivial
  have tok3 : True := trivial
  clear hcl
  by_cases h1 : k = op
  · subst h1
    obtain rfl : r = (⟨k, arrowF k, c', reg, char, d', st, vis, rc⟩, 0, 1) := by rw [← hr]; simp [pOperated2, pWhole, pWrong]
    clear hr
    go_enter Try.func39, Try.ntmps39
    go_wp2_with (first
      | (go_at_call 32; go_must (refine (counted_no g L k verb count reg char digits st vis rc k _ (hb.alloc _) hnd).mono ?_; rintro e w1 ⟨rfl, rfl⟩))
      | (go_at_call 33; go_must (
        refine (close_any g L k verb count reg char digits st vis rc _ (hb.alloc _) b0 b1 b2 b3).mono ?_
        rintro e w2 ⟨rfl, hB2, hf2⟩
        rw [HC.out] at hB2
        have hB02 := Blk.fr (Blk.new _ 50 #[.nilFunc]) hf2 (by simp; omega)
        have d02 : w2.cell? ⟨w.heap.size, 0, none⟩ = some .nilFunc := by simpa using hB02.cell 0
        have e02 : w2.frozen? ⟨w.heap.size, 0, none⟩ = false := by simpa using hB02.frozen 0
        have c0 : w2.cell? ⟨g, 0, none⟩ = some (.int .i64 k) := hB2.cell 0
        have c1 : w2.cell? ⟨g, 1, none⟩ = some (.int .i64 verb) := hB2.cell 1
        have c8 : w2.cell? ⟨g, 8, none⟩ = some (.bool vis) := hB2.cell 8
        have c9 : w2.cell? ⟨g, 9, none⟩ = some (.bool rc) := hB2.cell 9
        have f0 := hB2.frozen 0
        have f1 := hB2.frozen 1))
      | (go_at_call 36; go_must (refine (arrow_any k _).mono ?_; rintro e w1 ⟨rfl, rfl⟩))
      | (go_at_call 37; go_must (
        refine (whole_any g L k verb c' reg char d' st vis rc _ _ hB2).mono ?_
        rintro e w3 ⟨rfl, hB3, hf3⟩
        have hB03 := Blk.fr hB02 hf3 (by simp; omega)
        have d03 : w3.cell? ⟨w.heap.size, 0, none⟩ = some .nilFunc := by simpa using hB03.cell 0
        have e03 : w3.frozen? ⟨w.heap.size, 0, none⟩ = false := by simpa using hB03.frozen 0)))
    refine bodyPost_ret (v := .tuple #[.agg #[.nilFunc], .int .i64 1]) (by simp [results, Try.results39, go_sem, d03]) rfl ⟨rfl, hB3.far hgn _, ((((Fr.refl _ w).alloc _).seq hf2 (by simp)).trans hf3).setB (g := w.heap.size) (by simp) 0 _⟩
  have n1 : (k == op) = false := beq_eq_false_iff_ne.2 h1
  cases h3 : amongB (arrowF k) sMotions with
  | true =>
    obtain rfl : r = (⟨op, arrowF k, c', reg, char, d', st, vis, rc⟩, 0, 1) := by rw [← hr]; simp [pOperated2, pWhole, pWrong, h1, h3]
    clear hr
    go_enter Try.func39, Try.ntmps39
    go_wp2_with (first
      | (go_at_call 32; go_must (refine (counted_no g L op verb count reg char digits st vis rc k _ (hb.alloc _) hnd).mono ?_; rintro e w1 ⟨rfl, rfl⟩))
      | (go_at_call 33; go_must (
        refine (close_any g L op verb count reg char digits st vis rc _ (hb.alloc _) b0 b1 b2 b3).mono ?_
        rintro e w2 ⟨rfl, hB2, hf2⟩
        rw [HC.out] at hB2
        have hB02 := Blk.fr (Blk.new _ 50 #[.nilFunc]) hf2 (by simp; omega)
        have d02 : w2.cell? ⟨w.heap.size, 0, none⟩ = some .nilFunc := by simpa using hB02.cell 0
        have e02 : w2.frozen? ⟨w.heap.size, 0, none⟩ = false := by simpa using hB02.frozen 0
        have c0 : w2.cell? ⟨g, 0, none⟩ = some (.int .i64 op) := hB2.cell 0
        have c1 : w2.cell? ⟨g, 1, none⟩ = some (.int .i64 verb) := hB2.cell 1
        have c8 : w2.cell? ⟨g, 8, none⟩ = some (.bool vis) := hB2.cell 8
        have c9 : w2.cell? ⟨g, 9, none⟩ = some (.bool rc) := hB2.cell 9
        have f0 := hB2.frozen 0
        have f1 := hB2.frozen 1))
      | (go_at_call 36; go_must (refine (arrow_any k _).mono ?_; rintro e w1 ⟨rfl, rfl⟩))
      | (go_at_call 29; have _t := tok1; clear _t; go_must (refine (among_at (arrowF k) sMotions _ true h3).mono ?_; rintro e w1 ⟨rfl, rfl⟩; clear tok1))
      | (go_at_call 37; go_must (
        refine (whole_any g L op verb c' reg char d' st vis rc _ _ hB2).mono ?_
        rintro e w3 ⟨rfl, hB3, hf3⟩
        have hB03 := Blk.fr hB02 hf3 (by simp; omega)
        have d03 : w3.cell? ⟨w.heap.size, 0, none⟩ = some .nilFunc := by simpa using hB03.cell 0
        have e03 : w3.frozen? ⟨w.heap.size, 0, none⟩ = false := by simpa using hB03.frozen 0)))
    refine bodyPost_ret (v := .tuple #[.agg #[.nilFunc], .int .i64 1]) (by simp [results, Try.results39, go_sem, d03]) rfl ⟨rfl, hB3.far hgn _, ((((Fr.refl _ w).alloc _).seq hf2 (by simp)).trans hf3).setB (g := w.heap.size) (by simp) 0 _⟩
  | false =>
    by_cases h5 : k = 105
    · subst h5
      obtain rfl : r = (⟨op, verb, c', reg, char, d', st, vis, rc⟩, 48, 0) := by rw [← hr]; simp [pOperated2, pWhole, pWrong, h1, h3]
      clear hr
      go_enter Try.func39, Try.ntmps39
      go_wp2_with (first
        | (go_at_call 32; go_must (refine (counted_no g L op verb count reg char digits st vis rc 105 _ (hb.alloc _) hnd).mono ?_; rintro e w1 ⟨rfl, rfl⟩))
        | (go_at_call 33; go_must (
          refine (close_any g L op verb count reg char digits st vis rc _ (hb.alloc _) b0 b1 b2 b3).mono ?_
          rintro e w2 ⟨rfl, hB2, hf2⟩
          rw [HC.out] at hB2
          have hB02 := Blk.fr (Blk.new _ 50 #[.nilFunc]) hf2 (by simp; omega)
          have d02 : w2.cell? ⟨w.heap.size, 0, none⟩ = some .nilFunc := by simpa using hB02.cell 0
          have e02 : w2.frozen? ⟨w.heap.size, 0, none⟩ = false := by simpa using hB02.frozen 0
          have c0 : w2.cell? ⟨g, 0, none⟩ = some (.int .i64 op) := hB2.cell 0
          have c1 : w2.cell? ⟨g, 1, none⟩ = some (.int .i64 verb) := hB2.cell 1
          have c8 : w2.cell? ⟨g, 8, none⟩ = some (.bool vis) := hB2.cell 8
          have c9 : w2.cell? ⟨g, 9, none⟩ = some (.bool rc) := hB2.cell 9
          have f0 := hB2.frozen 0
          have f1 := hB2.frozen 1))
        | (go_at_call 36; go_must (refine (arrow_any 105 _).mono ?_; rintro e w1 ⟨rfl, rfl⟩))
        | (go_at_call 29; have _t := tok1; clear _t; go_must (refine (among_at (arrowF 105) sMotions _ false h3).mono ?_; rintro e w1 ⟨rfl, rfl⟩; clear tok1)))
      refine bodyPost_ret (v := .tuple #[.agg #[(.func (.func 48) #[] #[])], .int .i64 0]) (by simp [results, Try.results39, go_sem, d02]) rfl ⟨rfl, hB2.far hgn _, (((Fr.refl _ w).alloc _).seq hf2 (by simp)).setB (g := w.heap.size) (by simp) 0 _⟩
    have n5 : (k == 105) = false := beq_eq_false_iff_ne.2 h5
    by_cases h6 : k = 103
    · subst h6
      obtain rfl : r = (⟨op, verb, c', reg, char, d', st, vis, rc⟩, 35, 0) := by rw [← hr]; simp [pOperated2, pWhole, pWrong, h1, h3]
      clear hr
      go_enter Try.func39, Try.ntmps39
      go_wp2_with (first
        | (go_at_call 32; go_must (refine (counted_no g L op verb count reg char digits st vis rc 103 _ (hb.alloc _) hnd).mono ?_; rintro e w1 ⟨rfl, rfl⟩))
        | (go_at_call 33; go_must (
          refine (close_any g L op verb count reg char digits st vis rc _ (hb.alloc _) b0 b1 b2 b3).mono ?_
          rintro e w2 ⟨rfl, hB2, hf2⟩
          rw [HC.out] at hB2
          have hB02 := Blk.fr (Blk.new _ 50 #[.nilFunc]) hf2 (by simp; omega)
          have d02 : w2.cell? ⟨w.heap.size, 0, none⟩ = some .nilFunc := by simpa using hB02.cell 0
          have e02 : w2.frozen? ⟨w.heap.size, 0, none⟩ = false := by simpa using hB02.frozen 0
          have c0 : w2.cell? ⟨g, 0, none⟩ = some (.int .i64 op) := hB2.cell 0
          have c1 : w2.cell? ⟨g, 1, none⟩ = some (.int .i64 verb) := hB2.cell 1
          have c8 : w2.cell? ⟨g, 8, none⟩ = some (.bool vis) := hB2.cell 8
          have c9 : w2.cell? ⟨g, 9, none⟩ = some (.bool rc) := hB2.cell 9
          have f0 := hB2.frozen 0
          have f1 := hB2.frozen 1))
        | (go_at_call 36; go_must (refine (arrow_any 103 _).mono ?_; rintro e w1 ⟨rfl, rfl⟩))
        | (go_at_call 29; have _t := tok1; clear _t; go_must (refine (among_at (arrowF 103) sMotions _ false h3).mono ?_; rintro e w1 ⟨rfl, rfl⟩; clear tok1)))
      refine bodyPost_ret (v := .tuple #[.agg #[(.func (.func 35) #[] #[])], .int .i64 0]) (by simp [results, Try.results39, go_sem, d02]) rfl ⟨rfl, hB2.far hgn _, (((Fr.refl _ w).alloc _).seq hf2 (by simp)).setB (g := w.heap.size) (by simp) 0 _⟩
    have n6 : (k == 103) = false := beq_eq_false_iff_ne.2 h6
    obtain rfl : r = (⟨op, verb, c', reg, char, d', st, vis, rc⟩, 0, 2) := by rw [← hr]; simp [pOperated2, pWhole, pWrong, h1, h3, h5, h6]
    clear hr
    go_enter Try.func39, Try.ntmps39
    go_wp2_with (first
      | (go_at_call 32; go_must (refine (counted_no g L op verb count reg char digits st vis rc k _ (hb.alloc _) hnd).mono ?_; rintro e w1 ⟨rfl, rfl⟩))
      | (go_at_call 33; go_must (
        refine (close_any g L op verb count reg char digits st vis rc _ (hb.alloc _) b0 b1 b2 b3).mono ?_
        rintro e w2 ⟨rfl, hB2, hf2⟩
        rw [HC.out] at hB2
        have hB02 := Blk.fr (Blk.new _ 50 #[.nilFunc]) hf2 (by simp; omega)
        have d02 : w2.cell? ⟨w.heap.size, 0, none⟩ = some .nilFunc := by simpa using hB02.cell 0
        have e02 : w2.frozen? ⟨w.heap.size, 0, none⟩ = false := by simpa using hB02.frozen 0
        have c0 : w2.cell? ⟨g, 0, none⟩ = some (.int .i64 op) := hB2.cell 0
        have c1 : w2.cell? ⟨g, 1, none⟩ = some (.int .i64 verb) := hB2.cell 1
        have c8 : w2.cell? ⟨g, 8, none⟩ = some (.bool vis) := hB2.cell 8
        have c9 : w2.cell? ⟨g, 9, none⟩ = some (.bool rc) := hB2.cell 9
        have f0 := hB2.frozen 0
        have f1 := hB2.frozen 1))
      | (go_at_call 36; go_must (refine (arrow_any k _).mono ?_; rintro e w1 ⟨rfl, rfl⟩))
      | (go_at_call 29; have _t := tok1; clear _t; go_must (refine (among_at (arrowF k) sMotions _ false h3).mono ?_; rintro e w1 ⟨rfl, rfl⟩; clear tok1)))
    refine bodyPost_ret (v := .tuple #[.agg #[.nilFunc], .int .i64 2]) (by simp [results, Try.results39, go_sem, d02]) rfl ⟨rfl, hB2.far hgn _, (((Fr.refl _ w).alloc _).seq hf2 (by simp)).setB (g := w.heap.size) (by simp) 0 _⟩

end Go.Proofs.Ythhkannmeljfkaa
