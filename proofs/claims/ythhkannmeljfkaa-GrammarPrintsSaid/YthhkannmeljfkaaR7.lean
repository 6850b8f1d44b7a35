import Derived.Test.YthhkannmeljfkaaR6
namespace Go.Proofs.Ythhkannmeljfkaa
open Go.RowKit Go.Proofs.Dm

def sG : ByteArray := ⟨#[103]⟩
def sGo : ByteArray := ⟨#[103, 45, 43, 105, 97, 100, 104, 108, 106, 107]⟩
theorem sec_vis (cnt reg : Int) (rc : Bool) (rest : List Int) : pRun ⟨0, 0, cnt, reg, 0, 0, 35, true, rc⟩ rest = secT 0 0 cnt reg 0 103 sG rest := by
  cases rest with
  | nil => rfl
  | cons k rest =>
    rw [pRun_cons]
    have hp : pStep ⟨0, 0, cnt, reg, 0, 0, 35, true, rc⟩ k = pSecond ⟨0, 0, cnt, reg, 0, 0, 35, true, rc⟩ k := by simp [pStep]
    rw [hp]
    by_cases hk : k = 103
    · subst hk
      simp only [pSecond, if_true, pGo_whole]
      rfl
    · have h1 : inB k sG = false := by simp [inB, inFrom, sG]; exact hk
      simp [pSecond, hk, pGo_wrong, secT, h1]
theorem sec_nor (cnt reg : Int) (rc : Bool) (rest : List Int) : pRun ⟨0, 0, cnt, reg, 0, 0, 35, false, rc⟩ rest = secT 0 0 cnt reg 0 103 sGo rest := by
  cases rest with
  | nil => rfl
  | cons k rest =>
    rw [pRun_cons]
    have hp : pStep ⟨0, 0, cnt, reg, 0, 0, 35, false, rc⟩ k = pSecond ⟨0, 0, cnt, reg, 0, 0, 35, false, rc⟩ k := by simp [pStep]
    rw [hp]
    have hio : inB k sGo = (k == 103 || inB k sOthers) := rfl
    by_cases hk : k = 103
    · subst hk
      simp only [pSecond, if_true, pGo_whole]
      rfl
    · have hk' : (k == 103) = false := beq_eq_false_iff_ne.2 hk
      rw [hk', Bool.false_or] at hio
      cases h : inB k sOthers with
      | true =>
        rw [h] at hio
        simp [pSecond, hk, among_in k sOthers (by simp), h, pGo_whole, secT, hio]
      | false =>
        rw [h] at hio
        simp [pSecond, hk, among_in k sOthers (by simp), h, pGo_wrong, secT, hio]

/-- What a reading answers. -/
def ReadAns (e : Ending) (A : Option Addr) (c : Nat) (l : List Int) (t : List Value × Int × Int) : Prop :=
  ∃ R : RD, e = .returned (.agg #[.slice A l.length c, .int .i64 R.pos, .int .i64 R.op, .int .i64 R.verb, .int .i64 R.count, .int .i64 R.reg, .int .i64 R.char, .int .i64 R.what, .int .i64 R.err]) ∧ Told R t
def rd0 : Array Value := #[.slice none 0 0, .int .i64 0, .int .i64 0, .int .i64 0, .int .i64 0, .int .i64 0, .int .i64 0, .int .i64 0, .int .i64 0]

set_option maxRecDepth 100000 in
set_option maxHeartbeats 3200000 in
theorem read_at (w : World) (A : Option Addr) (c : Nat) (l : List Int) (vis rc : Bool) (hl : l.length < 60000) (hs : Sl w A (ints l)) (hA : ∀ j, bk A = some j → j < w.heap.size) :
    Calls Try.prog 9 #[.slice A l.length c, .bool vis, .bool rc] w fun e w' => Fr [] w w' ∧ ReadAns e A c l (pRun ⟨0, 0, 0, 0, 0, 0, 18, vis, rc⟩ l) := by
  generalize hT : pRun ⟨0, 0, 0, 0, 0, 0, 18, vis, rc⟩ l = T
  obtain ⟨W1, hW1⟩ : ∃ W1, W1 = (w.alloc (.cells rd0 32)).alloc (.cells (rd (.slice A l.length c) ⟨0, 0, 0, 0, 0, 0, 0, 0⟩) 32) := ⟨_, rfl⟩
  have hf1 : Fr [] w W1 := by rw [hW1]; exact ((Fr.refl [] w).alloc _).alloc _
  have hC : Blk W1 w.heap.size 32 rd0 := by rw [hW1]; exact (Blk.new w 32 rd0).alloc _
  have hR : RAt W1 (w.heap.size + 1) A c l ⟨0, 0, 0, 0, 0, 0, 0, 0⟩ := by
    refine ⟨?_, hs.fr hf1 (.inr List.not_mem_nil), fun h => ?_⟩
    · rw [hW1]
      have := Blk.new (w.alloc (.cells rd0 32)) 32 (rd (.slice A l.length c) ⟨0, 0, 0, 0, 0, 0, 0, 0⟩)
      simpa using this
    · have := hA _ h; omega
  subst hW1
  have hfrg : ∀ {w2 w3 : World}, w.heap.size ≤ w2.heap.size → Fr [] w w2 → Fr [some (w.heap.size + 1)] w2 w3 → Fr [] w w3 := fun _ h1 h2 => h1.seq h2 (by intro x hx; simp at hx; subst hx; exact .inr (.inr ⟨_, Nat.le_succ _, rfl⟩))
  go_enter Try.func9, Try.ntmps9
  go_wp2_with fail
  refine (prefix_at _ (w.heap.size + 1) A c l vis rc hl hR).mono ?_
  rintro e w2 ⟨hf2', hans⟩
  have hf2 := hfrg hf1.size hf1 hf2'
  have hC2 := hC.fr hf2' (by simp)
  rw [hT] at hans
  clear hf1 hf2' hC hR hT
  rcases hans with ⟨rfl, h5⟩ | ⟨j, cnt, reg, k, rfl, hR, hj, h0, h9, h34, hgo⟩
  · obtain ⟨⟨pos, op5, verb5, cnt5, reg5, char5, what5, err5⟩, ⟨hb5, hs5, hA5⟩, ht5⟩ := h5
    have m0 : w2.cell? ⟨w.heap.size + 1, 0, none⟩ = some (.slice A l.length c) := hb5.cell 0
    have m1 : w2.cell? ⟨w.heap.size + 1, 1, none⟩ = some (.int .i64 pos) := hb5.cell 1
    have m2 : w2.cell? ⟨w.heap.size + 1, 2, none⟩ = some (.int .i64 op5) := hb5.cell 2
    have m3 : w2.cell? ⟨w.heap.size + 1, 3, none⟩ = some (.int .i64 verb5) := hb5.cell 3
    have m4 : w2.cell? ⟨w.heap.size + 1, 4, none⟩ = some (.int .i64 cnt5) := hb5.cell 4
    have m5 : w2.cell? ⟨w.heap.size + 1, 5, none⟩ = some (.int .i64 reg5) := hb5.cell 5
    have m6 : w2.cell? ⟨w.heap.size + 1, 6, none⟩ = some (.int .i64 char5) := hb5.cell 6
    have m7 : w2.cell? ⟨w.heap.size + 1, 7, none⟩ = some (.int .i64 what5) := hb5.cell 7
    have m8 : w2.cell? ⟨w.heap.size + 1, 8, none⟩ = some (.int .i64 err5) := hb5.cell 8
    have z0 : w2.cell? ⟨w.heap.size, 0, none⟩ = some (.slice none 0 0) := hC2.cell 0
    have z1 : w2.cell? ⟨w.heap.size, 1, none⟩ = some (.int .i64 0) := hC2.cell 1
    have z2 : w2.cell? ⟨w.heap.size, 2, none⟩ = some (.int .i64 0) := hC2.cell 2
    have z3 : w2.cell? ⟨w.heap.size, 3, none⟩ = some (.int .i64 0) := hC2.cell 3
    have z4 : w2.cell? ⟨w.heap.size, 4, none⟩ = some (.int .i64 0) := hC2.cell 4
    have z5 : w2.cell? ⟨w.heap.size, 5, none⟩ = some (.int .i64 0) := hC2.cell 5
    have z6 : w2.cell? ⟨w.heap.size, 6, none⟩ = some (.int .i64 0) := hC2.cell 6
    have z7 : w2.cell? ⟨w.heap.size, 7, none⟩ = some (.int .i64 0) := hC2.cell 7
    have z8 : w2.cell? ⟨w.heap.size, 8, none⟩ = some (.int .i64 0) := hC2.cell 8
    have f0 := hC2.frozen 0
    have f1 := hC2.frozen 1
    have f2 := hC2.frozen 2
    have f3 := hC2.frozen 3
    have f4 := hC2.frozen 4
    have f5 := hC2.frozen 5
    have f6 := hC2.frozen 6
    have f7 := hC2.frozen 7
    have f8 := hC2.frozen 8
    clear hb5 hC2 hs5 hA5
    go_wp2
    refine bodyPost_ret (v := .agg #[.slice A l.length c, .int .i64 pos, .int .i64 op5, .int .i64 verb5, .int .i64 cnt5, .int .i64 reg5, .int .i64 char5, .int .i64 what5, .int .i64 err5]) (by simp [results, Try.results9, go_sem, z0, z1, z2, z3, z4, z5, z6, z7, z8]) rfl ⟨(((((((((hf2.setB (g := w.heap.size) (by simp) 0 _).setB (g := w.heap.size) (by simp) 1 _).setB (g := w.heap.size) (by simp) 2 _).setB (g := w.heap.size) (by simp) 3 _).setB (g := w.heap.size) (by simp) 4 _).setB (g := w.heap.size) (by simp) 5 _).setB (g := w.heap.size) (by simp) 6 _).setB (g := w.heap.size) (by simp) 7 _).setB (g := w.heap.size) (by simp) 8 _), _, rfl, ht5⟩
  · have hne3 : w.heap.size + 1 ≠ w.heap.size := by omega
    have hm := mot_spec k
    obtain ⟨m, hmm⟩ : ∃ m, m = mot k := ⟨_, rfl⟩
    rw [← hmm] at hm
    have HM := Lib.hid hmm.symm
    rcases hm with ⟨hm0, hm1, hm2, hm3⟩ | ⟨hm0, hm2⟩
    · have hk3 : k ≠ 103 := by
        rintro rfl
        have : mot 103 = 0 := by decide +kernel
        omega
      have hp : pBegin2 ⟨0, 0, cnt, reg, 0, 0, 18, vis, rc⟩ k = pWhole ⟨0, 0, cnt, reg, 0, 0, 18, vis, rc⟩ m := by simp [pBegin2, h34, hk3, hm2, hm3]
      rw [hp, pGo_whole] at hgo
      subst hgo
      clear hp hm2 hm3 hmm
      go_wp2_with fail
      refine (motion_at k m HM.out _).mono ?_
      rintro e w3 ⟨rfl, rfl⟩
      go_wp2_with fail
      refine (motion_at k m HM.out _).mono ?_
      rintro e w3 ⟨rfl, rfl⟩
      go_wp2_with fail
      refine (done_at w2 (w.heap.size + 1) A c l j 0 0 cnt reg 0 0 0 m hR).mono ?_
      rintro e w3 ⟨rfl, h5', hf3'⟩
      have hf3 := hfrg hf2.size hf2 hf3'
      have hC3 := hC2.fr hf3' (by simp)
      have h5 : RTold w3 (w.heap.size + 1) A c l (five 0 m cnt reg 0, 1, 0) := ⟨_, h5', rfl, rfl, fun _ => rfl⟩
      clear hf3' h5' hR hC2
      obtain ⟨⟨pos, op5, verb5, cnt5, reg5, char5, what5, err5⟩, ⟨hb5, hs5, hA5⟩, ht5⟩ := h5
      have m0 : w3.cell? ⟨w.heap.size + 1, 0, none⟩ = some (.slice A l.length c) := hb5.cell 0
      have m1 : w3.cell? ⟨w.heap.size + 1, 1, none⟩ = some (.int .i64 pos) := hb5.cell 1
      have m2 : w3.cell? ⟨w.heap.size + 1, 2, none⟩ = some (.int .i64 op5) := hb5.cell 2
      have m3 : w3.cell? ⟨w.heap.size + 1, 3, none⟩ = some (.int .i64 verb5) := hb5.cell 3
      have m4 : w3.cell? ⟨w.heap.size + 1, 4, none⟩ = some (.int .i64 cnt5) := hb5.cell 4
      have m5 : w3.cell? ⟨w.heap.size + 1, 5, none⟩ = some (.int .i64 reg5) := hb5.cell 5
      have m6 : w3.cell? ⟨w.heap.size + 1, 6, none⟩ = some (.int .i64 char5) := hb5.cell 6
      have m7 : w3.cell? ⟨w.heap.size + 1, 7, none⟩ = some (.int .i64 what5) := hb5.cell 7
      have m8 : w3.cell? ⟨w.heap.size + 1, 8, none⟩ = some (.int .i64 err5) := hb5.cell 8
      have z0 : w3.cell? ⟨w.heap.size, 0, none⟩ = some (.slice none 0 0) := hC3.cell 0
      have z1 : w3.cell? ⟨w.heap.size, 1, none⟩ = some (.int .i64 0) := hC3.cell 1
      have z2 : w3.cell? ⟨w.heap.size, 2, none⟩ = some (.int .i64 0) := hC3.cell 2
      have z3 : w3.cell? ⟨w.heap.size, 3, none⟩ = some (.int .i64 0) := hC3.cell 3
      have z4 : w3.cell? ⟨w.heap.size, 4, none⟩ = some (.int .i64 0) := hC3.cell 4
      have z5 : w3.cell? ⟨w.heap.size, 5, none⟩ = some (.int .i64 0) := hC3.cell 5
      have z6 : w3.cell? ⟨w.heap.size, 6, none⟩ = some (.int .i64 0) := hC3.cell 6
      have z7 : w3.cell? ⟨w.heap.size, 7, none⟩ = some (.int .i64 0) := hC3.cell 7
      have z8 : w3.cell? ⟨w.heap.size, 8, none⟩ = some (.int .i64 0) := hC3.cell 8
      have f0 := hC3.frozen 0
      have f1 := hC3.frozen 1
      have f2 := hC3.frozen 2
      have f3 := hC3.frozen 3
      have f4 := hC3.frozen 4
      have f5 := hC3.frozen 5
      have f6 := hC3.frozen 6
      have f7 := hC3.frozen 7
      have f8 := hC3.frozen 8
      clear hb5 hC3 hs5 hA5
      go_wp2
      refine bodyPost_ret (v := .agg #[.slice A l.length c, .int .i64 pos, .int .i64 op5, .int .i64 verb5, .int .i64 cnt5, .int .i64 reg5, .int .i64 char5, .int .i64 what5, .int .i64 err5]) (by simp [results, Try.results9, go_sem, z0, z1, z2, z3, z4, z5, z6, z7, z8]) rfl ⟨(((((((((hf3.setB (g := w.heap.size) (by simp) 0 _).setB (g := w.heap.size) (by simp) 1 _).setB (g := w.heap.size) (by simp) 2 _).setB (g := w.heap.size) (by simp) 3 _).setB (g := w.heap.size) (by simp) 4 _).setB (g := w.heap.size) (by simp) 5 _).setB (g := w.heap.size) (by simp) 6 _).setB (g := w.heap.size) (by simp) 7 _).setB (g := w.heap.size) (by simp) 8 _), _, rfl, ht5⟩
    · by_cases hk3 : k = 103
      · subst hk3
        have hp : pBegin2 ⟨0, 0, cnt, reg, 0, 0, 18, vis, rc⟩ 103 = (⟨0, 0, cnt, reg, 0, 0, 18, vis, rc⟩, 35, 0) := by simp [pBegin2]
        rw [hp, pGo_more] at hgo
        clear hp hm2 hmm
        cases vis with
        | true =>
          rw [sec_vis] at hgo
          subst hgo
          go_wp2_with fail
          refine (motion_at 103 m HM.out _).mono ?_
          rintro e w3 ⟨rfl, rfl⟩
          go_wp2_with fail
          refine (sec_at w2 (w.heap.size + 1) A c l j 0 0 cnt reg 0 103 sG (by decide) hl hj (by omega) (by omega) hR).mono ?_
          rintro e w3 ⟨rfl, hf3', h5⟩
          have hf3 := hfrg hf2.size hf2 hf3'
          have hC3 := hC2.fr hf3' (by simp)
          clear hf3' hR hC2
          obtain ⟨⟨pos, op5, verb5, cnt5, reg5, char5, what5, err5⟩, ⟨hb5, hs5, hA5⟩, ht5⟩ := h5
          have m0 : w3.cell? ⟨w.heap.size + 1, 0, none⟩ = some (.slice A l.length c) := hb5.cell 0
          have m1 : w3.cell? ⟨w.heap.size + 1, 1, none⟩ = some (.int .i64 pos) := hb5.cell 1
          have m2 : w3.cell? ⟨w.heap.size + 1, 2, none⟩ = some (.int .i64 op5) := hb5.cell 2
          have m3 : w3.cell? ⟨w.heap.size + 1, 3, none⟩ = some (.int .i64 verb5) := hb5.cell 3
          have m4 : w3.cell? ⟨w.heap.size + 1, 4, none⟩ = some (.int .i64 cnt5) := hb5.cell 4
          have m5 : w3.cell? ⟨w.heap.size + 1, 5, none⟩ = some (.int .i64 reg5) := hb5.cell 5
          have m6 : w3.cell? ⟨w.heap.size + 1, 6, none⟩ = some (.int .i64 char5) := hb5.cell 6
          have m7 : w3.cell? ⟨w.heap.size + 1, 7, none⟩ = some (.int .i64 what5) := hb5.cell 7
          have m8 : w3.cell? ⟨w.heap.size + 1, 8, none⟩ = some (.int .i64 err5) := hb5.cell 8
          have z0 : w3.cell? ⟨w.heap.size, 0, none⟩ = some (.slice none 0 0) := hC3.cell 0
          have z1 : w3.cell? ⟨w.heap.size, 1, none⟩ = some (.int .i64 0) := hC3.cell 1
          have z2 : w3.cell? ⟨w.heap.size, 2, none⟩ = some (.int .i64 0) := hC3.cell 2
          have z3 : w3.cell? ⟨w.heap.size, 3, none⟩ = some (.int .i64 0) := hC3.cell 3
          have z4 : w3.cell? ⟨w.heap.size, 4, none⟩ = some (.int .i64 0) := hC3.cell 4
          have z5 : w3.cell? ⟨w.heap.size, 5, none⟩ = some (.int .i64 0) := hC3.cell 5
          have z6 : w3.cell? ⟨w.heap.size, 6, none⟩ = some (.int .i64 0) := hC3.cell 6
          have z7 : w3.cell? ⟨w.heap.size, 7, none⟩ = some (.int .i64 0) := hC3.cell 7
          have z8 : w3.cell? ⟨w.heap.size, 8, none⟩ = some (.int .i64 0) := hC3.cell 8
          have f0 := hC3.frozen 0
          have f1 := hC3.frozen 1
          have f2 := hC3.frozen 2
          have f3 := hC3.frozen 3
          have f4 := hC3.frozen 4
          have f5 := hC3.frozen 5
          have f6 := hC3.frozen 6
          have f7 := hC3.frozen 7
          have f8 := hC3.frozen 8
          clear hb5 hC3 hs5 hA5
          go_wp2
          refine bodyPost_ret (v := .agg #[.slice A l.length c, .int .i64 pos, .int .i64 op5, .int .i64 verb5, .int .i64 cnt5, .int .i64 reg5, .int .i64 char5, .int .i64 what5, .int .i64 err5]) (by simp [results, Try.results9, go_sem, z0, z1, z2, z3, z4, z5, z6, z7, z8]) rfl ⟨(((((((((hf3.setB (g := w.heap.size) (by simp) 0 _).setB (g := w.heap.size) (by simp) 1 _).setB (g := w.heap.size) (by simp) 2 _).setB (g := w.heap.size) (by simp) 3 _).setB (g := w.heap.size) (by simp) 4 _).setB (g := w.heap.size) (by simp) 5 _).setB (g := w.heap.size) (by simp) 6 _).setB (g := w.heap.size) (by simp) 7 _).setB (g := w.heap.size) (by simp) 8 _), _, rfl, ht5⟩
        | false =>
          rw [sec_nor] at hgo
          subst hgo
          go_wp2_with fail
          refine (motion_at 103 m HM.out _).mono ?_
          rintro e w3 ⟨rfl, rfl⟩
          go_wp2_with fail
          refine (sec_at w2 (w.heap.size + 1) A c l j 0 0 cnt reg 0 103 sGo (by decide) hl hj (by omega) (by omega) hR).mono ?_
          rintro e w3 ⟨rfl, hf3', h5⟩
          have hf3 := hfrg hf2.size hf2 hf3'
          have hC3 := hC2.fr hf3' (by simp)
          clear hf3' hR hC2
          obtain ⟨⟨pos, op5, verb5, cnt5, reg5, char5, what5, err5⟩, ⟨hb5, hs5, hA5⟩, ht5⟩ := h5
          have m0 : w3.cell? ⟨w.heap.size + 1, 0, none⟩ = some (.slice A l.length c) := hb5.cell 0
          have m1 : w3.cell? ⟨w.heap.size + 1, 1, none⟩ = some (.int .i64 pos) := hb5.cell 1
          have m2 : w3.cell? ⟨w.heap.size + 1, 2, none⟩ = some (.int .i64 op5) := hb5.cell 2
          have m3 : w3.cell? ⟨w.heap.size + 1, 3, none⟩ = some (.int .i64 verb5) := hb5.cell 3
          have m4 : w3.cell? ⟨w.heap.size + 1, 4, none⟩ = some (.int .i64 cnt5) := hb5.cell 4
          have m5 : w3.cell? ⟨w.heap.size + 1, 5, none⟩ = some (.int .i64 reg5) := hb5.cell 5
          have m6 : w3.cell? ⟨w.heap.size + 1, 6, none⟩ = some (.int .i64 char5) := hb5.cell 6
          have m7 : w3.cell? ⟨w.heap.size + 1, 7, none⟩ = some (.int .i64 what5) := hb5.cell 7
          have m8 : w3.cell? ⟨w.heap.size + 1, 8, none⟩ = some (.int .i64 err5) := hb5.cell 8
          have z0 : w3.cell? ⟨w.heap.size, 0, none⟩ = some (.slice none 0 0) := hC3.cell 0
          have z1 : w3.cell? ⟨w.heap.size, 1, none⟩ = some (.int .i64 0) := hC3.cell 1
          have z2 : w3.cell? ⟨w.heap.size, 2, none⟩ = some (.int .i64 0) := hC3.cell 2
          have z3 : w3.cell? ⟨w.heap.size, 3, none⟩ = some (.int .i64 0) := hC3.cell 3
          have z4 : w3.cell? ⟨w.heap.size, 4, none⟩ = some (.int .i64 0) := hC3.cell 4
          have z5 : w3.cell? ⟨w.heap.size, 5, none⟩ = some (.int .i64 0) := hC3.cell 5
          have z6 : w3.cell? ⟨w.heap.size, 6, none⟩ = some (.int .i64 0) := hC3.cell 6
          have z7 : w3.cell? ⟨w.heap.size, 7, none⟩ = some (.int .i64 0) := hC3.cell 7
          have z8 : w3.cell? ⟨w.heap.size, 8, none⟩ = some (.int .i64 0) := hC3.cell 8
          have f0 := hC3.frozen 0
          have f1 := hC3.frozen 1
          have f2 := hC3.frozen 2
          have f3 := hC3.frozen 3
          have f4 := hC3.frozen 4
          have f5 := hC3.frozen 5
          have f6 := hC3.frozen 6
          have f7 := hC3.frozen 7
          have f8 := hC3.frozen 8
          clear hb5 hC3 hs5 hA5
          go_wp2
          refine bodyPost_ret (v := .agg #[.slice A l.length c, .int .i64 pos, .int .i64 op5, .int .i64 verb5, .int .i64 cnt5, .int .i64 reg5, .int .i64 char5, .int .i64 what5, .int .i64 err5]) (by simp [results, Try.results9, go_sem, z0, z1, z2, z3, z4, z5, z6, z7, z8]) rfl ⟨(((((((((hf3.setB (g := w.heap.size) (by simp) 0 _).setB (g := w.heap.size) (by simp) 1 _).setB (g := w.heap.size) (by simp) 2 _).setB (g := w.heap.size) (by simp) 3 _).setB (g := w.heap.size) (by simp) 4 _).setB (g := w.heap.size) (by simp) 5 _).setB (g := w.heap.size) (by simp) 6 _).setB (g := w.heap.size) (by simp) 7 _).setB (g := w.heap.size) (by simp) 8 _), _, rfl, ht5⟩
      · have hk3' : (k == 103) = false := beq_eq_false_iff_ne.2 hk3
        cases vis with
        | true =>
          have hp : pBegin2 ⟨0, 0, cnt, reg, 0, 0, 18, true, rc⟩ k = if inB k sSeen = true ∨ inC k sSeenCtrl = true then pWhole ⟨0, 0, cnt, reg, 0, 0, 18, true, rc⟩ k else pWrong ⟨0, 0, cnt, reg, 0, 0, 18, true, rc⟩ := by
            simp [pBegin2, h34, hk3, hm2, pSelected, among_in k sSeen (by simp), ctrl_in k sSeenCtrl (by simp)]
          rw [hp] at hgo
          clear hp hm2 hmm
          cases hB : inB k sSeen with
          | true =>
            rw [if_pos (.inl hB), pGo_whole] at hgo
            subst hgo
            go_wp2_with fail
            refine (motion_at k m HM.out _).mono ?_
            rintro e w3 ⟨rfl, rfl⟩
            go_wp2_with fail
            refine (in_at k sSeen true _ (by decide) hB).mono ?_
            rintro e w3 ⟨rfl, rfl⟩
            go_wp2_with fail
            refine (done_at w2 (w.heap.size + 1) A c l j 0 0 cnt reg 0 0 0 k hR).mono ?_
            rintro e w3 ⟨rfl, h5', hf3'⟩
            have hf3 := hfrg hf2.size hf2 hf3'
            have hC3 := hC2.fr hf3' (by simp)
            have h5 : RTold w3 (w.heap.size + 1) A c l (five 0 k cnt reg 0, 1, 0) := ⟨_, h5', rfl, rfl, fun _ => rfl⟩
            clear hf3' h5' hR hC2
            obtain ⟨⟨pos, op5, verb5, cnt5, reg5, char5, what5, err5⟩, ⟨hb5, hs5, hA5⟩, ht5⟩ := h5
            have m0 : w3.cell? ⟨w.heap.size + 1, 0, none⟩ = some (.slice A l.length c) := hb5.cell 0
            have m1 : w3.cell? ⟨w.heap.size + 1, 1, none⟩ = some (.int .i64 pos) := hb5.cell 1
            have m2 : w3.cell? ⟨w.heap.size + 1, 2, none⟩ = some (.int .i64 op5) := hb5.cell 2
            have m3 : w3.cell? ⟨w.heap.size + 1, 3, none⟩ = some (.int .i64 verb5) := hb5.cell 3
            have m4 : w3.cell? ⟨w.heap.size + 1, 4, none⟩ = some (.int .i64 cnt5) := hb5.cell 4
            have m5 : w3.cell? ⟨w.heap.size + 1, 5, none⟩ = some (.int .i64 reg5) := hb5.cell 5
            have m6 : w3.cell? ⟨w.heap.size + 1, 6, none⟩ = some (.int .i64 char5) := hb5.cell 6
            have m7 : w3.cell? ⟨w.heap.size + 1, 7, none⟩ = some (.int .i64 what5) := hb5.cell 7
            have m8 : w3.cell? ⟨w.heap.size + 1, 8, none⟩ = some (.int .i64 err5) := hb5.cell 8
            have z0 : w3.cell? ⟨w.heap.size, 0, none⟩ = some (.slice none 0 0) := hC3.cell 0
            have z1 : w3.cell? ⟨w.heap.size, 1, none⟩ = some (.int .i64 0) := hC3.cell 1
            have z2 : w3.cell? ⟨w.heap.size, 2, none⟩ = some (.int .i64 0) := hC3.cell 2
            have z3 : w3.cell? ⟨w.heap.size, 3, none⟩ = some (.int .i64 0) := hC3.cell 3
            have z4 : w3.cell? ⟨w.heap.size, 4, none⟩ = some (.int .i64 0) := hC3.cell 4
            have z5 : w3.cell? ⟨w.heap.size, 5, none⟩ = some (.int .i64 0) := hC3.cell 5
            have z6 : w3.cell? ⟨w.heap.size, 6, none⟩ = some (.int .i64 0) := hC3.cell 6
            have z7 : w3.cell? ⟨w.heap.size, 7, none⟩ = some (.int .i64 0) := hC3.cell 7
            have z8 : w3.cell? ⟨w.heap.size, 8, none⟩ = some (.int .i64 0) := hC3.cell 8
            have f0 := hC3.frozen 0
            have f1 := hC3.frozen 1
            have f2 := hC3.frozen 2
            have f3 := hC3.frozen 3
            have f4 := hC3.frozen 4
            have f5 := hC3.frozen 5
            have f6 := hC3.frozen 6
            have f7 := hC3.frozen 7
            have f8 := hC3.frozen 8
            clear hb5 hC3 hs5 hA5
            go_wp2
            refine bodyPost_ret (v := .agg #[.slice A l.length c, .int .i64 pos, .int .i64 op5, .int .i64 verb5, .int .i64 cnt5, .int .i64 reg5, .int .i64 char5, .int .i64 what5, .int .i64 err5]) (by simp [results, Try.results9, go_sem, z0, z1, z2, z3, z4, z5, z6, z7, z8]) rfl ⟨(((((((((hf3.setB (g := w.heap.size) (by simp) 0 _).setB (g := w.heap.size) (by simp) 1 _).setB (g := w.heap.size) (by simp) 2 _).setB (g := w.heap.size) (by simp) 3 _).setB (g := w.heap.size) (by simp) 4 _).setB (g := w.heap.size) (by simp) 5 _).setB (g := w.heap.size) (by simp) 6 _).setB (g := w.heap.size) (by simp) 7 _).setB (g := w.heap.size) (by simp) 8 _), _, rfl, ht5⟩
          | false =>
            cases hD : inC k sSeenCtrl with
            | true =>
              rw [if_pos (.inr hD), pGo_whole] at hgo
              subst hgo
              go_wp2_with fail
              refine (motion_at k m HM.out _).mono ?_
              rintro e w3 ⟨rfl, rfl⟩
              go_wp2_with fail
              refine (in_at k sSeen false _ (by decide) hB).mono ?_
              rintro e w3 ⟨rfl, rfl⟩
              go_wp2_with fail
              refine (inc_at k sSeenCtrl true _ (by decide) hD).mono ?_
              rintro e w3 ⟨rfl, rfl⟩
              go_wp2_with fail
              refine (done_at w2 (w.heap.size + 1) A c l j 0 0 cnt reg 0 0 0 k hR).mono ?_
              rintro e w3 ⟨rfl, h5', hf3'⟩
              have hf3 := hfrg hf2.size hf2 hf3'
              have hC3 := hC2.fr hf3' (by simp)
              have h5 : RTold w3 (w.heap.size + 1) A c l (five 0 k cnt reg 0, 1, 0) := ⟨_, h5', rfl, rfl, fun _ => rfl⟩
              clear hf3' h5' hR hC2
              obtain ⟨⟨pos, op5, verb5, cnt5, reg5, char5, what5, err5⟩, ⟨hb5, hs5, hA5⟩, ht5⟩ := h5
              have m0 : w3.cell? ⟨w.heap.size + 1, 0, none⟩ = some (.slice A l.length c) := hb5.cell 0
              have m1 : w3.cell? ⟨w.heap.size + 1, 1, none⟩ = some (.int .i64 pos) := hb5.cell 1
              have m2 : w3.cell? ⟨w.heap.size + 1, 2, none⟩ = some (.int .i64 op5) := hb5.cell 2
              have m3 : w3.cell? ⟨w.heap.size + 1, 3, none⟩ = some (.int .i64 verb5) := hb5.cell 3
              have m4 : w3.cell? ⟨w.heap.size + 1, 4, none⟩ = some (.int .i64 cnt5) := hb5.cell 4
              have m5 : w3.cell? ⟨w.heap.size + 1, 5, none⟩ = some (.int .i64 reg5) := hb5.cell 5
              have m6 : w3.cell? ⟨w.heap.size + 1, 6, none⟩ = some (.int .i64 char5) := hb5.cell 6
              have m7 : w3.cell? ⟨w.heap.size + 1, 7, none⟩ = some (.int .i64 what5) := hb5.cell 7
              have m8 : w3.cell? ⟨w.heap.size + 1, 8, none⟩ = some (.int .i64 err5) := hb5.cell 8
              have z0 : w3.cell? ⟨w.heap.size, 0, none⟩ = some (.slice none 0 0) := hC3.cell 0
              have z1 : w3.cell? ⟨w.heap.size, 1, none⟩ = some (.int .i64 0) := hC3.cell 1
              have z2 : w3.cell? ⟨w.heap.size, 2, none⟩ = some (.int .i64 0) := hC3.cell 2
              have z3 : w3.cell? ⟨w.heap.size, 3, none⟩ = some (.int .i64 0) := hC3.cell 3
              have z4 : w3.cell? ⟨w.heap.size, 4, none⟩ = some (.int .i64 0) := hC3.cell 4
              have z5 : w3.cell? ⟨w.heap.size, 5, none⟩ = some (.int .i64 0) := hC3.cell 5
              have z6 : w3.cell? ⟨w.heap.size, 6, none⟩ = some (.int .i64 0) := hC3.cell 6
              have z7 : w3.cell? ⟨w.heap.size, 7, none⟩ = some (.int .i64 0) := hC3.cell 7
              have z8 : w3.cell? ⟨w.heap.size, 8, none⟩ = some (.int .i64 0) := hC3.cell 8
              have f0 := hC3.frozen 0
              have f1 := hC3.frozen 1
              have f2 := hC3.frozen 2
              have f3 := hC3.frozen 3
              have f4 := hC3.frozen 4
              have f5 := hC3.frozen 5
              have f6 := hC3.frozen 6
              have f7 := hC3.frozen 7
              have f8 := hC3.frozen 8
              clear hb5 hC3 hs5 hA5
              go_wp2
              refine bodyPost_ret (v := .agg #[.slice A l.length c, .int .i64 pos, .int .i64 op5, .int .i64 verb5, .int .i64 cnt5, .int .i64 reg5, .int .i64 char5, .int .i64 what5, .int .i64 err5]) (by simp [results, Try.results9, go_sem, z0, z1, z2, z3, z4, z5, z6, z7, z8]) rfl ⟨(((((((((hf3.setB (g := w.heap.size) (by simp) 0 _).setB (g := w.heap.size) (by simp) 1 _).setB (g := w.heap.size) (by simp) 2 _).setB (g := w.heap.size) (by simp) 3 _).setB (g := w.heap.size) (by simp) 4 _).setB (g := w.heap.size) (by simp) 5 _).setB (g := w.heap.size) (by simp) 6 _).setB (g := w.heap.size) (by simp) 7 _).setB (g := w.heap.size) (by simp) 8 _), _, rfl, ht5⟩
            | false =>
              rw [if_neg (by simp [hB, hD]), pGo_wrong] at hgo
              subst hgo
              go_wp2_with fail
              refine (motion_at k m HM.out _).mono ?_
              rintro e w3 ⟨rfl, rfl⟩
              go_wp2_with fail
              refine (in_at k sSeen false _ (by decide) hB).mono ?_
              rintro e w3 ⟨rfl, rfl⟩
              go_wp2_with fail
              refine (inc_at k sSeenCtrl false _ (by decide) hD).mono ?_
              rintro e w3 ⟨rfl, rfl⟩
              go_wp2_with fail
              refine (wrong_at w2 (w.heap.size + 1) A c l j 0 0 cnt reg 0 0 0 hR).mono ?_
              rintro e w3 ⟨rfl, h5', hf3'⟩
              have hf3 := hfrg hf2.size hf2 hf3'
              have hC3 := hC2.fr hf3' (by simp)
              have h5 : RTold w3 (w.heap.size + 1) A c l (Zero5, 2, 10) := ⟨_, h5', rfl, rfl, fun h => by cases h⟩
              clear hf3' h5' hR hC2
              obtain ⟨⟨pos, op5, verb5, cnt5, reg5, char5, what5, err5⟩, ⟨hb5, hs5, hA5⟩, ht5⟩ := h5
              have m0 : w3.cell? ⟨w.heap.size + 1, 0, none⟩ = some (.slice A l.length c) := hb5.cell 0
              have m1 : w3.cell? ⟨w.heap.size + 1, 1, none⟩ = some (.int .i64 pos) := hb5.cell 1
              have m2 : w3.cell? ⟨w.heap.size + 1, 2, none⟩ = some (.int .i64 op5) := hb5.cell 2
              have m3 : w3.cell? ⟨w.heap.size + 1, 3, none⟩ = some (.int .i64 verb5) := hb5.cell 3
              have m4 : w3.cell? ⟨w.heap.size + 1, 4, none⟩ = some (.int .i64 cnt5) := hb5.cell 4
              have m5 : w3.cell? ⟨w.heap.size + 1, 5, none⟩ = some (.int .i64 reg5) := hb5.cell 5
              have m6 : w3.cell? ⟨w.heap.size + 1, 6, none⟩ = some (.int .i64 char5) := hb5.cell 6
              have m7 : w3.cell? ⟨w.heap.size + 1, 7, none⟩ = some (.int .i64 what5) := hb5.cell 7
              have m8 : w3.cell? ⟨w.heap.size + 1, 8, none⟩ = some (.int .i64 err5) := hb5.cell 8
              have z0 : w3.cell? ⟨w.heap.size, 0, none⟩ = some (.slice none 0 0) := hC3.cell 0
              have z1 : w3.cell? ⟨w.heap.size, 1, none⟩ = some (.int .i64 0) := hC3.cell 1
              have z2 : w3.cell? ⟨w.heap.size, 2, none⟩ = some (.int .i64 0) := hC3.cell 2
              have z3 : w3.cell? ⟨w.heap.size, 3, none⟩ = some (.int .i64 0) := hC3.cell 3
              have z4 : w3.cell? ⟨w.heap.size, 4, none⟩ = some (.int .i64 0) := hC3.cell 4
              have z5 : w3.cell? ⟨w.heap.size, 5, none⟩ = some (.int .i64 0) := hC3.cell 5
              have z6 : w3.cell? ⟨w.heap.size, 6, none⟩ = some (.int .i64 0) := hC3.cell 6
              have z7 : w3.cell? ⟨w.heap.size, 7, none⟩ = some (.int .i64 0) := hC3.cell 7
              have z8 : w3.cell? ⟨w.heap.size, 8, none⟩ = some (.int .i64 0) := hC3.cell 8
              have f0 := hC3.frozen 0
              have f1 := hC3.frozen 1
              have f2 := hC3.frozen 2
              have f3 := hC3.frozen 3
              have f4 := hC3.frozen 4
              have f5 := hC3.frozen 5
              have f6 := hC3.frozen 6
              have f7 := hC3.frozen 7
              have f8 := hC3.frozen 8
              clear hb5 hC3 hs5 hA5
              go_wp2
              refine bodyPost_ret (v := .agg #[.slice A l.length c, .int .i64 pos, .int .i64 op5, .int .i64 verb5, .int .i64 cnt5, .int .i64 reg5, .int .i64 char5, .int .i64 what5, .int .i64 err5]) (by simp [results, Try.results9, go_sem, z0, z1, z2, z3, z4, z5, z6, z7, z8]) rfl ⟨(((((((((hf3.setB (g := w.heap.size) (by simp) 0 _).setB (g := w.heap.size) (by simp) 1 _).setB (g := w.heap.size) (by simp) 2 _).setB (g := w.heap.size) (by simp) 3 _).setB (g := w.heap.size) (by simp) 4 _).setB (g := w.heap.size) (by simp) 5 _).setB (g := w.heap.size) (by simp) 6 _).setB (g := w.heap.size) (by simp) 7 _).setB (g := w.heap.size) (by simp) 8 _), _, rfl, ht5⟩
        | false =>
          clear hmm
          go_wp2_with fail
          refine (motion_at k m HM.out _).mono ?_
          rintro e w3 ⟨rfl, rfl⟩
          go_wp2_with fail
          refine (normal_at w2 (w.heap.size + 1) A c l j cnt reg k rc hl hj h0 h9 h34 hk3 hm2 hR).mono ?_
          rintro e w3 ⟨rfl, hf3', h5⟩
          rw [hgo] at h5
          have hf3 := hfrg hf2.size hf2 hf3'
          have hC3 := hC2.fr hf3' (by simp)
          clear hf3' hR hC2 hgo hm2
          obtain ⟨⟨pos, op5, verb5, cnt5, reg5, char5, what5, err5⟩, ⟨hb5, hs5, hA5⟩, ht5⟩ := h5
          have m0 : w3.cell? ⟨w.heap.size + 1, 0, none⟩ = some (.slice A l.length c) := hb5.cell 0
          have m1 : w3.cell? ⟨w.heap.size + 1, 1, none⟩ = some (.int .i64 pos) := hb5.cell 1
          have m2 : w3.cell? ⟨w.heap.size + 1, 2, none⟩ = some (.int .i64 op5) := hb5.cell 2
          have m3 : w3.cell? ⟨w.heap.size + 1, 3, none⟩ = some (.int .i64 verb5) := hb5.cell 3
          have m4 : w3.cell? ⟨w.heap.size + 1, 4, none⟩ = some (.int .i64 cnt5) := hb5.cell 4
          have m5 : w3.cell? ⟨w.heap.size + 1, 5, none⟩ = some (.int .i64 reg5) := hb5.cell 5
          have m6 : w3.cell? ⟨w.heap.size + 1, 6, none⟩ = some (.int .i64 char5) := hb5.cell 6
          have m7 : w3.cell? ⟨w.heap.size + 1, 7, none⟩ = some (.int .i64 what5) := hb5.cell 7
          have m8 : w3.cell? ⟨w.heap.size + 1, 8, none⟩ = some (.int .i64 err5) := hb5.cell 8
          have z0 : w3.cell? ⟨w.heap.size, 0, none⟩ = some (.slice none 0 0) := hC3.cell 0
          have z1 : w3.cell? ⟨w.heap.size, 1, none⟩ = some (.int .i64 0) := hC3.cell 1
          have z2 : w3.cell? ⟨w.heap.size, 2, none⟩ = some (.int .i64 0) := hC3.cell 2
          have z3 : w3.cell? ⟨w.heap.size, 3, none⟩ = some (.int .i64 0) := hC3.cell 3
          have z4 : w3.cell? ⟨w.heap.size, 4, none⟩ = some (.int .i64 0) := hC3.cell 4
          have z5 : w3.cell? ⟨w.heap.size, 5, none⟩ = some (.int .i64 0) := hC3.cell 5
          have z6 : w3.cell? ⟨w.heap.size, 6, none⟩ = some (.int .i64 0) := hC3.cell 6
          have z7 : w3.cell? ⟨w.heap.size, 7, none⟩ = some (.int .i64 0) := hC3.cell 7
          have z8 : w3.cell? ⟨w.heap.size, 8, none⟩ = some (.int .i64 0) := hC3.cell 8
          have f0 := hC3.frozen 0
          have f1 := hC3.frozen 1
          have f2 := hC3.frozen 2
          have f3 := hC3.frozen 3
          have f4 := hC3.frozen 4
          have f5 := hC3.frozen 5
          have f6 := hC3.frozen 6
          have f7 := hC3.frozen 7
          have f8 := hC3.frozen 8
          clear hb5 hC3 hs5 hA5
          go_wp2
          refine bodyPost_ret (v := .agg #[.slice A l.length c, .int .i64 pos, .int .i64 op5, .int .i64 verb5, .int .i64 cnt5, .int .i64 reg5, .int .i64 char5, .int .i64 what5, .int .i64 err5]) (by simp [results, Try.results9, go_sem, z0, z1, z2, z3, z4, z5, z6, z7, z8]) rfl ⟨(((((((((hf3.setB (g := w.heap.size) (by simp) 0 _).setB (g := w.heap.size) (by simp) 1 _).setB (g := w.heap.size) (by simp) 2 _).setB (g := w.heap.size) (by simp) 3 _).setB (g := w.heap.size) (by simp) 4 _).setB (g := w.heap.size) (by simp) 5 _).setB (g := w.heap.size) (by simp) 6 _).setB (g := w.heap.size) (by simp) 7 _).setB (g := w.heap.size) (by simp) 8 _), _, rfl, ht5⟩
end Go.Proofs.Ythhkannmeljfkaa
