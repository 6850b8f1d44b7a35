import Derived.Test.YthhkannmeljfkaaW9
namespace Go.Proofs.Ythhkannmeljfkaa
open Go.RowKit Go.Proofs.Dm

def aks : List Int := [50, 34, 97, 51, 100, 119]
def aw : Nat → PS × List Int
  | 0 => (P0, [])
  | q + 1 => left (pStep (prep (aw q).1 0 false) (aks.getD q 0)) ((aw q).2 ++ [aks.getD q 0])
theorem aw_inv : ∀ q, GInv (aw q).1
  | 0 => gInv_P0
  | q + 1 => gInv_left (aw_inv q) 0 false _ _
theorem left_len (r : R3) (l : List Int) : (left r l).2.length ≤ l.length := by unfold left; split <;> simp
theorem aw_len : ∀ q, (aw q).2.length ≤ q
  | 0 => by simp [aw]
  | q + 1 => by
    have h := left_len (pStep (prep (aw q).1 0 false) (aks.getD q 0)) ((aw q).2 ++ [aks.getD q 0])
    have := aw_len q
    simp only [List.length_append, List.length_cons, List.length_nil] at h
    show (left _ _).2.length ≤ _
    omega
theorem aw_end : told (pStep (prep (aw 5).1 0 false) 119) = (five 100 119 6 97 0, 1, 0) := by rfl
theorem aw_left : (aw 6) = (P0, []) := by rfl
theorem aw_moves : movesB 119 = true := by rfl

/-- Of the last key: what is told. -/
def awc (wr : World) (cb q : Nat) (v : Value) : Prop := ∃ a b c d e t, Blk wr cb 26 (five a b c d e).toArray ∧ v = .int .i64 t ∧ (q = 6 → a = 100 ∧ b = 119 ∧ c = 6 ∧ d = 97 ∧ e = 0 ∧ t = 1)

theorem PAt.step {U : Nat → Prop} {w0 w w' : World} {g b : Nat} {P : PS} {l : List Int} (h : PAt U w0 w g P l) (hf : Fr [some b] w w') (hb : U b) : PAt U w' w' g P l := by
  obtain ⟨hf0, hg0, A, c, hbg, hrow, hgA, hA⟩ := h
  refine ⟨FrU.refl U w' (fun k hk => Nat.lt_of_lt_of_le (hf0.dom k hk) (Nat.le_trans hf0.size hf.size)), hg0, A, c, Blk.fr hbg hf (by simp; rintro rfl; exact hg0 hb), hrow.fr hf ?_, hgA, hA⟩
  cases hbk : bk A with
  | none => exact .inl rfl
  | some j => exact .inr (by simp; rintro rfl; exact hA j hbk hb)
theorem fru_fr {U : Nat → Prop} {base w w' : World} (hb : Fr [] base w) (h : FrU U w w') (hU : ∀ k, k < base.heap.size → U k) : Fr [] base w' :=
  ⟨h.os.trans hb.os, h.tape.trans hb.tape, h.output.trans hb.output, Nat.le_trans hb.size h.size, fun k hk _ => (h.block k (hU k hk)).trans (hb.block k hk (by simp))⟩
theorem fru_blk {U : Nat → Prop} {w0 w : World} (h : FrU U w0 w) {g : Nat} (hg : U g) {t : TypeId} {cs : Array Value} (hb : Blk w0 g t cs) : Blk w g t cs := (h.block g hg).trans hb

set_option maxRecDepth 100000 in
set_option maxHeartbeats 1600000 in
theorem awake_yes (w : World) : Calls Try.prog 14 #[] w fun e w' => e = .returned (.bool true) ∧ Fr [] w w' := by
  go_enter Try.func14, Try.ntmps14
  go_wp2_with fail
  refine (new_at w).mono ?_
  rintro e w1 ⟨g, rfl, hg, hg1, hf1, hP⟩
  have hsz : w.heap.size ≤ w1.heap.size := hf1.size
  have hF2 : Fr [] w1 ((w1.alloc (.cells #[.int .i64 0, .int .i64 0, .int .i64 0, .int .i64 0, .int .i64 0] 26)).alloc (.cells #[.int .i64 50, .int .i64 34, .int .i64 97, .int .i64 51, .int .i64 100, .int .i64 119] 3)) := ((Fr.refl [] w1).alloc _).alloc _
  have hC2 := (Blk.new w1 26 #[.int .i64 0, .int .i64 0, .int .i64 0, .int .i64 0, .int .i64 0]).alloc (.cells #[.int .i64 50, .int .i64 34, .int .i64 97, .int .i64 51, .int .i64 100, .int .i64 119] 3)
  have hK2 := Blk.new (w1.alloc (.cells #[.int .i64 0, .int .i64 0, .int .i64 0, .int .i64 0, .int .i64 0] 26)) 3 #[.int .i64 50, .int .i64 34, .int .i64 97, .int .i64 51, .int .i64 100, .int .i64 119]
  obtain ⟨cb, hcb⟩ : ∃ cb, cb = w1.heap.size := ⟨_, rfl⟩
  have hK3 : Blk ((w1.alloc (.cells #[.int .i64 0, .int .i64 0, .int .i64 0, .int .i64 0, .int .i64 0] 26)).alloc (.cells #[.int .i64 50, .int .i64 34, .int .i64 97, .int .i64 51, .int .i64 100, .int .i64 119] 3)) (w1.heap.size + 1) 3 (ints aks).toArray := by simpa [ints, aks] using hK2
  have hP2 := hP (fun k => k < w.heap.size ∨ k = w1.heap.size ∨ k = w1.heap.size + 1) _ _ (FrU.refl _ ((w1.alloc (.cells #[.int .i64 0, .int .i64 0, .int .i64 0, .int .i64 0, .int .i64 0] 26)).alloc (.cells #[.int .i64 50, .int .i64 34, .int .i64 97, .int .i64 51, .int .i64 100, .int .i64 119] 3)) (by intro k hk; simp; omega)) (by omega) hF2
  have hF3 := hf1.trans hF2
  clear hP hF2 hK2 hf1
  go_wp2_with fail
  go_loopw [9, 5, 2] (fun i _ v wr => ∃ q : Nat, i = .int .i64 q ∧ q ≤ 6 ∧ PAt (fun k => k < w.heap.size ∨ k = w1.heap.size ∨ k = w1.heap.size + 1) wr wr g (aw q).1 (aw q).2 ∧ Fr [] w wr ∧ Blk wr (w1.heap.size + 1) 3 (ints aks).toArray ∧ awc wr w1.heap.size q v) (fun i _ _ _ => 6 - (intOf i).toNat)
  case atStart => exact ⟨0, rfl, by omega, hP2, hF3, hK3, 0, 0, 0, 0, 0, 2, hC2, rfl, by omega⟩
  case round =>
    obtain ⟨q, rfl, hq, hPq, hFq, hKq, a, b, c, d, e, t, hCq, rfl, hqe⟩ := hrel
    by_cases hlt : q < 6
    · have hcell : wr.cell? ⟨w1.heap.size + 1, q, none⟩ = some (.int .i64 (aks.getD q 0)) := by
        rw [hKq.cell]
        have : ∀ q, q < 6 → ((ints aks).toArray[q]? = some (.int .i64 (aks.getD q 0))) := by intro q hq; rcases q with _ | _ | _ | _ | _ | _ | q <;> first | rfl | omega
        exact this q hlt
      have hne : aks.getD q 0 ≠ 27 := by
        have : ∀ q, q < 6 → aks.getD q 0 ≠ 27 := by decide
        exact this q hlt
      have hkey := key_at _ wr wr g _ _ (aks.getD q 0) 0 false hPq (aw_inv q) (by have := aw_len q; omega) hne _ rfl
      obtain ⟨a1, b1, c1, d1, e1, t1, u1, ht⟩ := told_five (pStep (prep (aw q).1 0 false) (aks.getD q 0))
      rw [ht] at hkey
      simp only [five] at hkey
      have hnext : aw (q + 1) = left (pStep (prep (aw q).1 0 false) (aks.getD q 0)) ((aw q).2 ++ [aks.getD q 0]) := rfl
      rw [← hnext] at hkey
      have hend : q + 1 = 6 → a1 = 100 ∧ b1 = 119 ∧ c1 = 6 ∧ d1 = 97 ∧ e1 = 0 ∧ t1 = 1 := by
        intro h6
        obtain rfl : q = 5 := by omega
        have h1 := ht.symm.trans aw_end
        simp only [five, Prod.mk.injEq, List.cons.injEq, Value.int.injEq, true_and, and_true] at h1
        omega
      have HE := Lib.hid hend
      have HK := Lib.hid hkey
      obtain ⟨x, hx⟩ : ∃ x, x = aks.getD q 0 := ⟨_, rfl⟩
      rw [← hx] at hcell HK
      clear hx hne ht hnext hend hkey hqe hF3 hC2 hK3 hP2
      go_wp2_with fail
      refine HK.out.mono ?_
      rintro ee w5 ⟨rfl, hP5⟩
      have hC5 := fru_blk hP5.1 (.inr (.inl rfl)) hCq
      have hK5 := fru_blk hP5.1 (.inr (.inr rfl)) hKq
      have hF5 := fru_fr hFq hP5.1 (fun k hk => .inl hk)
      have m0 : w5.cell? ⟨w1.heap.size, 0, none⟩ = some (.int .i64 a) := hC5.cell 0
      have m1 : w5.cell? ⟨w1.heap.size, 1, none⟩ = some (.int .i64 b) := hC5.cell 1
      have m2 : w5.cell? ⟨w1.heap.size, 2, none⟩ = some (.int .i64 c) := hC5.cell 2
      have m3 : w5.cell? ⟨w1.heap.size, 3, none⟩ = some (.int .i64 d) := hC5.cell 3
      have m4 : w5.cell? ⟨w1.heap.size, 4, none⟩ = some (.int .i64 e) := hC5.cell 4
      have f0 := hC5.frozen 0
      have f1 := hC5.frozen 1
      have f2 := hC5.frozen 2
      have f3 := hC5.frozen 3
      have f4 := hC5.frozen 4
      clear HK hPq hCq hKq
      go_wp2
      go_roundw
      case rel =>
        have hF6 : Fr [some w1.heap.size] w5 _ := ((((((Fr.refl [some w1.heap.size] w5).setB (g := w1.heap.size) (by simp) 0 (.int .i64 a1)).setB (g := w1.heap.size) (by simp) 1 (.int .i64 b1)).setB (g := w1.heap.size) (by simp) 2 (.int .i64 c1)).setB (g := w1.heap.size) (by simp) 3 (.int .i64 d1)).setB (g := w1.heap.size) (by simp) 4 (.int .i64 e1))
        exact ⟨q + 1, by go_num, by omega, hP5.step hF6 (.inr (.inl rfl)), hF5.seq hF6 (by simp; omega), Blk.fr hK5 hF6 (by simp), a1, b1, c1, d1, e1, t1, ((((hC5.set_ 0 _).set_ 1 _).set_ 2 _).set_ 3 _).set_ 4 _, rfl, HE.out⟩
      case measure => simp [intOf]; omega
    · obtain rfl : q = 6 := by omega
      obtain ⟨rfl, rfl, rfl, rfl, rfl, rfl⟩ := hqe rfl
      have m0 : wr.cell? ⟨w1.heap.size, 0, none⟩ = some (.int .i64 100) := hCq.cell 0
      have m1 : wr.cell? ⟨w1.heap.size, 1, none⟩ = some (.int .i64 119) := hCq.cell 1
      have m2 : wr.cell? ⟨w1.heap.size, 2, none⟩ = some (.int .i64 6) := hCq.cell 2
      have m3 : wr.cell? ⟨w1.heap.size, 3, none⟩ = some (.int .i64 97) := hCq.cell 3
      have m4 : wr.cell? ⟨w1.heap.size, 4, none⟩ = some (.int .i64 0) := hCq.cell 4
      rw [aw_left] at hPq
      clear hF3 hC2 hK3 hP2 hCq hKq
      go_wp2_with fail
      refine (moves_any 119 wr).mono ?_
      rintro ee w5 ⟨rfl, rfl⟩
      rw [aw_moves]
      go_wp2_with fail
      refine (pend_at _ wr wr g P0 [] hPq (by simp)).mono ?_
      rintro ee w6 ⟨A6, c6, rfl, _, hP6⟩
      have hF6 := fru_fr hFq hP6.1 (fun k hk => .inl hk)
      clear hPq hP6 hFq
      go_wp2
      go_ret
      exact ⟨rfl, hF6⟩
end Go.Proofs.Ythhkannmeljfkaa
