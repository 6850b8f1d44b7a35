import Derived.Test.YtgmnjbnlfpopgaaK6
import Derived.Test.YtgmnjbnlfpopgaaTn
namespace Go.Proofs.Ytgmnjbnlfpopgaa
open Go.RowKit Go.Proofs.Dm

/-- What turning answers. -/
def TurnAns (w : World) (o : Option (List Int)) (e : Ending) (w' : World) : Prop := Fr [] w w' ∧ match o with
  | none => e = .returned (.tuple #[.slice none 0 0, .bool false])
  | some out => ∃ A c, e = .returned (.tuple #[.slice A out.length c, .bool true]) ∧ IRow w' 3 A c out ∧ ∀ j, bk A = some j → w.heap.size ≤ j
theorem irow_set {w : World} {e : TypeId} {g c : Nat} {xs : List Int} (h : IRow w e (some ⟨g, 0, none⟩) c xs) (k : Nat) (v : Int) : IRow (w.setCell ⟨g, k, none⟩ (.int .i64 v)) e (some ⟨g, 0, none⟩) c (xs.set k v) := by
  have := (World.ownsRow.stored h k (.int .i64 v)).1
  unfold IRow ORow
  rw [show ints (xs.set k v) = (ints xs).set k (.int .i64 v) by simp [ints, List.map_set], List.length_set]
  exact this
theorem pat_neg (n : Nat) : pat [-1] (n * ([-1] : List Int).length) = List.replicate n (-1) := by
  apply List.ext_getElem
  · simp [pat]
  · intro i h1 h2
    simp [pat, Nat.mod_one]
theorem turnAt_next (l : List Int) (q : Nat) (out : List Int) (h : turnAt l q = some out) : turnAt l (q + 1) = tstep l.length out q (l.getD q 0) := by
  show (turnAt l q).bind _ = _
  rw [h]; rfl
theorem turnAt_dead (l : List Int) : ∀ k q, turnAt l q = none → turnAt l (q + k) = none
  | 0, _, h => h
  | k + 1, q, h => by
    show (turnAt l (q + k)).bind _ = none
    rw [turnAt_dead l k q h]; rfl

set_option maxHeartbeats 1600000 in
theorem turn_any (A : Option Addr) (c : Nat) (l : List Int) (w : World) (hs : Sl w A (ints l)) (hn : l.length ≤ 10000) :
    Calls Try.prog 19 #[.slice A l.length c] w (TurnAns w (turnP l)) := by
  have hrep : ∀ (A1 : Option Addr) (c1 : Nat) (w1 : World), Sl w1 A1 (ints [-1]) → Calls Try.prog 42 #[.slice A1 1 c1, .int .i64 l.length] w1 fun e w' => ∃ A' c', e = .returned (.slice A' l.length c') ∧ IRow w' 3 A' c' (List.replicate l.length (-1)) ∧ Fr [] w1 w' ∧ (bk A' = none ∨ ∃ j, w1.heap.size ≤ j ∧ bk A' = some j) := by
    intro A1 c1 w1 h1
    by_cases h0 : l.length = 0
    · rw [h0]; exact repeat_zero A1 c1 (-1) w1 h1
    · have := repeat_any A1 c1 [-1] l.length w1 h1 (by simp) (by omega) (by simp; omega)
      rw [pat_neg] at this
      simpa using this
  have hz : turnAt l 0 = some (List.replicate l.length (-1)) := rfl
  have HREP := Lib.hid hrep
  have HZ := Lib.hid hz
  obtain ⟨o, ho⟩ : ∃ o, o = turnP l := ⟨_, rfl⟩
  rw [← ho]
  have HO : Hid (o = turnAt l l.length) := ho
  clear hrep hz ho
  go_enter Try.func19, Try.ntmps19
  go_wp2_with fail
  refine (HREP.out _ _ _ (by simpa [ints] using sl_new w (.int .i64 (-1)) 3)).mono ?_
  rintro e w1 ⟨A1, c1, rfl, hr1, hf1, hA1⟩
  have hFw : Fr [] w w1 := ((Fr.refl [] w).alloc _).trans hf1
  have HA : Hid (∀ j, bk A1 = some j → w.heap.size ≤ j) := by
    show ∀ _, _
    intro j hj
    rcases hA1 with h | ⟨j', h1, h2⟩
    · rw [h] at hj; cases hj
    · rw [h2] at hj; injection hj with hj; simp at h1; omega
  clear hA1 HREP hf1
  go_wp2_with fail
  go_loopw [13] (fun iv wr => ∃ (q : Nat) (out : List Int), iv = .int .i64 q ∧ q ≤ l.length ∧ Hid (turnAt l q = some out) ∧ Hid (out.length = l.length) ∧ IRow wr 3 A1 c1 out ∧ Fr [] w wr) (fun iv _ => l.length - (intOf iv).toNat)
  case atStart => exact ⟨0, _, rfl, Nat.zero_le _, HZ, by show _ = _; simp, hr1, hFw⟩
  case round =>
    obtain ⟨q, out, rfl, hq, HT, HL, hrow, hF⟩ := hrel
    clear HZ hr1 hFw
    by_cases hlt : q < l.length
    · obtain ⟨ad, rfl, hcell⟩ := sl_ints (hs.fr hF (.inr List.not_mem_nil)) hlt
      have hnx := turnAt_next l q out HT.out
      obtain ⟨x, hx⟩ : ∃ x, x = l.getD q 0 := ⟨_, rfl⟩
      rw [← hx] at hcell hnx
      have HX := Lib.hid hx
      have HNX := Lib.hid hnx
      clear hx hnx
      have HDIE : Hid (tstep l.length out q x = none → o = none) := by
        show _ → _
        intro h
        rw [HO.out, show l.length = (q + 1) + (l.length - (q + 1)) by omega]
        exact turnAt_dead l _ _ (by rw [HNX.out]; exact h)
      by_cases h0 : x < 0
      · have hd := HDIE.out (by unfold tstep; rw [if_pos (.inl h0)])
        have HD := Lib.hid hd
        clear hd HDIE
        go_wp2_with fail
        go_ret2
        exact ⟨hF, by rw [HD.out]; rfl⟩
      · by_cases h1 : (l.length : Int) ≤ x
        · have hd := HDIE.out (by unfold tstep; rw [if_pos (.inr (.inl h1))])
          have HD := Lib.hid hd
          clear hd HDIE
          go_wp2_with fail
          go_ret2
          exact ⟨hF, by rw [HD.out]; rfl⟩
        · obtain ⟨k, rfl⟩ : ∃ k : Nat, x = (k : Int) := ⟨x.toNat, by omega⟩
          have hk : k < l.length := by omega
          have hko : k < out.length := by have := HL.out; omega
          obtain ⟨b, rfl⟩ := orow_some hrow (by intro h; have := congrArg List.length h; simp [ints] at this; rw [this] at hko; simp at hko)
          have hco : wr.cell? ⟨b, k, none⟩ = some (.int .i64 (out.getD k 0)) := by
            rw [World.ownsRow.cellAt hrow k (by omega), ints_get _ _ hko]
            simp [List.getD_eq_getElem?_getD, hko]
          have hfo : wr.frozen? ⟨b, k, none⟩ = false := World.ownsRow.frozenAt hrow k
          obtain ⟨y, hy⟩ : ∃ y, y = out.getD k 0 := ⟨_, rfl⟩
          rw [← hy] at hco
          have HY := Lib.hid hy
          clear hy hs
          have hko2 : k < l.length := hk
          by_cases h2 : 0 ≤ y
          · have hd := HDIE.out (by unfold tstep; rw [if_pos (.inr (.inr (by rw [Int.toNat_natCast, ← HY.out]; exact h2)))])
            have HD := Lib.hid hd
            clear hd HDIE
            go_wp2_with fail
            go_ret2
            exact ⟨hF, by rw [HD.out]; rfl⟩
          · have h2' : y < 0 := by omega
            have HNX2 : Hid (turnAt l (q + 1) = some (out.set k q)) := by
              show _ = _
              rw [HNX.out]
              unfold tstep
              rw [if_neg, Int.toNat_natCast]
              rw [Int.toNat_natCast, ← HY.out]
              omega
            clear h2 HDIE
            go_wp2_with fail
            go_roundw
            case rel => exact ⟨q + 1, out.set k q, by go_num, by omega, HNX2, by show _ = _; rw [List.length_set]; exact HL.out, irow_set hrow k q, hF.setB (g := b) (fun h => by have := HA.out b rfl; omega) k _⟩
            case measure => simp [intOf]; omega
    · obtain rfl : q = l.length := by omega
      have ho2 : o = some out := by rw [HO.out]; exact HT.out
      have HO2 := Lib.hid ho2
      clear ho2
      go_wp2_with fail
      go_ret2
      refine ⟨hF, ?_⟩
      rw [HO2.out]
      exact ⟨A1, c1, by rw [HL.out]; rfl, hrow, HA.out⟩
end Go.Proofs.Ytgmnjbnlfpopgaa
