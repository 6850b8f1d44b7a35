import Derived.Test.YthhkannmeljfkaaW6
namespace Go.Proofs.Ythhkannmeljfkaa
open Go.RowKit Go.Proofs.Dm

/-- A row whose first i and last i have changed places. -/
def revd (xs : List Int) (i : Nat) : List Int := (List.range xs.length).map fun p => if p < i ∨ xs.length - i ≤ p then xs.getD (xs.length - 1 - p) 0 else xs.getD p 0
theorem revd_len (xs : List Int) (i : Nat) : (revd xs i).length = xs.length := by simp [revd]
theorem revd_zero (xs : List Int) : revd xs 0 = xs := by
  apply List.ext_getElem
  · simp [revd]
  · intro p h1 h2
    have : ¬ xs.length ≤ p := by omega
    simp [revd, this, h2]
theorem revd_end (xs : List Int) (i : Nat) (h : xs.length ≤ 2 * i + 1) : revd xs i = xs.reverse := by
  apply List.ext_getElem
  · simp [revd]
  · intro p h1 h2
    simp only [List.length_reverse] at h2
    have hq : xs.length - 1 - p < xs.length := by omega
    simp only [revd, List.getElem_map, List.getElem_range, List.getElem_reverse]
    split
    · simp [hq]
    · have : xs.length - 1 - p = p := by omega
      simp only [this]; simp [h2]
theorem revd_get (xs : List Int) (i p : Nat) (h : p < xs.length) (h1 : i ≤ p) (h2 : p < xs.length - i) : (revd xs i)[p]'(by rw [revd_len]; exact h) = xs[p] := by
  simp only [revd, List.getElem_map, List.getElem_range]
  rw [if_neg (by omega)]
  simp [h]
theorem revd_step (xs : List Int) (i : Nat) (h : 2 * i + 1 < xs.length) :
    ((revd xs i).set i (xs[xs.length - 1 - i]'(by omega))).set (xs.length - 1 - i) (xs[i]'(by omega)) = revd xs (i + 1) := by
  apply List.ext_getElem
  · simp [revd]
  · intro p h1 h2
    rw [revd_len] at h2
    rw [List.getElem_set]
    by_cases hp : xs.length - 1 - i = p
    · rw [if_pos hp]
      simp only [revd, List.getElem_map, List.getElem_range]
      rw [if_pos (by omega)]
      have : xs.length - 1 - p = i := by omega
      rw [this]; simp [show i < xs.length by omega]
    · rw [if_neg hp, List.getElem_set]
      by_cases hq : i = p
      · subst hq
        rw [if_pos rfl]
        simp only [revd, List.getElem_map, List.getElem_range]
        rw [if_pos (by omega)]
        simp [show xs.length - 1 - i < xs.length by omega]
      · rw [if_neg hq]
        simp only [revd, List.getElem_map, List.getElem_range]
        by_cases hr : p < i ∨ xs.length - i ≤ p
        · rw [if_pos hr, if_pos (by omega)]
        · rw [if_neg hr, if_neg (by omega)]
theorem ints_set (xs : List Int) (k : Nat) (v : Int) : ints (xs.set k v) = (ints xs).set k (.int .i64 v) := by simp [ints, List.map_set]

theorem orow_addr {w : World} {e : TypeId} {sz n c : Nat} {A : Option Addr} {cs : List Value} (h : ORow w e sz A c n cs) : A = none ∨ ∃ g, A = some ⟨g, 0, none⟩ := by
  rcases h.2 with ⟨he, _⟩ | ⟨g, cap, cur, he, _⟩
  · injection he with he; exact .inl he
  · injection he with he; exact .inr ⟨g, he⟩
theorem _root_.Go.Proofs.Dm.IRow.set2 {w : World} {e : TypeId} {g c : Nat} {xs : List Int} (h : IRow w e (some ⟨g, 0, none⟩) c xs) (k : Nat) (v : Int) : IRow (w.setCell ⟨g, k, none⟩ (.int .i64 v)) e (some ⟨g, 0, none⟩) c (xs.set k v) := by
  have := (World.ownsRow.stored h k (.int .i64 v)).1
  unfold IRow ORow
  rw [ints_set, List.length_set]
  exact this

set_option maxHeartbeats 800000 in
theorem reverse_any (A : Option Addr) (c : Nat) (xs : List Int) (w : World) (hr : IRow w 3 A c xs) (hl : xs.length ≤ 1099511627776) :
    Calls Try.prog 46 #[.slice A xs.length c] w fun e w' => e = .returned (.tuple #[]) ∧ IRow w' 3 A c xs.reverse ∧ Fr [bk A] w w' := by
  rcases orow_addr hr with rfl | ⟨g, rfl⟩
  · have h0 : xs = [] := by
      rcases hr.sl with h | ⟨ad, h, _⟩
      · simpa [ints] using h
      · cases h
    subst h0
    show Calls Try.prog 46 #[.slice none 0 c] w _
    go_enter Try.func46, Try.ntmps46
    go_wp2
    go_loopw [2, 3] (fun i j wr => i = .int .i64 0 ∧ j = .int .i64 (-1) ∧ wr = w) (fun i _ _ => 0)
    case atStart => exact ⟨rfl, rfl, rfl⟩
    case round =>
      obtain ⟨rfl, rfl, rfl⟩ := hrel
      go_wp2
      go_end0
      exact ⟨rfl, hr, Fr.refl _ _⟩
  · go_enter Try.func46, Try.ntmps46
    go_wp2
    go_loopw [2, 3] (fun i j wr => ∃ k : Nat, i = .int .i64 k ∧ j = .int .i64 ((xs.length : Int) - 1 - k) ∧ 2 * k ≤ xs.length ∧ IRow wr 3 (some ⟨g, 0, none⟩) c (revd xs k) ∧ Fr [some g] w wr) (fun i _ _ => xs.length - (intOf i).toNat)
    case atStart => exact ⟨0, rfl, by simp, by omega, by rw [revd_zero]; exact hr, Fr.refl _ _⟩
    case round =>
      obtain ⟨k, rfl, rfl, hk, hrow, hf⟩ := hrel
      by_cases hlt : 2 * k + 1 < xs.length
      · have hci : wr.cell? ⟨g, k, none⟩ = some (.int .i64 (xs[k]'(by omega))) := by
          rw [World.ownsRow.cellAt hrow k (by rw [revd_len]; omega), ints_get _ _ (by rw [revd_len]; omega), revd_get xs k k (by omega) (by omega) (by omega)]
        have hcj : wr.cell? ⟨g, xs.length - 1 - k, none⟩ = some (.int .i64 (xs[xs.length - 1 - k]'(by omega))) := by
          rw [World.ownsRow.cellAt hrow _ (by rw [revd_len]; omega), ints_get _ _ (by rw [revd_len]; omega), revd_get xs k _ (by omega) (by omega) (by omega)]
        have hfi : wr.frozen? ⟨g, k, none⟩ = false := World.ownsRow.frozenAt hrow k
        have hfj : wr.frozen? ⟨g, xs.length - 1 - k, none⟩ = false := World.ownsRow.frozenAt hrow _
        have hst := revd_step xs k hlt
        obtain ⟨x, hx⟩ : ∃ x, x = xs[k]'(by omega) := ⟨_, rfl⟩
        obtain ⟨y, hy⟩ : ∃ y, y = xs[xs.length - 1 - k]'(by omega) := ⟨_, rfl⟩
        rw [← hx, ← hy] at hst
        rw [← hx] at hci
        rw [← hy] at hcj
        clear hx hy
        obtain ⟨q, hq⟩ : ∃ q, q = xs.length - 1 - k := ⟨_, rfl⟩
        rw [← hq] at hst hcj hfj
        have hqk : k < q := by omega
        have hqz : (xs.length : Int) - 1 - k = (q : Int) := by omega
        have hlq : q < xs.length := by omega
        rw [hqz]
        have HST := Lib.hid hst
        have HQ := Lib.hid hqz
        clear hst hq hqz
        go_wp2
        go_region
        all_goals
          go_wp2
          go_roundw
          case rel =>
            refine ⟨k + 1, by go_num, by have := HQ.out; simp; omega, by have := HQ.out; omega, ?_, ?_⟩
            · rw [← HST.out]
              have h1 := (hrow.set2 k y).set2 q x
              exact h1
            · first | exact ((hf.setB (g := g) (by simp) k _).setB (g := g) (by simp) q _).drew | exact (hf.setB (g := g) (by simp) k _).setB (g := g) (by simp) q _
          case measure => simp [intOf]; omega
      · go_wp2
        go_end0
        rw [revd_end xs k (by omega)] at hrow
        exact ⟨rfl, hrow, hf⟩

/-- The digits of a number below 10000. -/
def dg (n : Int) : List Int :=
  if 1000 ≤ n then [48 + n / 1000 % 10, 48 + n / 100 % 10, 48 + n / 10 % 10, 48 + n % 10]
  else if 100 ≤ n then [48 + n / 100 % 10, 48 + n / 10 % 10, 48 + n % 10]
  else if 10 ≤ n then [48 + n / 10 % 10, 48 + n % 10]
  else if 1 ≤ n then [48 + n % 10] else []
theorem dg_step (n : Int) (h1 : 1 ≤ n) (h2 : n ≤ 9999) : dg n = dg (n / 10) ++ [48 + n % 10] := by
  unfold dg
  by_cases a : 1000 ≤ n
  · rw [if_pos a, if_neg (by omega), if_pos (by omega)]
    simp; omega
  · rw [if_neg a]
    by_cases b : 100 ≤ n
    · rw [if_pos b, if_neg (by omega), if_neg (by omega), if_pos (by omega)]
      simp; omega
    · rw [if_neg b]
      by_cases c : 10 ≤ n
      · rw [if_pos c, if_neg (by omega), if_neg (by omega), if_neg (by omega), if_pos (by omega)]
        simp
      · rw [if_neg c, if_pos (by omega), if_neg (by omega), if_neg (by omega), if_neg (by omega), if_neg (by omega)]
        simp
theorem dg_zero : dg 0 = [] := rfl
theorem dg_len (n : Int) : (dg n).length ≤ 4 := by
  unfold dg
  repeat' split
  all_goals simp

set_option maxHeartbeats 800000 in
theorem digits_any (n : Int) (w : World) (h0 : 0 ≤ n) (h1 : n ≤ 9999) :
    Calls Try.prog 30 #[.int .i64 n] w fun e w' => ∃ A c, e = .returned (.slice A (dg n).length c) ∧ IRow w' 3 A c (dg n) ∧ Fr [] w w' ∧ (∀ j, bk A = some j → w.heap.size ≤ j) := by
  go_enter Try.func30, Try.ntmps30
  go_wp2
  go_loopw [0, 3] (fun i v wr => ∃ (m : Int) (xs : List Int) (A : Option Addr) (c : Nat), i = .int .i64 m ∧ v = .slice A xs.length c ∧ 0 ≤ m ∧ m ≤ 9999 ∧ xs.length ≤ 100000 - m.toNat ∧ IRow wr 3 A c xs ∧ dg n = dg m ++ xs.reverse ∧ Fr [] w wr ∧ (∀ j, bk A = some j → w.heap.size ≤ j)) (fun i _ _ => (intOf i).toNat)
  case atStart => exact ⟨n, [], none, 0, rfl, rfl, h0, h1, by simp, IRow.nil_ _ _, by simp, Fr.refl _ _, by intro j hj; cases hj⟩
  case round =>
    obtain ⟨m, xs, A, c, rfl, rfl, hm0, hm1, hxl, hrow, hdg, hf, hA⟩ := hrel
    by_cases hp : 0 < m
    · have hst := dg_step m (by omega) hm1
      have HD : Hid (dg n = dg (m / 10) ++ (xs ++ [48 + m % 10]).reverse) := by show _ = _; rw [hdg, hst]; simp
      have HA := Lib.hid hA
      clear hdg hst hA
      go_wp2_with (first | (at_builtin; go_must (
        refine wpList_app _ rfl _ _ 22 3 rfl (.int .i64 0) 1 8 Try.underlying22 info3 rfl (by decide) A c xs.length (ints xs) rfl (hrow.fr (Fr.alloc (Fr.refl [] wr) _) (.inr List.not_mem_nil)) _ 1 1 (ints [48 + m % 10]) rfl rfl (sl_new wr _ 3) (ints_one _) (by simp only [maxLen]; omega) (by omega) ?_
        intro A1 ca1 w3 hr3 hg3 hb3)))
      have hr4 : IRow w3 3 A1 ca1 (xs ++ [48 + m % 10]) := by simpa [IRow, ints] using hr3
      go_roundw
      case rel =>
        refine ⟨m / 10, xs ++ [48 + m % 10], A1, ca1, rfl, by simp, by omega, by omega, by simp; omega, hr4, HD.out, ?_, ?_⟩
        · refine (hf.alloc _).seq hg3 ?_
          intro x hx
          simp at hx; subst hx
          cases hb : bk A with
          | none => exact .inr (.inl rfl)
          | some j => exact .inr (.inr ⟨j, HA.out j hb, rfl⟩)
        · intro j hj
          rcases hb3 with h | h
          · exact HA.out j (h ▸ hj)
          · rw [h] at hj; injection hj with hj; simp at hj; have := hf.size; omega
      case measure => simp [intOf]; omega
    · obtain rfl : m = 0 := by omega
      have hxx : dg n = xs.reverse := by rw [hdg, dg_zero]; rfl
      have HX := Lib.hid hxx
      have HA := Lib.hid hA
      clear hdg hxx hA
      go_wp2_with fail
      refine (reverse_any A c xs _ hrow (by omega)).mono ?_
      rintro e w3 ⟨rfl, hr3, hg3⟩
      go_wp2
      go_ret
      rw [HX.out]
      refine ⟨A, c, by simp, hr3, hf.seq hg3 ?_, HA.out⟩
      intro x hx
      simp at hx; subst hx
      cases hb : bk A with
      | none => exact .inr (.inl rfl)
      | some j => exact .inr (.inr ⟨j, HA.out j hb, rfl⟩)

/-- A verb's keys. -/
def spl (v : Int) : List Int := if 256 ≤ v then [v / 256, v % 256] else [v]
theorem spelled_any (v : Int) (w : World) (hv : v ≤ 9223372036854775807) :
    Calls Try.prog 31 #[.int .i64 v] w fun e w' => ∃ A c, e = .returned (.slice A (spl v).length c) ∧ IRow w' 3 A c (spl v) ∧ Fr [] w w' ∧ (∀ j, bk A = some j → w.heap.size ≤ j) := by
  by_cases h : 256 ≤ v
  · have HS : Hid (spl v = [v / 256, v % 256]) := by show _ = _; simp [spl, h]
    go_enter Try.func31, Try.ntmps31
    go_wp2
    go_ret
    rw [HS.out]
    refine ⟨some ⟨w.heap.size, 0, none⟩, 2, rfl, ?_, (Fr.refl [] w).alloc _, by intro j hj; simp [bk] at hj; omega⟩
    exact World.ownsRow_lit (size := 1) w #[.int .i64 (v / 256), .int .i64 (v % 256)] 2 (Nat.zero_le _) (by decide) rfl
  · have HS : Hid (spl v = [v]) := by show _ = _; simp [spl, h]
    have h' : v < 256 := by omega
    go_enter Try.func31, Try.ntmps31
    go_wp2
    go_ret
    rw [HS.out]
    refine ⟨some ⟨w.heap.size, 0, none⟩, 1, rfl, ?_, (Fr.refl [] w).alloc _, by intro j hj; simp [bk] at hj; omega⟩
    exact World.ownsRow_lit (size := 1) w #[.int .i64 v] 1 (Nat.zero_le _) (by decide) rfl
end Go.Proofs.Ythhkannmeljfkaa
