import Derived.Test.YtgmnjbnlfpopgaaG9
namespace Go.Proofs.Ytgmnjbnlfpopgaa
open Go.RowKit Go.Proofs.Dm

/-- All but one. -/
def butI (S : List Int) (n : Int) : List Int := S.filter (fun y => y != n)
theorem but_hd {y n : Int} {S : List Int} (h : y ≠ n) : butI (y :: S) n = y :: butI S n := by
  unfold butI
  rw [List.filter_cons_of_pos (by simpa using h)]
theorem but_self {n : Int} {S : List Int} (hs : (n :: S).Pairwise (· < ·)) : butI (n :: S) n = S := by
  unfold butI
  rw [List.filter_cons_of_neg (by simp)]
  refine List.filter_eq_self.2 fun y hy => ?_
  have := (List.pairwise_cons.1 hs).1 y hy
  simp; omega
/-- What the two below the top have. -/
theorem below_min {L S : List Int} {m n : Int} (hH : Hp ltI (fl 0 L) L.length) (hp : L.Perm (n :: S)) (hs : (n :: S).Pairwise (· < ·)) (h0 : L.getD 0 0 = n) (h1 : 1 < L.length)
    (hm : ∃ k, 0 < k ∧ k < L.length ∧ L.getD k 0 = m) (hle : m ≤ L.getD 1 0 ∧ (2 < L.length → m ≤ L.getD 2 0)) : m = S.headD 0 ∧ S ≠ [] := by
  have hnd : L.Nodup := hp.nodup_iff.2 (nd_of_sd hs)
  obtain ⟨k, k0, kl, hk⟩ := hm
  have hmn : m ≠ n := fun e => by
    have := nodup_get hnd kl (by omega : 0 < L.length) (by rw [hk, h0, e])
    omega
  have hmS : m ∈ S := by
    have : m ∈ n :: S := hp.mem_iff.1 (hk ▸ getD_in kl)
    rcases List.mem_cons.1 this with h | h
    · exact absurd h hmn
    · exact h
  have hall : ∀ x ∈ S, m ≤ x := by
    intro x hx
    obtain ⟨i, hi, he⟩ := List.mem_iff_getElem.1 (hp.mem_iff.2 (List.mem_cons_of_mem n hx))
    have hg : L.getD i 0 = x := by simp [List.getD_eq_getElem?_getD, hi, he]
    have hi0 : 0 < i := by
      rcases Nat.eq_zero_or_pos i with h | h
      · subst h
        have := (List.pairwise_cons.1 hs).1 x hx
        omega
      · exact h
    obtain ⟨r, hr, hri, hlt⟩ := hp_below ltI_ord hH i hi0 hi
    have e1 : fl 0 L i = x := hg
    rw [e1] at hlt
    have h2 : L.getD r 0 ≤ x := Int.not_lt.1 (of_decide_eq_false (p := x < L.getD r 0) hlt)
    rcases hr with rfl | rfl
    · have := hle.1; omega
    · have := hle.2 (by omega); omega
  cases S with
  | nil => cases hmS
  | cons y S =>
    refine ⟨?_, by simp⟩
    simp only [List.headD_cons]
    have h1 := hall y (List.mem_cons_self ..)
    rcases List.mem_cons.1 hmS with h | h
    · exact h
    · have := (List.pairwise_cons.1 (List.pairwise_cons.1 hs).2).1 m h
      omega
set_option maxRecDepth 100000 in
theorem other_at (U : Nat → Prop) (w0 w : World) (g r : Nat) (S : List Int) (n : Int) (h : QAt U w0 w g r S) :
    Calls Try.prog 33 #[.pointer (some ⟨g, 0, none⟩), .int .i64 n] w fun e w' => e = .returned (.tuple #[.int .i64 ((butI S n).headD 0), .bool (decide (0 < (butI S n).length))]) ∧ Fr [] w w' := by
  have ht := top_at U w0 w g r S h
  obtain ⟨L, ⟨h1, h2, h3, h4, h5, h6, A, cap, m, bs, c, k1, k2, k3, k4, k5⟩, hH, hp, hs⟩ := h
  cases S with
  | nil =>
    have HT := Lib.hid ht
    clear ht h1 k1 k2 k3 k4 k5 hH hp hs h5
    go_enter Try.func33, Try.ntmps33
    go_wp2_with fail
    refine HT.out.mono ?_
    rintro e w1 ⟨rfl, rfl⟩
    go_wp2_with fail
    go_ret2
    exact ⟨rfl, Fr.refl _ _⟩
  | cons y S =>
    have hd : decide (0 < (y :: S).length) = true := by simp
    rw [hd] at ht
    by_cases hy : y = n
    · subst hy
      rw [but_self hs]
      have hpl := hp.length_eq
      have hl0 : 0 < L.length := by rw [hpl]; simp
      have htop := qtop hH hp hs hl0
      have hcap := ORow.cap k2
      have hsm := ORow.small k2
      obtain ⟨b, rfl⟩ := orow_some k2 (ints_ne (i := 0) hl0)
      have c0 : w.cell? ⟨g, 0, none⟩ = some (.slice (some ⟨b, 0, none⟩) L.length cap) := k1.cell 0
      have hgl := k1.lt
      have hcell : ∀ k, k < L.length → w.cell? ⟨b, k, none⟩ = some (.int .i64 (L.getD k 0)) := fun k hk => by
        rw [World.ownsRow.cellAt k2 _ (by omega), ints_get _ _ hk]; simp [List.getD_eq_getElem?_getD, hk]
      have htop' : L.getD 0 0 = y := htop
      have hbm := fun m hm hle h1 => below_min (m := m) hH hp hs htop' h1 hm hle
      have HBM := Lib.hid hbm
      have HT := Lib.hid ht
      have hlc : L.length = 1 ∨ L.length = 2 ∨ 3 ≤ L.length := by omega
      have hpl' : S.length + 1 = L.length := by rw [hpl]; rfl
      clear hbm ht h1 k1 k2 k3 k4 k5 hH hp hs h5 hd htop htop' hpl
      rcases hlc with hl | hl | hl
      · obtain rfl : S = [] := List.eq_nil_of_length_eq_zero (by omega)
        rw [hl] at c0 hcap
        clear hpl' hl hl0 hcell
        by_cases hc : cap = 1
        · subst hc
          go_enter Try.func33, Try.ntmps33
          go_wp2_with fail
          refine HT.out.mono ?_
          rintro e w1 ⟨rfl, rfl⟩
          go_wp2_with fail
          go_region
          go_wp2
          go_ret2
          exact ⟨rfl, (Fr.refl _ _).drew⟩
        · go_enter Try.func33, Try.ntmps33
          go_wp2_with fail
          refine HT.out.mono ?_
          rintro e w1 ⟨rfl, rfl⟩
          go_wp2_with fail
          go_region
          go_wp2
          go_ret2
          exact ⟨rfl, (Fr.refl _ _).drew⟩
      · have hc1 : ¬ cap = 1 := by omega
        obtain ⟨e1, e2⟩ := HBM.out (L.getD 1 0) ⟨1, by omega, by omega, rfl⟩ ⟨Int.le_refl _, fun h => by omega⟩ (by omega)
        have hS1 : S.length = 1 := by omega
        have hmin := Try.slices_Min_int b 1 1 (cap - 1) [L.getD 1 0] w.drew (by omega) (by simp) (by omega) (fun j hj => by
          obtain rfl : j = 0 := by simpa using hj
          exact hcell 1 (by omega))
        rw [e1] at hmin
        rw [hl] at c0 hcap
        obtain ⟨x, hx⟩ : ∃ x, x = S.headD 0 := ⟨_, rfl⟩
        rw [← hx] at hmin ⊢
        rw [hS1]
        have hmv : Go.Lib.minOf ([x].take 1) = x := by simp [Go.Lib.minOf]
        rw [hmv] at hmin
        have HM := Lib.hid hmin
        clear hmin hmv hpl' hl hl0 hcell hx e1 e2 hS1
        go_enter Try.func33, Try.ntmps33
        go_wp2_with fail
        refine HT.out.mono ?_
        rintro e w1 ⟨rfl, rfl⟩
        go_wp2_with fail
        go_region
        go_wp2_with fail
        refine HM.out.mono ?_
        rintro e w2 ⟨rfl, rfl⟩
        go_wp2_with fail
        go_ret2
        exact ⟨rfl, (Fr.refl _ _).drew⟩
      · have hc1 : ¬ cap = 1 := by omega
        obtain ⟨M, hM⟩ : ∃ M, M = Go.Lib.minOf ([L.getD 1 0, L.getD 2 0].take 2) := ⟨_, rfl⟩
        have hMv : M = min (L.getD 1 0) (L.getD 2 0) := by rw [hM]; simp [Go.Lib.minOf]
        obtain ⟨e1, e2⟩ := HBM.out M (by
          rcases Int.le_total (L.getD 1 0) (L.getD 2 0) with h | h
          · exact ⟨1, by omega, by omega, by rw [hMv]; omega⟩
          · exact ⟨2, by omega, by omega, by rw [hMv]; omega⟩) ⟨by rw [hMv]; omega, fun _ => by rw [hMv]; omega⟩ (by omega)
        have hS1 : decide (0 < S.length) = true := by simp; omega
        have hmin := Try.slices_Min_int b 1 2 (cap - 1) [L.getD 1 0, L.getD 2 0] w.drew (by omega) (by simp) (by omega) (fun j hj => by
          have hj2 : j < 2 := by simpa using hj
          rcases (by omega : j = 0 ∨ j = 1) with rfl | rfl
          · exact hcell 1 (by omega)
          · exact hcell 2 (by omega))
        rw [← hM, e1] at hmin
        obtain ⟨x, hx⟩ : ∃ x, x = S.headD 0 := ⟨_, rfl⟩
        rw [← hx] at hmin ⊢
        rw [hS1]
        have HM := Lib.hid hmin
        have hm3 : min (3 : Int) (L.length : Int) = 3 := by omega
        clear hmin hM hMv hpl' hl0 hcell hx e1 e2 hS1
        go_enter Try.func33, Try.ntmps33
        go_wp2_with fail
        refine HT.out.mono ?_
        rintro e w1 ⟨rfl, rfl⟩
        go_wp2_with fail
        go_region
        go_wp2_with fail
        refine HM.out.mono ?_
        rintro e w2 ⟨rfl, rfl⟩
        go_wp2_with fail
        go_ret2
        exact ⟨rfl, (Fr.refl _ _).drew⟩
    · rw [but_hd hy]
      have HT := Lib.hid ht
      clear ht h1 k1 k2 k3 k4 k5 hH hp hs h5 hd
      go_enter Try.func33, Try.ntmps33
      go_wp2_with fail
      refine HT.out.mono ?_
      rintro e w1 ⟨rfl, rfl⟩
      go_wp2_with fail
      go_ret2
      exact ⟨by simp, Fr.refl _ _⟩
end Go.Proofs.Ytgmnjbnlfpopgaa
