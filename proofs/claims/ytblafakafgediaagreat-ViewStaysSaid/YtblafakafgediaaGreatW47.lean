import Derived.Test.YtblafakafgediaaGreatW46
import Derived.Deep.LoopGhost
namespace Go.Proofs.YtblafakafgediaaGreat
open Go.RowKit Go.Proofs.Dm

theorem strV_at {w : World} {A : Option Addr} {l : List (List UInt8)} (h : Sl w A (strV l)) {j : Nat} (hj : j < l.length) : ∃ ad, A = some ad ∧ w.cell? (ad.add j) = some (.string ⟨l[j].toArray⟩) := by
  have hg : (strV l)[j]? = some (.string ⟨l[j].toArray⟩) := by
    unfold strV
    rw [List.getElem?_map, List.getElem?_eq_getElem hj]
    rfl
  obtain ⟨ad, hA, _, hc⟩ := h.at_ hg
  exact ⟨ad, hA, hc⟩
theorem partV_at {w : World} {A : Option Addr} {ps : List Part} (h : Sl w A (partV ps)) {j : Nat} (hj : j < ps.length) : ∃ ad, A = some ad ∧ w.cell? (ad.add j) = some (.slice ps[j].A ps[j].n ps[j].c) := by
  have hg : (partV ps)[j]? = some (.slice ps[j].A ps[j].n ps[j].c) := by
    unfold partV
    rw [List.getElem?_map, List.getElem?_eq_getElem hj]
    rfl
  obtain ⟨ad, hA, _, hc⟩ := h.at_ hg
  exact ⟨ad, hA, hc⟩
/-- Rows of texts, as they lie. -/
def TxAt (w : World) (A : Option Addr) (ps : List Part) (ls : List (List (List UInt8))) : Prop :=
  Sl w A (partV ps) ∧ ps.map (·.cs) = ls.map strV ∧ ∀ p ∈ ps, p.n = p.cs.length ∧ Sl w p.A p.cs
theorem TxAt.fr0 {w w' : World} {A : Option Addr} {ps : List Part} {ls : List (List (List UInt8))} (h : TxAt w A ps ls) (hf : Fr [] w w') : TxAt w' A ps ls :=
  ⟨h.1.fr hf (.inr List.not_mem_nil), h.2.1, fun p hp => ⟨(h.2.2 p hp).1, (h.2.2 p hp).2.fr hf (.inr List.not_mem_nil)⟩⟩
theorem TxAt.at_ {w : World} {A : Option Addr} {ps : List Part} {ls : List (List (List UInt8))} (h : TxAt w A ps ls) {j : Nat} (hj : j < ls.length) :
    ∃ (ad : Addr) (B : Option Addr) (c : Nat), A = some ad ∧ w.cell? (ad.add j) = some (.slice B ls[j].length c) ∧ Sl w B (strV ls[j]) := by
  have hl : ps.length = ls.length := by have := congrArg List.length h.2.1; rwa [List.length_map, List.length_map] at this
  obtain ⟨ad, hA, hc⟩ := partV_at h.1 (j := j) (by omega)
  have hcs : ps[j].cs = strV ls[j] := by
    have h1 : (ps.map (·.cs))[j]? = (ls.map strV)[j]? := by rw [h.2.1]
    rw [List.getElem?_map, List.getElem?_map, List.getElem?_eq_getElem (by omega), List.getElem?_eq_getElem hj] at h1
    injection h1
  obtain ⟨q1, q2⟩ := h.2.2 ps[j] (List.getElem_mem (by omega))
  rw [hcs] at q1 q2
  rw [strV_len] at q1
  exact ⟨ad, ps[j].A, ps[j].c, hA, by rw [hc, q1], q2⟩
set_option maxRecDepth 100000 in
set_option maxHeartbeats 1600000 in
theorem sameT_yes (w : World) (A B : Option Addr) (n c d : Nat) (ps qs : List Part) (ls : List (List (List UInt8))) (hA : TxAt w A ps ls) (hB : TxAt w B qs ls) (hn : n = ls.length) (h6 : n ≤ 1000000) (hl6 : ∀ l ∈ ls, l.length ≤ 1000000) :
    Calls Tryz.prog 23 #[.slice A n c, .slice B n d] w fun e w' => e = .returned (.bool true) ∧ Fr [] w w' := by
  have HA := Lib.hid hA
  have HB := Lib.hid hB
  have HN := Lib.hid hn
  have HL := Lib.hid hl6
  have h61 : (n : Int) ≤ 1000000 := by omega
  clear hA hB hn h6 hl6
  go_enter Tryz.func23, Tryz.ntmps23
  go_wp2_with fail
  go_loopg [14] n (fun gk iv wr => ∃ j : Nat, gk + j = n ∧ iv = .int .i64 j ∧ Hid (Fr [] w wr))
  case atStart => exact ⟨0, by omega, rfl, Fr.refl _ _⟩
  case round =>
    obtain ⟨j, hj, rfl, HF⟩ := hrel
    obtain ⟨wo, rfl⟩ : ∃ wo, wo = wr := ⟨_, rfl⟩
    by_cases hlt : j < n
    · have hjl : j < ls.length := by rw [← HN.out]; exact hlt
      obtain ⟨ad, A1, c1, rfl, hca, hsa⟩ := (HA.out.fr0 HF.out).at_ hjl
      obtain ⟨bd, B1, d1, rfl, hcb, hsb⟩ := (HB.out.fr0 HF.out).at_ hjl
      obtain ⟨t, ht⟩ : ∃ t, t = ls[j] := ⟨_, rfl⟩
      rw [← ht] at hca hsa hcb hsb
      obtain ⟨m, hm⟩ : ∃ m, m = t.length := ⟨_, rfl⟩
      rw [← hm] at hca hcb
      have hm6 : (m : Int) ≤ 1000000 := by have := HL.out t (by rw [ht]; exact List.getElem_mem hjl); omega
      have HM := Lib.hid hm
      have HSA := Lib.hid hsa
      have HSB := Lib.hid hsb
      have hj0 : (0 : Int) ≤ (j : Int) := by omega
      have hj1 : (j : Int) < (n : Int) := by omega
      have hmm : ((m : Int) != (m : Int)) = false := by simp
      have HCA : Hid (∀ w', Fr [] wo w' → w'.cell? (ad.add j) = some (.slice A1 m c1) ∧ w'.cell? (bd.add j) = some (.slice B1 m d1)) := by
        show ∀ _, _
        intro w' hf
        exact ⟨(hf.cell (World.block_lt_of_cell? _ _ hca) List.not_mem_nil).trans hca, (hf.cell (World.block_lt_of_cell? _ _ hcb) List.not_mem_nil).trans hcb⟩
      clear ht hm hjl hsa hsb
      go_wp2_with fail
      go_quiet (fail)
      obtain ⟨w2, hw2⟩ : ∃ w2, w2 = wo.drewN nq := ⟨_, rfl⟩
      rw [← hw2]
      have HF2 : Hid (Fr [] wo w2) := by show Fr _ _ _; rw [hw2]; exact (Fr.refl [] wo).drewN nq
      clear hw2 hca hcb
      obtain ⟨ca, cb⟩ := HCA.out w2 HF2.out
      go_wp2_with fail
      go_loopg [33] m (fun gk iv wr => ∃ i : Nat, gk + i = m ∧ iv = .int .i64 i ∧ Hid (Fr [] w2 wr))
      case atStart => exact ⟨0, by omega, rfl, Fr.refl _ _⟩
      case round =>
        obtain ⟨i, hi, rfl, HG⟩ := hrel
        clear ca cb
        obtain ⟨ca, cb⟩ := HCA.out wr (HF2.out.trans HG.out)
        by_cases hlt2 : i < m
        · have hil : i < t.length := by rw [← HM.out]; exact hlt2
          obtain ⟨ae, rfl, hxa⟩ := strV_at (HSA.out.fr (HF2.out.trans HG.out) (.inr List.not_mem_nil)) hil
          obtain ⟨be, rfl, hxb⟩ := strV_at (HSB.out.fr (HF2.out.trans HG.out) (.inr List.not_mem_nil)) hil
          obtain ⟨x, hx⟩ : ∃ x : ByteArray, x = ⟨t[i].toArray⟩ := ⟨_, rfl⟩
          rw [← hx] at hxa hxb
          have hi0 : (0 : Int) ≤ (i : Int) := by omega
          have hi1 : (i : Int) < (m : Int) := by omega
          clear hx hil
          go_wp2_with fail
          go_quiet (fail)
          have HG2 : Hid (Fr [] w2 (wr.drewN nq)) := HG.out.trans ((Fr.refl [] wr).drewN nq)
          go_wp2_with fail
          go_roundg (m - (i + 1))
          case rel => exact ⟨i + 1, by omega, by go_num, HG2.out⟩
          case measure => omega
        · obtain rfl : i = m := by omega
          have HF3 : Hid (Fr [] w wr) := (HF.out.trans HF2.out).trans HG.out
          go_wp2_with fail
          go_roundg (n - (j + 1))
          case rel => exact ⟨j + 1, by omega, by go_num, HF3.out⟩
          case measure => omega
    · obtain rfl : j = n := by omega
      go_wp2_with fail
      go_ret
      exact ⟨rfl, HF.out⟩
end Go.Proofs.YtblafakafgediaaGreat
namespace Go.Proofs.YtblafakafgediaaGreat
open Go.RowKit Go.Proofs.Dm

/-- A number, held between one and the most. -/
def ClampI (v : Int) (most r : Int) : Prop := (v < 1 ∧ r = 1) ∨ (1 ≤ v ∧ v ≤ most ∧ v = r) ∨ (most < v ∧ r = most)
theorem clamp_is (v most : Int) (h : 1 ≤ most) : ∃ r, ClampI v most r := by
  by_cases h1 : v < 1
  · exact ⟨1, .inl ⟨h1, rfl⟩⟩
  · by_cases h2 : most < v
    · exact ⟨most, .inr (.inr ⟨h2, rfl⟩)⟩
    · exact ⟨v, .inr (.inl ⟨by omega, by omega, rfl⟩)⟩
set_option maxHeartbeats 1600000 in
theorem viewnew_any (w : World) (h x hv xv : Int) (hh : ClampI h 400 hv) (hx : ClampI x 40 xv) :
    Calls Tryz.prog 66 #[.int .i64 h, .int .i64 x] w fun e w' => e = .returned (.agg #[.int .i64 0, .int .i64 0, .int .i64 hv, .int .i64 xv]) ∧ Fr [] w w' := by
  have HF : Hid (∀ (u0 u1 u2 u3 : Value) (o : Obj), Fr [] w (((((w.alloc o).setCell ⟨w.heap.size, 0, none⟩ u0).setCell ⟨w.heap.size, 1, none⟩ u1).setCell ⟨w.heap.size, 2, none⟩ u2).setCell ⟨w.heap.size, 3, none⟩ u3)) := by
    show ∀ _, _
    intro u0 u1 u2 u3 o
    have hy : w.heap.size < w.heap.size → some w.heap.size ∈ ([] : List (Option Nat)) := fun h => absurd h (by omega)
    exact (((((Fr.refl [] w).alloc o).setB hy _ _).setB hy _ _).setB hy _ _).setB hy _ _
  rcases hh with ⟨h1, rfl⟩ | ⟨h1, h2, rfl⟩ | ⟨h1, rfl⟩
  · rcases hx with ⟨x1, rfl⟩ | ⟨x1, x2, rfl⟩ | ⟨x1, rfl⟩
    · have p1 : h < 1 := by omega
      have q1 : x < 1 := by omega
      go_enter Tryz.func66, Tryz.ntmps66
      go_wp2_with fail
      refine bodyPost_ret (v := .agg #[.int .i64 0, .int .i64 0, .int .i64 1, .int .i64 1]) (by simp [results, Tryz.results66, go_sem, *]) rfl ?_
      exact ⟨rfl, by first | exact (Fr.refl [] w).alloc _ | exact HF.out _ _ _ _ _⟩
    · have p1 : h < 1 := by omega
      have q1 : ¬ x < 1 := by omega
      have q2 : ¬ (40 : Int) < x := by omega
      go_enter Tryz.func66, Tryz.ntmps66
      go_wp2_with fail
      refine bodyPost_ret (v := .agg #[.int .i64 0, .int .i64 0, .int .i64 1, .int .i64 x]) (by simp [results, Tryz.results66, go_sem, *]) rfl ?_
      exact ⟨rfl, by first | exact (Fr.refl [] w).alloc _ | exact HF.out _ _ _ _ _⟩
    · have p1 : h < 1 := by omega
      have q1 : ¬ x < 1 := by omega
      have q2 : (40 : Int) < x := by omega
      go_enter Tryz.func66, Tryz.ntmps66
      go_wp2_with fail
      refine bodyPost_ret (v := .agg #[.int .i64 0, .int .i64 0, .int .i64 1, .int .i64 40]) (by simp [results, Tryz.results66, go_sem, *]) rfl ?_
      exact ⟨rfl, by first | exact (Fr.refl [] w).alloc _ | exact HF.out _ _ _ _ _⟩
  · rcases hx with ⟨x1, rfl⟩ | ⟨x1, x2, rfl⟩ | ⟨x1, rfl⟩
    · have p1 : ¬ h < 1 := by omega
      have p2 : ¬ (400 : Int) < h := by omega
      have q1 : x < 1 := by omega
      go_enter Tryz.func66, Tryz.ntmps66
      go_wp2_with fail
      refine bodyPost_ret (v := .agg #[.int .i64 0, .int .i64 0, .int .i64 h, .int .i64 1]) (by simp [results, Tryz.results66, go_sem, *]) rfl ?_
      exact ⟨rfl, by first | exact (Fr.refl [] w).alloc _ | exact HF.out _ _ _ _ _⟩
    · have p1 : ¬ h < 1 := by omega
      have p2 : ¬ (400 : Int) < h := by omega
      have q1 : ¬ x < 1 := by omega
      have q2 : ¬ (40 : Int) < x := by omega
      go_enter Tryz.func66, Tryz.ntmps66
      go_wp2_with fail
      refine bodyPost_ret (v := .agg #[.int .i64 0, .int .i64 0, .int .i64 h, .int .i64 x]) (by simp [results, Tryz.results66, go_sem, *]) rfl ?_
      exact ⟨rfl, by first | exact (Fr.refl [] w).alloc _ | exact HF.out _ _ _ _ _⟩
    · have p1 : ¬ h < 1 := by omega
      have p2 : ¬ (400 : Int) < h := by omega
      have q1 : ¬ x < 1 := by omega
      have q2 : (40 : Int) < x := by omega
      go_enter Tryz.func66, Tryz.ntmps66
      go_wp2_with fail
      refine bodyPost_ret (v := .agg #[.int .i64 0, .int .i64 0, .int .i64 h, .int .i64 40]) (by simp [results, Tryz.results66, go_sem, *]) rfl ?_
      exact ⟨rfl, by first | exact (Fr.refl [] w).alloc _ | exact HF.out _ _ _ _ _⟩
  · rcases hx with ⟨x1, rfl⟩ | ⟨x1, x2, rfl⟩ | ⟨x1, rfl⟩
    · have p1 : ¬ h < 1 := by omega
      have p2 : (400 : Int) < h := by omega
      have q1 : x < 1 := by omega
      go_enter Tryz.func66, Tryz.ntmps66
      go_wp2_with fail
      refine bodyPost_ret (v := .agg #[.int .i64 0, .int .i64 0, .int .i64 400, .int .i64 1]) (by simp [results, Tryz.results66, go_sem, *]) rfl ?_
      exact ⟨rfl, by first | exact (Fr.refl [] w).alloc _ | exact HF.out _ _ _ _ _⟩
    · have p1 : ¬ h < 1 := by omega
      have p2 : (400 : Int) < h := by omega
      have q1 : ¬ x < 1 := by omega
      have q2 : ¬ (40 : Int) < x := by omega
      go_enter Tryz.func66, Tryz.ntmps66
      go_wp2_with fail
      refine bodyPost_ret (v := .agg #[.int .i64 0, .int .i64 0, .int .i64 400, .int .i64 x]) (by simp [results, Tryz.results66, go_sem, *]) rfl ?_
      exact ⟨rfl, by first | exact (Fr.refl [] w).alloc _ | exact HF.out _ _ _ _ _⟩
    · have p1 : ¬ h < 1 := by omega
      have p2 : (400 : Int) < h := by omega
      have q1 : ¬ x < 1 := by omega
      have q2 : (40 : Int) < x := by omega
      go_enter Tryz.func66, Tryz.ntmps66
      go_wp2_with fail
      refine bodyPost_ret (v := .agg #[.int .i64 0, .int .i64 0, .int .i64 400, .int .i64 40]) (by simp [results, Tryz.results66, go_sem, *]) rfl ?_
      exact ⟨rfl, by first | exact (Fr.refl [] w).alloc _ | exact HF.out _ _ _ _ _⟩
end Go.Proofs.YtblafakafgediaaGreat
