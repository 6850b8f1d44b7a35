import Derived.Test.YtblafakafgediaaGreatS47
import Derived.Test.YtblafakafgediaaGreatS31
import Derived.Test.YtblafakafgediaaGreatS49
import Derived.Test.YtblafakafgediaaGreatS50
namespace Go.Proofs.YtblafakafgediaaGreat
open Go.RowKit Go.Proofs.Dm

theorem closHigh_any (w : World) (a b r : Int) (h0 : 0 ≤ a) (h1 : 0 ≤ b) (h2 : a ≤ 1000) (h3 : b ≤ 1000) (hr : r = b - 1) : Calls Tryz.prog 73 #[.int .i64 a, .int .i64 b] w fun en w' => en = .returned (.int .i64 r) ∧ Fr [] w w' := by
  subst hr
  have hw : IntKind.i64.wrap (b - 1) = b - 1 := IntWalk.i64_in _ (by omega)
  clear h0 h1 h2 h3
  go_enter Tryz.func73, Tryz.ntmps73
  go_wp2_with fail
  go_ret
  exact ⟨rfl, Fr.refl _ _⟩
set_option maxRecDepth 100000 in
set_option maxHeartbeats 3200000 in
theorem seenHigh_any (w : World) (p : Option Addr) (tl : Bool) (eo top left wid pr pc n : Int) (hh R C : Nat) (L : List Int)
    (HST : Hid (∀ w', Fr [] w w' → Calls Tryz.prog 15 #[.agg #[.pointer p, .bool tl, .int .i64 eo], .agg #[.int .i64 pr, .int .i64 pc]] w' fun en w'' => en = .returned (.agg #[.int .i64 (R : Nat), .int .i64 (C : Nat)]) ∧ Fr [] w' w''))
    (HRW : Hid (∀ w', Fr [] w w' → Calls Tryz.prog 18 #[.agg #[.int .i64 top, .int .i64 left, .int .i64 (hh : Nat), .int .i64 wid], .agg #[.pointer p, .bool tl, .int .i64 eo]] w' (IntsA w' L))) (HLL : Hid (L.length ≤ 400)) :
    Calls Tryz.prog 72 #[.agg #[.int .i64 top, .int .i64 left, .int .i64 (hh : Nat), .int .i64 wid], .agg #[.pointer p, .bool tl, .int .i64 eo], .agg #[.int .i64 pr, .int .i64 pc], .int .i64 n, .func (.func 73) #[] #[]] w fun en w' => en = .returned (.agg #[.int .i64 (highI (R : Nat) L n), .int .i64 (C : Nat)]) ∧ Fr [] w w' := by
  obtain ⟨W1, hW1⟩ : ∃ W1, W1 = (((w.alloc (.cells #[.int .i64 top, .int .i64 left, .int .i64 (hh : Nat), .int .i64 wid] 40)).alloc (.cells #[.pointer p, .bool tl, .int .i64 eo] TGr)).alloc (.cells #[.int .i64 pr, .int .i64 pc] 45)).alloc (.cells #[.int .i64 0, .int .i64 0] 45) := ⟨_, rfl⟩
  obtain ⟨VB, hVB⟩ : ∃ VB, VB = w.heap.size := ⟨_, rfl⟩
  obtain ⟨GB, hGB⟩ : ∃ GB, GB = w.heap.size + 1 := ⟨_, rfl⟩
  obtain ⟨PB, hPB⟩ : ∃ PB, PB = w.heap.size + 1 + 1 := ⟨_, rfl⟩
  obtain ⟨RB, hRB⟩ : ∃ RB, RB = w.heap.size + 1 + 1 + 1 := ⟨_, rfl⟩
  have HF : Hid (Fr [] w W1 ∧ Blk W1 VB 40 #[.int .i64 top, .int .i64 left, .int .i64 (hh : Nat), .int .i64 wid] ∧ Blk W1 GB TGr #[.pointer p, .bool tl, .int .i64 eo] ∧ Blk W1 PB 45 #[.int .i64 pr, .int .i64 pc] ∧ Blk W1 RB 45 #[.int .i64 0, .int .i64 0]) := by
    have b1 := Blk.new (w.alloc (.cells #[.int .i64 top, .int .i64 left, .int .i64 (hh : Nat), .int .i64 wid] 40)) TGr #[.pointer p, .bool tl, .int .i64 eo]
    have b2 := Blk.new ((w.alloc (.cells #[.int .i64 top, .int .i64 left, .int .i64 (hh : Nat), .int .i64 wid] 40)).alloc (.cells #[.pointer p, .bool tl, .int .i64 eo] TGr)) 45 #[.int .i64 pr, .int .i64 pc]
    have b3 := Blk.new (((w.alloc (.cells #[.int .i64 top, .int .i64 left, .int .i64 (hh : Nat), .int .i64 wid] 40)).alloc (.cells #[.pointer p, .bool tl, .int .i64 eo] TGr)).alloc (.cells #[.int .i64 pr, .int .i64 pc] 45)) 45 #[.int .i64 0, .int .i64 0]
    simp only [World.size_alloc] at b1 b2 b3
    rw [hW1, hVB, hGB, hPB, hRB]
    exact ⟨((((Fr.refl [] w).alloc _).alloc _).alloc _).alloc _, (((Blk.new w _ _).alloc _).alloc _).alloc _, (b1.alloc _).alloc _, b2.alloc _, b3⟩
  have HNB : Hid (VB = w.heap.size ∧ GB = w.heap.size + 1 ∧ PB = w.heap.size + 1 + 1 ∧ RB = w.heap.size + 1 + 1 + 1) := ⟨hVB, hGB, hPB, hRB⟩
  have HC : Hid (∀ w', Fr [some PB] W1 w' → w'.cell? ⟨VB, 0, none⟩ = some (.int .i64 top) ∧ w'.cell? ⟨VB, 1, none⟩ = some (.int .i64 left) ∧ w'.cell? ⟨VB, 2, none⟩ = some (.int .i64 (hh : Nat)) ∧ w'.cell? ⟨VB, 3, none⟩ = some (.int .i64 wid) ∧ w'.cell? ⟨GB, 0, none⟩ = some (.pointer p) ∧ w'.cell? ⟨GB, 1, none⟩ = some (.bool tl) ∧ w'.cell? ⟨GB, 2, none⟩ = some (.int .i64 eo) ∧ w'.cell? ⟨RB, 0, none⟩ = some (.int .i64 0) ∧ w'.cell? ⟨RB, 1, none⟩ = some (.int .i64 0) ∧ w'.frozen? ⟨RB, 0, none⟩ = false ∧ w'.frozen? ⟨RB, 1, none⟩ = false ∧ RB < w'.heap.size) := by
    show ∀ _, _
    intro w' hf
    have h1 := HF.out.2.1.fr hf (by have := HNB.out; simp; omega)
    have h2 := HF.out.2.2.1.fr hf (by have := HNB.out; simp; omega)
    have h3 := HF.out.2.2.2.2.fr hf (by have := HNB.out; simp; omega)
    exact ⟨h1.cell 0, h1.cell 1, h1.cell 2, h1.cell 3, h2.cell 0, h2.cell 1, h2.cell 2, h3.cell 0, h3.cell 1, h3.frozen 0, h3.frozen 1, h3.lt⟩
  have HFW : Hid (∀ w2, Fr [some PB] W1 w2 → Fr [] w w2) := by
    show ∀ _, _
    intro w2 hf
    exact HF.out.1.seq hf fun z hz => by rw [List.mem_singleton] at hz; exact .inr (.inr ⟨PB, by have := HNB.out; omega, hz⟩)
  have HFIN : Hid (∀ w2 v0 v1, Fr [some PB] W1 w2 → Fr [] w ((w2.setCell ⟨RB, 0, none⟩ v0).setCell ⟨RB, 1, none⟩ v1)) := by
    show ∀ _, _
    intro w2 v0 v1 hf
    exact ((HFW.out w2 hf).setB (fun h => absurd h (by have := HNB.out; omega)) _ _).setB (fun h => absurd h (by have := HNB.out; omega)) _ _
  have HW1 := Lib.hid hW1
  clear hW1
  go_enter Tryz.func72, Tryz.ntmps72
  go_wp2_with fail
  rw [← HW1.out, ← hRB, ← hPB, ← hGB, ← hVB]
  obtain ⟨v0, v1, v2, v3, g0, g1, g2, r0, r1, z0, z1, lr⟩ := HC.out W1 (Fr.refl _ _)
  have p0 : W1.cell? ⟨PB, 0, none⟩ = some (.int .i64 pr) := HF.out.2.2.2.1.cell 0
  have p1 : W1.cell? ⟨PB, 1, none⟩ = some (.int .i64 pc) := HF.out.2.2.2.1.cell 1
  clear hVB hGB hPB hRB v0 v1 v2 v3 r0 r1 z0 z1 lr
  go_wp2_with fail
  refine (HST.out W1 HF.out.1).mono ?_
  rintro en w2 ⟨rfl, hf2⟩
  have hb2 := HF.out.2.2.2.1.fr hf2 (by simp)
  have p0 : w2.cell? ⟨PB, 0, none⟩ = some (.int .i64 pr) := hb2.cell 0
  have p1 : w2.cell? ⟨PB, 1, none⟩ = some (.int .i64 pc) := hb2.cell 1
  have y0 := hb2.frozen 0
  have y1 := hb2.frozen 1
  have lp := hb2.lt
  have HP2 : Hid (Blk ((w2.setCell ⟨PB, 0, none⟩ (.int .i64 (R : Nat))).setCell ⟨PB, 1, none⟩ (.int .i64 (C : Nat))) PB 45 #[.int .i64 (R : Nat), .int .i64 (C : Nat)] ∧ Fr [some PB] W1 ((w2.setCell ⟨PB, 0, none⟩ (.int .i64 (R : Nat))).setCell ⟨PB, 1, none⟩ (.int .i64 (C : Nat)))) := ⟨by simpa using (hb2.set_ 0 (.int .i64 (R : Nat))).set_ 1 (.int .i64 (C : Nat)), (hf2.of_nil.setB (fun _ => by simp) _ _).setB (fun _ => by simp) _ _⟩
  obtain ⟨v0, v1, v2, v3, g0, g1, g2, r0, r1, z0, z1, lr⟩ := HC.out w2 hf2.of_nil
  have n1 : ¬ VB = PB := by have := HNB.out; omega
  have n2 : ¬ GB = PB := by have := HNB.out; omega
  have n3 : ¬ PB = RB := by have := HNB.out; omega
  clear HST hf2 hb2 r0 r1 z0 z1 lr
  go_wp2_with fail
  obtain ⟨W3, hW3⟩ : ∃ W3, W3 = (w2.setCell ⟨PB, 0, none⟩ (.int .i64 (R : Nat))).setCell ⟨PB, 1, none⟩ (.int .i64 (C : Nat)) := ⟨_, rfl⟩
  rw [← hW3] at HP2 ⊢
  clear hW3 v0 v1 v2 v3 g0 g1 g2 p0 p1 y0 y1 lp n1 n2
  refine (HRW.out W3 (HFW.out W3 HP2.out.2)).mono ?_
  rintro en w4 ⟨B4, n4, c4, rfl, hn4, hs4, hf4⟩
  have HS4 : Hid (Sl w4 B4 (intsV L) ∧ n4 = L.length) := ⟨hs4, hn4⟩
  have HP4 : Hid (Blk w4 PB 45 #[.int .i64 (R : Nat), .int .i64 (C : Nat)] ∧ Fr [some PB] W1 w4) := ⟨HP2.out.1.fr hf4 (by simp), HP2.out.2.trans hf4.of_nil⟩
  have hn6 : (n4 : Int) ≤ 400 := by have := HLL.out; omega
  clear hn4 hs4 hf4 HP2 HRW
  by_cases h0 : n4 = 0
  · have HLN : Hid (L = []) := List.eq_nil_of_length_eq_zero (by have := HS4.out; omega)
    have h1 : ¬ (0 : Int) < (n4 : Int) := by omega
    obtain ⟨_, _, _, _, _, _, _, r0, r1, z0, z1, lr⟩ := HC.out w4 HP4.out.2
    have p0 : w4.cell? ⟨PB, 0, none⟩ = some (.int .i64 (R : Nat)) := HP4.out.1.cell 0
    have p1 : w4.cell? ⟨PB, 1, none⟩ = some (.int .i64 (C : Nat)) := HP4.out.1.cell 1
    clear h0
    go_wp2_with fail
    refine bodyPost_ret (v := .agg #[.int .i64 (R : Nat), .int .i64 (C : Nat)]) (by simp [results, Tryz.results72, go_sem, *]) rfl ?_
    exact ⟨by rw [HLN.out]; rfl, HFIN.out _ _ _ HP4.out.2⟩
  · have h1 : (0 : Int) < (n4 : Int) := by omega
    by_cases k1 : n < 1
    · have k2 : ¬ (n4 : Int) < 1 := by omega
      obtain ⟨i, hi⟩ : ∃ i : Nat, (i : Int) = 1 - 1 := ⟨(1 - 1 : Int).toNat, by omega⟩
      have HMN : Hid ((i : Int) = 1 - 1 ∧ i < n4 ∧ highI (R : Nat) L n = L[i]?.getD (R : Nat)) := by
        have h2 := HS4.out.2
        refine ⟨hi, by omega, ?_⟩
        unfold highI
        congr 2
        omega
      obtain ⟨v0, v1, v2, v3, g0, g1, g2, r0, r1, z0, z1, lr⟩ := HC.out w4 HP4.out.2
      clear v0 v1 v2 v3 g0 g1 g2 r0 r1 z0 z1 lr hi h0
      go_wp2_with fail
      refine (closHigh_any w4 (n4 : Int) 1 (i : Nat) (by omega) (by omega) (by omega) (by omega) (by first | exact HMN.out.1 | omega)).mono ?_
      rintro en w5 ⟨rfl, hf5⟩
      have hil : i < L.length := by rw [← HS4.out.2]; exact HMN.out.2.1
      obtain ⟨ad, rfl, hcell⟩ := intsV_at (HS4.out.1.fr hf5 (.inr List.not_mem_nil)) hil
      obtain ⟨r, hr⟩ : ∃ r, r = L[i] := ⟨_, rfl⟩
      rw [← hr] at hcell
      have HR : Hid (highI (R : Nat) L n = r) := by
        show _ = _
        rw [HMN.out.2.2, List.getElem?_eq_getElem hil, hr]
        rfl
      have x0 : (0 : Int) ≤ (i : Int) := by omega
      have x1 : (i : Int) < (n4 : Int) := by have := HMN.out.2.1; omega
      have hb5 := HP4.out.1.fr hf5 (by simp)
      have p0 : w5.cell? ⟨PB, 0, none⟩ = some (.int .i64 (R : Nat)) := hb5.cell 0
      have p1 : w5.cell? ⟨PB, 1, none⟩ = some (.int .i64 (C : Nat)) := hb5.cell 1
      have y0 := hb5.frozen 0
      have y1 := hb5.frozen 1
      have lp := hb5.lt
      obtain ⟨_, _, _, _, _, _, _, r0, r1, z0, z1, lr⟩ := HC.out w5 (HP4.out.2.trans hf5.of_nil)
      have HFE : Hid (∀ v0 v1 v2, Fr [] w (((w5.setCell ⟨PB, 0, none⟩ v0).setCell ⟨RB, 0, none⟩ v1).setCell ⟨RB, 1, none⟩ v2)) := by
        show ∀ _, _
        intro v0 v1 v2
        exact HFIN.out _ _ _ ((HP4.out.2.trans hf5.of_nil).setB (fun _ => by simp) _ _)
      have n4' : ¬ RB = PB := fun e => n3 e.symm
      clear hr hb5 hf5
      go_wp2_with fail
      refine bodyPost_ret (v := .agg #[.int .i64 r, .int .i64 (C : Nat)]) (by simp [results, Tryz.results72, go_sem, *]) rfl ?_
      exact ⟨by rw [HR.out], HFE.out _ _ _⟩
    · by_cases k2 : (n4 : Int) < n
      · obtain ⟨i, hi⟩ : ∃ i : Nat, (i : Int) = (n4 : Int) - 1 := ⟨((n4 : Int) - 1 : Int).toNat, by omega⟩
        have HMN : Hid ((i : Int) = (n4 : Int) - 1 ∧ i < n4 ∧ highI (R : Nat) L n = L[i]?.getD (R : Nat)) := by
          have h2 := HS4.out.2
          refine ⟨hi, by omega, ?_⟩
          unfold highI
          congr 2
          omega
        obtain ⟨v0, v1, v2, v3, g0, g1, g2, r0, r1, z0, z1, lr⟩ := HC.out w4 HP4.out.2
        clear v0 v1 v2 v3 g0 g1 g2 r0 r1 z0 z1 lr hi h0
        go_wp2_with fail
        refine (closHigh_any w4 (n4 : Int) (n4 : Int) (i : Nat) (by omega) (by omega) (by omega) (by omega) (by first | exact HMN.out.1 | omega)).mono ?_
        rintro en w5 ⟨rfl, hf5⟩
        have hil : i < L.length := by rw [← HS4.out.2]; exact HMN.out.2.1
        obtain ⟨ad, rfl, hcell⟩ := intsV_at (HS4.out.1.fr hf5 (.inr List.not_mem_nil)) hil
        obtain ⟨r, hr⟩ : ∃ r, r = L[i] := ⟨_, rfl⟩
        rw [← hr] at hcell
        have HR : Hid (highI (R : Nat) L n = r) := by
          show _ = _
          rw [HMN.out.2.2, List.getElem?_eq_getElem hil, hr]
          rfl
        have x0 : (0 : Int) ≤ (i : Int) := by omega
        have x1 : (i : Int) < (n4 : Int) := by have := HMN.out.2.1; omega
        have hb5 := HP4.out.1.fr hf5 (by simp)
        have p0 : w5.cell? ⟨PB, 0, none⟩ = some (.int .i64 (R : Nat)) := hb5.cell 0
        have p1 : w5.cell? ⟨PB, 1, none⟩ = some (.int .i64 (C : Nat)) := hb5.cell 1
        have y0 := hb5.frozen 0
        have y1 := hb5.frozen 1
        have lp := hb5.lt
        obtain ⟨_, _, _, _, _, _, _, r0, r1, z0, z1, lr⟩ := HC.out w5 (HP4.out.2.trans hf5.of_nil)
        have HFE : Hid (∀ v0 v1 v2, Fr [] w (((w5.setCell ⟨PB, 0, none⟩ v0).setCell ⟨RB, 0, none⟩ v1).setCell ⟨RB, 1, none⟩ v2)) := by
          show ∀ _, _
          intro v0 v1 v2
          exact HFIN.out _ _ _ ((HP4.out.2.trans hf5.of_nil).setB (fun _ => by simp) _ _)
        have n4' : ¬ RB = PB := fun e => n3 e.symm
        clear hr hb5 hf5
        go_wp2_with fail
        refine bodyPost_ret (v := .agg #[.int .i64 r, .int .i64 (C : Nat)]) (by simp [results, Tryz.results72, go_sem, *]) rfl ?_
        exact ⟨by rw [HR.out], HFE.out _ _ _⟩
      · obtain ⟨i, hi⟩ : ∃ i : Nat, (i : Int) = n - 1 := ⟨(n - 1 : Int).toNat, by omega⟩
        have HMN : Hid ((i : Int) = n - 1 ∧ i < n4 ∧ highI (R : Nat) L n = L[i]?.getD (R : Nat)) := by
          have h2 := HS4.out.2
          refine ⟨hi, by omega, ?_⟩
          unfold highI
          congr 2
          omega
        obtain ⟨v0, v1, v2, v3, g0, g1, g2, r0, r1, z0, z1, lr⟩ := HC.out w4 HP4.out.2
        clear v0 v1 v2 v3 g0 g1 g2 r0 r1 z0 z1 lr hi h0
        go_wp2_with fail
        refine (closHigh_any w4 (n4 : Int) n (i : Nat) (by omega) (by omega) (by omega) (by omega) (by first | exact HMN.out.1 | omega)).mono ?_
        rintro en w5 ⟨rfl, hf5⟩
        have hil : i < L.length := by rw [← HS4.out.2]; exact HMN.out.2.1
        obtain ⟨ad, rfl, hcell⟩ := intsV_at (HS4.out.1.fr hf5 (.inr List.not_mem_nil)) hil
        obtain ⟨r, hr⟩ : ∃ r, r = L[i] := ⟨_, rfl⟩
        rw [← hr] at hcell
        have HR : Hid (highI (R : Nat) L n = r) := by
          show _ = _
          rw [HMN.out.2.2, List.getElem?_eq_getElem hil, hr]
          rfl
        have x0 : (0 : Int) ≤ (i : Int) := by omega
        have x1 : (i : Int) < (n4 : Int) := by have := HMN.out.2.1; omega
        have hb5 := HP4.out.1.fr hf5 (by simp)
        have p0 : w5.cell? ⟨PB, 0, none⟩ = some (.int .i64 (R : Nat)) := hb5.cell 0
        have p1 : w5.cell? ⟨PB, 1, none⟩ = some (.int .i64 (C : Nat)) := hb5.cell 1
        have y0 := hb5.frozen 0
        have y1 := hb5.frozen 1
        have lp := hb5.lt
        obtain ⟨_, _, _, _, _, _, _, r0, r1, z0, z1, lr⟩ := HC.out w5 (HP4.out.2.trans hf5.of_nil)
        have HFE : Hid (∀ v0 v1 v2, Fr [] w (((w5.setCell ⟨PB, 0, none⟩ v0).setCell ⟨RB, 0, none⟩ v1).setCell ⟨RB, 1, none⟩ v2)) := by
          show ∀ _, _
          intro v0 v1 v2
          exact HFIN.out _ _ _ ((HP4.out.2.trans hf5.of_nil).setB (fun _ => by simp) _ _)
        have n4' : ¬ RB = PB := fun e => n3 e.symm
        clear hr hb5 hf5
        go_wp2_with fail
        refine bodyPost_ret (v := .agg #[.int .i64 r, .int .i64 (C : Nat)]) (by simp [results, Tryz.results72, go_sem, *]) rfl ?_
        exact ⟨by rw [HR.out], HFE.out _ _ _⟩
theorem closLow_any (w : World) (a b r : Int) (h0 : 0 ≤ a) (h1 : 0 ≤ b) (h2 : a ≤ 1000) (h3 : b ≤ 1000) (hr : r = a - b) : Calls Tryz.prog 74 #[.int .i64 a, .int .i64 b] w fun en w' => en = .returned (.int .i64 r) ∧ Fr [] w w' := by
  subst hr
  have hw : IntKind.i64.wrap (a - b) = a - b := IntWalk.i64_in _ (by omega)
  clear h0 h1 h2 h3
  go_enter Tryz.func74, Tryz.ntmps74
  go_wp2_with fail
  go_ret
  exact ⟨rfl, Fr.refl _ _⟩
set_option maxRecDepth 100000 in
set_option maxHeartbeats 3200000 in
theorem seenLow_any (w : World) (p : Option Addr) (tl : Bool) (eo top left wid pr pc n : Int) (hh R C : Nat) (L : List Int)
    (HST : Hid (∀ w', Fr [] w w' → Calls Tryz.prog 15 #[.agg #[.pointer p, .bool tl, .int .i64 eo], .agg #[.int .i64 pr, .int .i64 pc]] w' fun en w'' => en = .returned (.agg #[.int .i64 (R : Nat), .int .i64 (C : Nat)]) ∧ Fr [] w' w''))
    (HRW : Hid (∀ w', Fr [] w w' → Calls Tryz.prog 18 #[.agg #[.int .i64 top, .int .i64 left, .int .i64 (hh : Nat), .int .i64 wid], .agg #[.pointer p, .bool tl, .int .i64 eo]] w' (IntsA w' L))) (HLL : Hid (L.length ≤ 400)) :
    Calls Tryz.prog 72 #[.agg #[.int .i64 top, .int .i64 left, .int .i64 (hh : Nat), .int .i64 wid], .agg #[.pointer p, .bool tl, .int .i64 eo], .agg #[.int .i64 pr, .int .i64 pc], .int .i64 n, .func (.func 74) #[] #[]] w fun en w' => en = .returned (.agg #[.int .i64 (lowI (R : Nat) L n), .int .i64 (C : Nat)]) ∧ Fr [] w w' := by
  obtain ⟨W1, hW1⟩ : ∃ W1, W1 = (((w.alloc (.cells #[.int .i64 top, .int .i64 left, .int .i64 (hh : Nat), .int .i64 wid] 40)).alloc (.cells #[.pointer p, .bool tl, .int .i64 eo] TGr)).alloc (.cells #[.int .i64 pr, .int .i64 pc] 45)).alloc (.cells #[.int .i64 0, .int .i64 0] 45) := ⟨_, rfl⟩
  obtain ⟨VB, hVB⟩ : ∃ VB, VB = w.heap.size := ⟨_, rfl⟩
  obtain ⟨GB, hGB⟩ : ∃ GB, GB = w.heap.size + 1 := ⟨_, rfl⟩
  obtain ⟨PB, hPB⟩ : ∃ PB, PB = w.heap.size + 1 + 1 := ⟨_, rfl⟩
  obtain ⟨RB, hRB⟩ : ∃ RB, RB = w.heap.size + 1 + 1 + 1 := ⟨_, rfl⟩
  have HF : Hid (Fr [] w W1 ∧ Blk W1 VB 40 #[.int .i64 top, .int .i64 left, .int .i64 (hh : Nat), .int .i64 wid] ∧ Blk W1 GB TGr #[.pointer p, .bool tl, .int .i64 eo] ∧ Blk W1 PB 45 #[.int .i64 pr, .int .i64 pc] ∧ Blk W1 RB 45 #[.int .i64 0, .int .i64 0]) := by
    have b1 := Blk.new (w.alloc (.cells #[.int .i64 top, .int .i64 left, .int .i64 (hh : Nat), .int .i64 wid] 40)) TGr #[.pointer p, .bool tl, .int .i64 eo]
    have b2 := Blk.new ((w.alloc (.cells #[.int .i64 top, .int .i64 left, .int .i64 (hh : Nat), .int .i64 wid] 40)).alloc (.cells #[.pointer p, .bool tl, .int .i64 eo] TGr)) 45 #[.int .i64 pr, .int .i64 pc]
    have b3 := Blk.new (((w.alloc (.cells #[.int .i64 top, .int .i64 left, .int .i64 (hh : Nat), .int .i64 wid] 40)).alloc (.cells #[.pointer p, .bool tl, .int .i64 eo] TGr)).alloc (.cells #[.int .i64 pr, .int .i64 pc] 45)) 45 #[.int .i64 0, .int .i64 0]
    simp only [World.size_alloc] at b1 b2 b3
    rw [hW1, hVB, hGB, hPB, hRB]
    exact ⟨((((Fr.refl [] w).alloc _).alloc _).alloc _).alloc _, (((Blk.new w _ _).alloc _).alloc _).alloc _, (b1.alloc _).alloc _, b2.alloc _, b3⟩
  have HNB : Hid (VB = w.heap.size ∧ GB = w.heap.size + 1 ∧ PB = w.heap.size + 1 + 1 ∧ RB = w.heap.size + 1 + 1 + 1) := ⟨hVB, hGB, hPB, hRB⟩
  have HC : Hid (∀ w', Fr [some PB] W1 w' → w'.cell? ⟨VB, 0, none⟩ = some (.int .i64 top) ∧ w'.cell? ⟨VB, 1, none⟩ = some (.int .i64 left) ∧ w'.cell? ⟨VB, 2, none⟩ = some (.int .i64 (hh : Nat)) ∧ w'.cell? ⟨VB, 3, none⟩ = some (.int .i64 wid) ∧ w'.cell? ⟨GB, 0, none⟩ = some (.pointer p) ∧ w'.cell? ⟨GB, 1, none⟩ = some (.bool tl) ∧ w'.cell? ⟨GB, 2, none⟩ = some (.int .i64 eo) ∧ w'.cell? ⟨RB, 0, none⟩ = some (.int .i64 0) ∧ w'.cell? ⟨RB, 1, none⟩ = some (.int .i64 0) ∧ w'.frozen? ⟨RB, 0, none⟩ = false ∧ w'.frozen? ⟨RB, 1, none⟩ = false ∧ RB < w'.heap.size) := by
    show ∀ _, _
    intro w' hf
    have h1 := HF.out.2.1.fr hf (by have := HNB.out; simp; omega)
    have h2 := HF.out.2.2.1.fr hf (by have := HNB.out; simp; omega)
    have h3 := HF.out.2.2.2.2.fr hf (by have := HNB.out; simp; omega)
    exact ⟨h1.cell 0, h1.cell 1, h1.cell 2, h1.cell 3, h2.cell 0, h2.cell 1, h2.cell 2, h3.cell 0, h3.cell 1, h3.frozen 0, h3.frozen 1, h3.lt⟩
  have HFW : Hid (∀ w2, Fr [some PB] W1 w2 → Fr [] w w2) := by
    show ∀ _, _
    intro w2 hf
    exact HF.out.1.seq hf fun z hz => by rw [List.mem_singleton] at hz; exact .inr (.inr ⟨PB, by have := HNB.out; omega, hz⟩)
  have HFIN : Hid (∀ w2 v0 v1, Fr [some PB] W1 w2 → Fr [] w ((w2.setCell ⟨RB, 0, none⟩ v0).setCell ⟨RB, 1, none⟩ v1)) := by
    show ∀ _, _
    intro w2 v0 v1 hf
    exact ((HFW.out w2 hf).setB (fun h => absurd h (by have := HNB.out; omega)) _ _).setB (fun h => absurd h (by have := HNB.out; omega)) _ _
  have HW1 := Lib.hid hW1
  clear hW1
  go_enter Tryz.func72, Tryz.ntmps72
  go_wp2_with fail
  rw [← HW1.out, ← hRB, ← hPB, ← hGB, ← hVB]
  obtain ⟨v0, v1, v2, v3, g0, g1, g2, r0, r1, z0, z1, lr⟩ := HC.out W1 (Fr.refl _ _)
  have p0 : W1.cell? ⟨PB, 0, none⟩ = some (.int .i64 pr) := HF.out.2.2.2.1.cell 0
  have p1 : W1.cell? ⟨PB, 1, none⟩ = some (.int .i64 pc) := HF.out.2.2.2.1.cell 1
  clear hVB hGB hPB hRB v0 v1 v2 v3 r0 r1 z0 z1 lr
  go_wp2_with fail
  refine (HST.out W1 HF.out.1).mono ?_
  rintro en w2 ⟨rfl, hf2⟩
  have hb2 := HF.out.2.2.2.1.fr hf2 (by simp)
  have p0 : w2.cell? ⟨PB, 0, none⟩ = some (.int .i64 pr) := hb2.cell 0
  have p1 : w2.cell? ⟨PB, 1, none⟩ = some (.int .i64 pc) := hb2.cell 1
  have y0 := hb2.frozen 0
  have y1 := hb2.frozen 1
  have lp := hb2.lt
  have HP2 : Hid (Blk ((w2.setCell ⟨PB, 0, none⟩ (.int .i64 (R : Nat))).setCell ⟨PB, 1, none⟩ (.int .i64 (C : Nat))) PB 45 #[.int .i64 (R : Nat), .int .i64 (C : Nat)] ∧ Fr [some PB] W1 ((w2.setCell ⟨PB, 0, none⟩ (.int .i64 (R : Nat))).setCell ⟨PB, 1, none⟩ (.int .i64 (C : Nat)))) := ⟨by simpa using (hb2.set_ 0 (.int .i64 (R : Nat))).set_ 1 (.int .i64 (C : Nat)), (hf2.of_nil.setB (fun _ => by simp) _ _).setB (fun _ => by simp) _ _⟩
  obtain ⟨v0, v1, v2, v3, g0, g1, g2, r0, r1, z0, z1, lr⟩ := HC.out w2 hf2.of_nil
  have n1 : ¬ VB = PB := by have := HNB.out; omega
  have n2 : ¬ GB = PB := by have := HNB.out; omega
  have n3 : ¬ PB = RB := by have := HNB.out; omega
  clear HST hf2 hb2 r0 r1 z0 z1 lr
  go_wp2_with fail
  obtain ⟨W3, hW3⟩ : ∃ W3, W3 = (w2.setCell ⟨PB, 0, none⟩ (.int .i64 (R : Nat))).setCell ⟨PB, 1, none⟩ (.int .i64 (C : Nat)) := ⟨_, rfl⟩
  rw [← hW3] at HP2 ⊢
  clear hW3 v0 v1 v2 v3 g0 g1 g2 p0 p1 y0 y1 lp n1 n2
  refine (HRW.out W3 (HFW.out W3 HP2.out.2)).mono ?_
  rintro en w4 ⟨B4, n4, c4, rfl, hn4, hs4, hf4⟩
  have HS4 : Hid (Sl w4 B4 (intsV L) ∧ n4 = L.length) := ⟨hs4, hn4⟩
  have HP4 : Hid (Blk w4 PB 45 #[.int .i64 (R : Nat), .int .i64 (C : Nat)] ∧ Fr [some PB] W1 w4) := ⟨HP2.out.1.fr hf4 (by simp), HP2.out.2.trans hf4.of_nil⟩
  have hn6 : (n4 : Int) ≤ 400 := by have := HLL.out; omega
  clear hn4 hs4 hf4 HP2 HRW
  by_cases h0 : n4 = 0
  · have HLN : Hid (L = []) := List.eq_nil_of_length_eq_zero (by have := HS4.out; omega)
    have h1 : ¬ (0 : Int) < (n4 : Int) := by omega
    obtain ⟨_, _, _, _, _, _, _, r0, r1, z0, z1, lr⟩ := HC.out w4 HP4.out.2
    have p0 : w4.cell? ⟨PB, 0, none⟩ = some (.int .i64 (R : Nat)) := HP4.out.1.cell 0
    have p1 : w4.cell? ⟨PB, 1, none⟩ = some (.int .i64 (C : Nat)) := HP4.out.1.cell 1
    clear h0
    go_wp2_with fail
    refine bodyPost_ret (v := .agg #[.int .i64 (R : Nat), .int .i64 (C : Nat)]) (by simp [results, Tryz.results72, go_sem, *]) rfl ?_
    exact ⟨by rw [HLN.out]; rfl, HFIN.out _ _ _ HP4.out.2⟩
  · have h1 : (0 : Int) < (n4 : Int) := by omega
    by_cases k1 : n < 1
    · have k2 : ¬ (n4 : Int) < 1 := by omega
      obtain ⟨i, hi⟩ : ∃ i : Nat, (i : Int) = (n4 : Int) - 1 := ⟨((n4 : Int) - 1 : Int).toNat, by omega⟩
      have HMN : Hid ((i : Int) = (n4 : Int) - 1 ∧ i < n4 ∧ lowI (R : Nat) L n = L[i]?.getD (R : Nat)) := by
        have h2 := HS4.out.2
        refine ⟨hi, by omega, ?_⟩
        unfold lowI
        congr 2
        omega
      obtain ⟨v0, v1, v2, v3, g0, g1, g2, r0, r1, z0, z1, lr⟩ := HC.out w4 HP4.out.2
      clear v0 v1 v2 v3 g0 g1 g2 r0 r1 z0 z1 lr hi h0
      go_wp2_with fail
      refine (closLow_any w4 (n4 : Int) 1 (i : Nat) (by omega) (by omega) (by omega) (by omega) (by first | exact HMN.out.1 | omega)).mono ?_
      rintro en w5 ⟨rfl, hf5⟩
      have hil : i < L.length := by rw [← HS4.out.2]; exact HMN.out.2.1
      obtain ⟨ad, rfl, hcell⟩ := intsV_at (HS4.out.1.fr hf5 (.inr List.not_mem_nil)) hil
      obtain ⟨r, hr⟩ : ∃ r, r = L[i] := ⟨_, rfl⟩
      rw [← hr] at hcell
      have HR : Hid (lowI (R : Nat) L n = r) := by
        show _ = _
        rw [HMN.out.2.2, List.getElem?_eq_getElem hil, hr]
        rfl
      have x0 : (0 : Int) ≤ (i : Int) := by omega
      have x1 : (i : Int) < (n4 : Int) := by have := HMN.out.2.1; omega
      have hb5 := HP4.out.1.fr hf5 (by simp)
      have p0 : w5.cell? ⟨PB, 0, none⟩ = some (.int .i64 (R : Nat)) := hb5.cell 0
      have p1 : w5.cell? ⟨PB, 1, none⟩ = some (.int .i64 (C : Nat)) := hb5.cell 1
      have y0 := hb5.frozen 0
      have y1 := hb5.frozen 1
      have lp := hb5.lt
      obtain ⟨_, _, _, _, _, _, _, r0, r1, z0, z1, lr⟩ := HC.out w5 (HP4.out.2.trans hf5.of_nil)
      have HFE : Hid (∀ v0 v1 v2, Fr [] w (((w5.setCell ⟨PB, 0, none⟩ v0).setCell ⟨RB, 0, none⟩ v1).setCell ⟨RB, 1, none⟩ v2)) := by
        show ∀ _, _
        intro v0 v1 v2
        exact HFIN.out _ _ _ ((HP4.out.2.trans hf5.of_nil).setB (fun _ => by simp) _ _)
      have n4' : ¬ RB = PB := fun e => n3 e.symm
      clear hr hb5 hf5
      go_wp2_with fail
      refine bodyPost_ret (v := .agg #[.int .i64 r, .int .i64 (C : Nat)]) (by simp [results, Tryz.results72, go_sem, *]) rfl ?_
      exact ⟨by rw [HR.out], HFE.out _ _ _⟩
    · by_cases k2 : (n4 : Int) < n
      · obtain ⟨i, hi⟩ : ∃ i : Nat, (i : Int) = (n4 : Int) - (n4 : Int) := ⟨((n4 : Int) - (n4 : Int) : Int).toNat, by omega⟩
        have HMN : Hid ((i : Int) = (n4 : Int) - (n4 : Int) ∧ i < n4 ∧ lowI (R : Nat) L n = L[i]?.getD (R : Nat)) := by
          have h2 := HS4.out.2
          refine ⟨hi, by omega, ?_⟩
          unfold lowI
          congr 2
          omega
        obtain ⟨v0, v1, v2, v3, g0, g1, g2, r0, r1, z0, z1, lr⟩ := HC.out w4 HP4.out.2
        clear v0 v1 v2 v3 g0 g1 g2 r0 r1 z0 z1 lr hi h0
        go_wp2_with fail
        refine (closLow_any w4 (n4 : Int) (n4 : Int) (i : Nat) (by omega) (by omega) (by omega) (by omega) (by first | exact HMN.out.1 | omega)).mono ?_
        rintro en w5 ⟨rfl, hf5⟩
        have hil : i < L.length := by rw [← HS4.out.2]; exact HMN.out.2.1
        obtain ⟨ad, rfl, hcell⟩ := intsV_at (HS4.out.1.fr hf5 (.inr List.not_mem_nil)) hil
        obtain ⟨r, hr⟩ : ∃ r, r = L[i] := ⟨_, rfl⟩
        rw [← hr] at hcell
        have HR : Hid (lowI (R : Nat) L n = r) := by
          show _ = _
          rw [HMN.out.2.2, List.getElem?_eq_getElem hil, hr]
          rfl
        have x0 : (0 : Int) ≤ (i : Int) := by omega
        have x1 : (i : Int) < (n4 : Int) := by have := HMN.out.2.1; omega
        have hb5 := HP4.out.1.fr hf5 (by simp)
        have p0 : w5.cell? ⟨PB, 0, none⟩ = some (.int .i64 (R : Nat)) := hb5.cell 0
        have p1 : w5.cell? ⟨PB, 1, none⟩ = some (.int .i64 (C : Nat)) := hb5.cell 1
        have y0 := hb5.frozen 0
        have y1 := hb5.frozen 1
        have lp := hb5.lt
        obtain ⟨_, _, _, _, _, _, _, r0, r1, z0, z1, lr⟩ := HC.out w5 (HP4.out.2.trans hf5.of_nil)
        have HFE : Hid (∀ v0 v1 v2, Fr [] w (((w5.setCell ⟨PB, 0, none⟩ v0).setCell ⟨RB, 0, none⟩ v1).setCell ⟨RB, 1, none⟩ v2)) := by
          show ∀ _, _
          intro v0 v1 v2
          exact HFIN.out _ _ _ ((HP4.out.2.trans hf5.of_nil).setB (fun _ => by simp) _ _)
        have n4' : ¬ RB = PB := fun e => n3 e.symm
        clear hr hb5 hf5
        go_wp2_with fail
        refine bodyPost_ret (v := .agg #[.int .i64 r, .int .i64 (C : Nat)]) (by simp [results, Tryz.results72, go_sem, *]) rfl ?_
        exact ⟨by rw [HR.out], HFE.out _ _ _⟩
      · obtain ⟨i, hi⟩ : ∃ i : Nat, (i : Int) = (n4 : Int) - n := ⟨((n4 : Int) - n : Int).toNat, by omega⟩
        have HMN : Hid ((i : Int) = (n4 : Int) - n ∧ i < n4 ∧ lowI (R : Nat) L n = L[i]?.getD (R : Nat)) := by
          have h2 := HS4.out.2
          refine ⟨hi, by omega, ?_⟩
          unfold lowI
          congr 2
          omega
        obtain ⟨v0, v1, v2, v3, g0, g1, g2, r0, r1, z0, z1, lr⟩ := HC.out w4 HP4.out.2
        clear v0 v1 v2 v3 g0 g1 g2 r0 r1 z0 z1 lr hi h0
        go_wp2_with fail
        refine (closLow_any w4 (n4 : Int) n (i : Nat) (by omega) (by omega) (by omega) (by omega) (by first | exact HMN.out.1 | omega)).mono ?_
        rintro en w5 ⟨rfl, hf5⟩
        have hil : i < L.length := by rw [← HS4.out.2]; exact HMN.out.2.1
        obtain ⟨ad, rfl, hcell⟩ := intsV_at (HS4.out.1.fr hf5 (.inr List.not_mem_nil)) hil
        obtain ⟨r, hr⟩ : ∃ r, r = L[i] := ⟨_, rfl⟩
        rw [← hr] at hcell
        have HR : Hid (lowI (R : Nat) L n = r) := by
          show _ = _
          rw [HMN.out.2.2, List.getElem?_eq_getElem hil, hr]
          rfl
        have x0 : (0 : Int) ≤ (i : Int) := by omega
        have x1 : (i : Int) < (n4 : Int) := by have := HMN.out.2.1; omega
        have hb5 := HP4.out.1.fr hf5 (by simp)
        have p0 : w5.cell? ⟨PB, 0, none⟩ = some (.int .i64 (R : Nat)) := hb5.cell 0
        have p1 : w5.cell? ⟨PB, 1, none⟩ = some (.int .i64 (C : Nat)) := hb5.cell 1
        have y0 := hb5.frozen 0
        have y1 := hb5.frozen 1
        have lp := hb5.lt
        obtain ⟨_, _, _, _, _, _, _, r0, r1, z0, z1, lr⟩ := HC.out w5 (HP4.out.2.trans hf5.of_nil)
        have HFE : Hid (∀ v0 v1 v2, Fr [] w (((w5.setCell ⟨PB, 0, none⟩ v0).setCell ⟨RB, 0, none⟩ v1).setCell ⟨RB, 1, none⟩ v2)) := by
          show ∀ _, _
          intro v0 v1 v2
          exact HFIN.out _ _ _ ((HP4.out.2.trans hf5.of_nil).setB (fun _ => by simp) _ _)
        have n4' : ¬ RB = PB := fun e => n3 e.symm
        clear hr hb5 hf5
        go_wp2_with fail
        refine bodyPost_ret (v := .agg #[.int .i64 r, .int .i64 (C : Nat)]) (by simp [results, Tryz.results72, go_sem, *]) rfl ?_
        exact ⟨by rw [HR.out], HFE.out _ _ _⟩
end Go.Proofs.YtblafakafgediaaGreat
namespace Go.Proofs.YtblafakafgediaaGreat
open Go.RowKit Go.Proofs.Dm

section
variable {s : List UInt8} {g : Nat} {p : Option Addr} {tl : Bool} {eo : Int} {rs : List RW} {x : GD} {w : World}
theorem HG.seenH (h : HG [] s g p tl eo rs x w) {pr pc : Int} {R C : Nat} (hs : Sett (rs.map Prod.fst) pr pc R C) (top hh left wid : Nat) (n : Int) (h4 : hh ≤ 400) :
    Calls Tryz.prog 72 #[.agg #[.int .i64 (top : Nat), .int .i64 (left : Nat), .int .i64 (hh : Nat), .int .i64 (wid : Nat)], .agg #[.pointer p, .bool tl, .int .i64 eo], .agg #[.int .i64 pr, .int .i64 pc], .int .i64 n, .func (.func 73) #[] #[]] w fun en w' => en = .returned (.agg #[.int .i64 (highI (R : Nat) (RowsI (rs.map Prod.fst) (min top (rs.map Prod.fst).length) hh) n), .int .i64 (C : Nat)]) ∧ Fr [] w w' :=
  seenHigh_any w p tl eo (top : Nat) (left : Nat) (wid : Nat) pr pc n hh R C _ (fun w' hf => (h.fr0 hf).settle hs) (fun w' hf => (h.fr0 hf).rows top hh left wid h4) (by show _ ≤ _; have := rowsI_len (rs.map Prod.fst) (min top (rs.map Prod.fst).length) hh; omega)
theorem HG.seenL (h : HG [] s g p tl eo rs x w) {pr pc : Int} {R C : Nat} (hs : Sett (rs.map Prod.fst) pr pc R C) (top hh left wid : Nat) (n : Int) (h4 : hh ≤ 400) :
    Calls Tryz.prog 72 #[.agg #[.int .i64 (top : Nat), .int .i64 (left : Nat), .int .i64 (hh : Nat), .int .i64 (wid : Nat)], .agg #[.pointer p, .bool tl, .int .i64 eo], .agg #[.int .i64 pr, .int .i64 pc], .int .i64 n, .func (.func 74) #[] #[]] w fun en w' => en = .returned (.agg #[.int .i64 (lowI (R : Nat) (RowsI (rs.map Prod.fst) (min top (rs.map Prod.fst).length) hh) n), .int .i64 (C : Nat)]) ∧ Fr [] w w' :=
  seenLow_any w p tl eo (top : Nat) (left : Nat) (wid : Nat) pr pc n hh R C _ (fun w' hf => (h.fr0 hf).settle hs) (fun w' hf => (h.fr0 hf).rows top hh left wid h4) (by show _ ≤ _; have := rowsI_len (rs.map Prod.fst) (min top (rs.map Prod.fst).length) hh; omega)
set_option maxHeartbeats 800000 in
theorem HG.high (h : HG [] s g p tl eo rs x w) {pr pc : Int} {R C : Nat} (hs : Sett (rs.map Prod.fst) pr pc R C) (top hh left wid : Nat) (n : Int) (h4 : hh ≤ 400) :
    Calls Tryz.prog 19 #[.agg #[.int .i64 (top : Nat), .int .i64 (left : Nat), .int .i64 (hh : Nat), .int .i64 (wid : Nat)], .agg #[.pointer p, .bool tl, .int .i64 eo], .agg #[.int .i64 pr, .int .i64 pc], .int .i64 n] w fun en w' => en = .returned (.agg #[.int .i64 (highI (R : Nat) (RowsI (rs.map Prod.fst) (min top (rs.map Prod.fst).length) hh) n), .int .i64 (C : Nat)]) ∧ Fr [] w w' := by
  have HS := Lib.hid (fun w' hf => (h.fr0 (w' := w') hf).seenH hs top hh left wid n h4)
  obtain ⟨v, hv⟩ : ∃ v, v = highI (R : Nat) (RowsI (rs.map Prod.fst) (min top (rs.map Prod.fst).length) hh) n := ⟨_, rfl⟩
  rw [← hv] at HS ⊢
  clear h hs h4 hv
  go_enter Tryz.func19, Tryz.ntmps19
  go_wp2_with fail
  obtain ⟨W1, hW1⟩ : ∃ W1, W1 = (((w.alloc (.cells #[.int .i64 (top : Nat), .int .i64 (left : Nat), .int .i64 (hh : Nat), .int .i64 (wid : Nat)] 40)).alloc (.cells #[.pointer p, .bool tl, .int .i64 eo] TGr)).alloc (.cells #[.int .i64 pr, .int .i64 pc] 45)).alloc (.cells #[.int .i64 0, .int .i64 0] 45) := ⟨_, rfl⟩
  obtain ⟨RB, hRB⟩ : ∃ RB, RB = w.heap.size + 1 + 1 + 1 := ⟨_, rfl⟩
  have HF : Hid (Fr [] w W1 ∧ Blk W1 RB 45 #[.int .i64 0, .int .i64 0]) := by
    have b3 := Blk.new (((w.alloc (.cells #[.int .i64 (top : Nat), .int .i64 (left : Nat), .int .i64 (hh : Nat), .int .i64 (wid : Nat)] 40)).alloc (.cells #[.pointer p, .bool tl, .int .i64 eo] TGr)).alloc (.cells #[.int .i64 pr, .int .i64 pc] 45)) 45 #[.int .i64 0, .int .i64 0]
    simp only [World.size_alloc] at b3
    rw [hW1, hRB]
    exact ⟨((((Fr.refl [] w).alloc _).alloc _).alloc _).alloc _, b3⟩
  have HRB : Hid (w.heap.size < RB) := by show _ < _; omega
  rw [← hW1, ← hRB]
  clear hW1 hRB
  refine (HS.out W1 HF.out.1).mono ?_
  rintro en w2 ⟨rfl, hf2⟩
  have hb := HF.out.2.fr hf2 (by simp)
  have r0 : w2.cell? ⟨RB, 0, none⟩ = some (.int .i64 0) := hb.cell 0
  have r1 : w2.cell? ⟨RB, 1, none⟩ = some (.int .i64 0) := hb.cell 1
  have z0 := hb.frozen 0
  have z1 := hb.frozen 1
  have lr := hb.lt
  have HFE : Hid (∀ v0 v1, Fr [] w ((w2.setCell ⟨RB, 0, none⟩ v0).setCell ⟨RB, 1, none⟩ v1)) := by
    show ∀ _, _
    intro v0 v1
    exact ((HF.out.1.trans hf2).setB (fun h => absurd h (by have := HRB.out; omega)) _ _).setB (fun h => absurd h (by have := HRB.out; omega)) _ _
  clear hb hf2
  go_wp2_with fail
  refine bodyPost_ret (v := .agg #[.int .i64 v, .int .i64 (C : Nat)]) (by simp [results, Tryz.results19, go_sem, *]) rfl ?_
  exact ⟨rfl, HFE.out _ _⟩
set_option maxHeartbeats 800000 in
theorem HG.low (h : HG [] s g p tl eo rs x w) {pr pc : Int} {R C : Nat} (hs : Sett (rs.map Prod.fst) pr pc R C) (top hh left wid : Nat) (n : Int) (h4 : hh ≤ 400) :
    Calls Tryz.prog 20 #[.agg #[.int .i64 (top : Nat), .int .i64 (left : Nat), .int .i64 (hh : Nat), .int .i64 (wid : Nat)], .agg #[.pointer p, .bool tl, .int .i64 eo], .agg #[.int .i64 pr, .int .i64 pc], .int .i64 n] w fun en w' => en = .returned (.agg #[.int .i64 (lowI (R : Nat) (RowsI (rs.map Prod.fst) (min top (rs.map Prod.fst).length) hh) n), .int .i64 (C : Nat)]) ∧ Fr [] w w' := by
  have HS := Lib.hid (fun w' hf => (h.fr0 (w' := w') hf).seenL hs top hh left wid n h4)
  obtain ⟨v, hv⟩ : ∃ v, v = lowI (R : Nat) (RowsI (rs.map Prod.fst) (min top (rs.map Prod.fst).length) hh) n := ⟨_, rfl⟩
  rw [← hv] at HS ⊢
  clear h hs h4 hv
  go_enter Tryz.func20, Tryz.ntmps20
  go_wp2_with fail
  obtain ⟨W1, hW1⟩ : ∃ W1, W1 = (((w.alloc (.cells #[.int .i64 (top : Nat), .int .i64 (left : Nat), .int .i64 (hh : Nat), .int .i64 (wid : Nat)] 40)).alloc (.cells #[.pointer p, .bool tl, .int .i64 eo] TGr)).alloc (.cells #[.int .i64 pr, .int .i64 pc] 45)).alloc (.cells #[.int .i64 0, .int .i64 0] 45) := ⟨_, rfl⟩
  obtain ⟨RB, hRB⟩ : ∃ RB, RB = w.heap.size + 1 + 1 + 1 := ⟨_, rfl⟩
  have HF : Hid (Fr [] w W1 ∧ Blk W1 RB 45 #[.int .i64 0, .int .i64 0]) := by
    have b3 := Blk.new (((w.alloc (.cells #[.int .i64 (top : Nat), .int .i64 (left : Nat), .int .i64 (hh : Nat), .int .i64 (wid : Nat)] 40)).alloc (.cells #[.pointer p, .bool tl, .int .i64 eo] TGr)).alloc (.cells #[.int .i64 pr, .int .i64 pc] 45)) 45 #[.int .i64 0, .int .i64 0]
    simp only [World.size_alloc] at b3
    rw [hW1, hRB]
    exact ⟨((((Fr.refl [] w).alloc _).alloc _).alloc _).alloc _, b3⟩
  have HRB : Hid (w.heap.size < RB) := by show _ < _; omega
  rw [← hW1, ← hRB]
  clear hW1 hRB
  refine (HS.out W1 HF.out.1).mono ?_
  rintro en w2 ⟨rfl, hf2⟩
  have hb := HF.out.2.fr hf2 (by simp)
  have r0 : w2.cell? ⟨RB, 0, none⟩ = some (.int .i64 0) := hb.cell 0
  have r1 : w2.cell? ⟨RB, 1, none⟩ = some (.int .i64 0) := hb.cell 1
  have z0 := hb.frozen 0
  have z1 := hb.frozen 1
  have lr := hb.lt
  have HFE : Hid (∀ v0 v1, Fr [] w ((w2.setCell ⟨RB, 0, none⟩ v0).setCell ⟨RB, 1, none⟩ v1)) := by
    show ∀ _, _
    intro v0 v1
    exact ((HF.out.1.trans hf2).setB (fun h => absurd h (by have := HRB.out; omega)) _ _).setB (fun h => absurd h (by have := HRB.out; omega)) _ _
  clear hb hf2
  go_wp2_with fail
  refine bodyPost_ret (v := .agg #[.int .i64 v, .int .i64 (C : Nat)]) (by simp [results, Tryz.results20, go_sem, *]) rfl ?_
  exact ⟨rfl, HFE.out _ _⟩
end
end Go.Proofs.YtblafakafgediaaGreat
