import Derived.Test.YtblafakafgediaaGreatW02
import Derived.Test.YtblafakafgediaaGreatProg
import Derived.Deep.RegionWith
namespace Go.Proofs.YtblafakafgediaaGreat
open Go.RowKit Go.Proofs.Dm

theorem info_S : (Tryz.prog.info? 9).map (fun i => (i.zero, i.size, i.bytes)) = some (some (Value.string ⟨#[]⟩), 1, 16) := by kernel_rfl
theorem elem_S : Tryz.prog.elem 128 = 9 := by kernel_rfl
theorem size_S : (Tryz.prog.info? (Tryz.prog.elem 128)).map (·.size) = some 1 := by kernel_rfl
theorem und_S : Tryz.prog.underlying 128 = some (.slice (Tryz.prog.elem 128)) := by kernel_rfl
set_option maxHeartbeats 400000 in
theorem grow_S (n : Nat) (w : World) (hn : n ≤ 1000000) :
    Calls Tryz.prog 136 #[.slice none 0 0, .int .i64 (n : Int)] w (NewRow w 9 1 0 []) := by
  rcases Nat.eq_zero_or_pos n with h0 | h0
  · subst h0
    go_enter Tryz.func136, Tryz.ntmps136
    go_wp2
    go_ret
    exact ⟨none, 0, rfl, ORow.nil_ _ _ _, Fr.refl _ _, fun j hj => by cases hj⟩
  · obtain ⟨i0, hi, hz0, hz1, hz2⟩ := info_parts info_S
    have hz : ∀ (W : World) (ty : TypeId), (Builtin.append_ #[128, 3] ty #[.slice none 0 0, .int .i64 (n : Int)]).run Tryz.prog W = .ok (.slice (some ⟨W.heap.size, 0, none⟩) n (grownCap W n 0 9)) (W.drew.alloc (.cells (Builtin.zeroCells (Value.string ⟨#[]⟩).cells n ++ Builtin.zeroCells (Value.string ⟨#[]⟩).cells (grownCap W n 0 9 - n)) 9)) := fun W ty =>
      Lib.run_append_nil_zeros W 128 3 ty 9 i0 (Value.string ⟨#[]⟩) .i64 .i64 Tryz.underlying128 Tryz.underlying3 hi hz0 n h0 (by rw [hz1]; decide) (by omega) (by rw [hz2]; omega)
    have HZ := Lib.hid hz
    have HE : Hid (∀ W, ORow (W.drew.alloc (.cells (Builtin.zeroCells (Value.string ⟨#[]⟩).cells n ++ Builtin.zeroCells (Value.string ⟨#[]⟩).cells (grownCap W n 0 9 - n)) 9)) 9 1 (some ⟨W.heap.size, 0, none⟩) (grownCap W n 0 9) 0 []) := by
      show ∀ _, _
      intro W
      have hge := grownCap_ge W n 0 9
      have hle := grownCap_le_maxLen W n 0 9 (by simp only [maxLen]; omega)
      exact World.ownsRow_made W.drew _ _ (Nat.zero_le _) hle (by
        have hs : ∀ m, (Builtin.zeroCells (Value.string ⟨#[]⟩).cells m).size = m * 1 := fun m => by
          simp only [Builtin.zeroCells, Array.size_map, Array.size_range]; rfl
        rw [Array.size_append, hs, hs]; omega)
    have HG : Hid (∀ W, n ≤ grownCap W n 0 9) := fun W => grownCap_ge W n 0 9
    have hi0 : (0 : Int) < (n : Int) := by omega
    clear hz hi hz0 hz1 hz2 h0
    obtain ⟨C, hC⟩ : ∃ C, C = grownCap w n 0 9 := ⟨_, rfl⟩
    have HC := Lib.hid hC
    have hnC : n ≤ C := by rw [hC]; exact HG.out w
    clear hC
    go_enter Tryz.func136, Tryz.ntmps136
    go_wp2_with (at_builtin; go_must (
      refine Lib.wpList_append_run w rfl _ _ 128 3 rfl _ _ rfl rfl (.slice (some ⟨w.heap.size, 0, none⟩) n C) _ (by rw [HC.out]; exact HZ.out w _) ?_))
    go_ret
    refine ⟨_, C, rfl, ?_, ((Fr.refl [] w).alloc _).drew, fun j hj => ?_⟩
    · rw [HC.out]; exact HE.out w
    · injection hj with hj
      exact Nat.le_of_eq hj
set_option maxHeartbeats 800000 in
theorem concat_S (B : Option Addr) (d : Nat) (ps : List Part) (w : World) (hB : Sl w B (partV ps)) (hp : ∀ p ∈ ps, p.ok 1 w) (hn : partN ps ≤ 1000000) (hm : ps.length ≤ 1000000) :
    Calls Tryz.prog 75 #[.slice B ps.length d] w (NewRow w 9 1 (partN ps) (partC ps)) := by
  obtain ⟨N, hN⟩ : ∃ N, N = partN ps := ⟨_, rfl⟩
  have HLE : Hid (∀ j, partN (ps.take j) ≤ N) := fun j => by rw [hN]; exact partN_le ps j
  have HAT : Hid (∀ j (h : j < ps.length), partN (ps.take (j + 1)) = partN (ps.take j) + ps[j].n ∧ partN (ps.take j) + ps[j].n ≤ N) := fun j h => ⟨partN_snoc ps j h, by rw [hN]; exact partN_at ps j h⟩
  have HCS : Hid (∀ j (h : j < ps.length), partC (ps.take (j + 1)) = partC (ps.take j) ++ ps[j].cs) := fun j h => partC_snoc ps j h
  have HEND : Hid (partN (ps.take ps.length) = N ∧ partC (ps.take ps.length) = partC ps) := ⟨by rw [List.take_length, hN], by rw [List.take_length]⟩
  have HP := Lib.hid hp
  have HB := Lib.hid hB
  rw [← hN] at hn ⊢
  clear hN hp hB
  go_enter Tryz.func75, Tryz.ntmps75
  go_wp2_with fail
  go_loop [11, 3] (fun iv sv => ∃ j : Nat, iv = .int .i64 j ∧ sv = .int .i64 (partN (ps.take j) : Nat) ∧ j ≤ ps.length) (fun iv _ => ps.length - (intOf iv).toNat)
  case atStart => exact ⟨0, rfl, rfl, Nat.zero_le _⟩
  case round =>
    obtain ⟨j, rfl, rfl, hj⟩ := hrel
    have hle := HLE.out j
    by_cases hlt : j < ps.length
    · obtain ⟨ad, rfl, hcell⟩ := part_at HB.out hlt
      obtain ⟨h1, h2⟩ := HAT.out j hlt
      obtain ⟨s, hs⟩ : ∃ s, s = partN (ps.take j) := ⟨_, rfl⟩
      obtain ⟨pa, hpa⟩ : ∃ pa, pa = ps[j] := ⟨_, rfl⟩
      rw [← hs] at h1 h2 hle ⊢
      rw [← hpa] at h1 h2 hcell
      have H1 := Lib.hid h1
      clear h1 hs hpa
      go_wp2_with fail
      go_round
      case rel => exact ⟨j + 1, by go_num, by rw [H1.out]; go_num, by omega⟩
      case measure => simp [intOf]; omega
    · obtain rfl : j = ps.length := by omega
      have hg := grow_S N w hn
      rw [HEND.out.1] at hle ⊢
      have HG := Lib.hid hg
      clear hg
      go_wp2_with fail
      refine HG.out.mono ?_
      rintro e w1 ⟨A1, c1, rfl, hr1, hf1, hb1⟩
      have HR1 := Lib.hid hr1
      have HF1 := Lib.hid hf1
      have HB1 := Lib.hid hb1
      clear hr1 hf1 hb1
      go_wp2_with fail
      go_loopw [27, 6] (fun iv sv wr => ∃ (j : Nat) (A : Option Addr) (c m : Nat), iv = .int .i64 j ∧ sv = .slice A m c ∧ j ≤ ps.length ∧ Hid (m = partN (ps.take j)) ∧ ORow wr 9 1 A c m (partC (ps.take j)) ∧ Fr [] w wr ∧ Hid (∀ k, bk A = some k → w.heap.size ≤ k)) (fun iv _ _ => ps.length - (intOf iv).toNat)
      case atStart => exact ⟨0, A1, c1, 0, rfl, rfl, Nat.zero_le _, rfl, HR1.out, HF1.out, HB1.out⟩
      case round =>
        obtain ⟨j, A, c, m, rfl, rfl, hj, HM, hrow, hF, HA⟩ := hrel
        have hle := HLE.out j
        rw [← HM.out] at hle
        by_cases hlt : j < ps.length
        · obtain ⟨ad, rfl, hcell⟩ := part_at (HB.out.fr hF (.inr List.not_mem_nil)) hlt
          obtain ⟨h1, h2⟩ := HAT.out j hlt
          have hpk := (HP.out ps[j] (List.getElem_mem hlt)).fr hF
          have hcs := HCS.out j hlt
          rw [← HM.out] at h1 h2
          obtain ⟨pa, hpa⟩ : ∃ pa, pa = ps[j] := ⟨_, rfl⟩
          rw [← hpa] at h1 h2 hcell hpk hcs
          have H1 := Lib.hid h1
          have HPK := Lib.hid hpk
          have HC := Lib.hid hcs
          clear h1 hpa hpk hcs
          go_wp2_with (at_builtin; go_must (
            refine wpList_app _ rfl _ _ 128 9 rfl (Value.string ⟨#[]⟩) 1 16 Tryz.underlying128 info_S rfl (by decide) A c m _ rfl hrow pa.A pa.n pa.c pa.cs rfl HPK.out.1 HPK.out.2.1 HPK.out.2.2 (by simp only [maxLen]; omega) (by omega) ?_
            intro A2 c2 w2 hr2 hg2 hb2))
          go_roundw
          case rel => exact ⟨j + 1, A2, c2, m + pa.n, by go_num, rfl, by omega, H1.out.symm, by rw [HC.out]; exact hr2, fr_app (w' := w2) hF HA.out hg2, newA_app (w' := w2) hF HA.out hb2⟩
          case measure => simp [intOf]; omega
        · obtain rfl : j = ps.length := by omega
          go_wp2_with fail
          go_ret
          rw [HEND.out.2] at hrow
          have hm2 : m = N := HM.out.trans HEND.out.1
          subst hm2
          exact ⟨A, c, rfl, hrow, hF, HA.out⟩
end Go.Proofs.YtblafakafgediaaGreat
namespace Go.Proofs.YtblafakafgediaaGreat
open Go.RowKit Go.Proofs.Dm

theorem info_C : (Tryz.prog.info? 104).map (fun i => (i.zero, i.size, i.bytes)) = some (some (Value.agg #[.slice none 0 0, .int .i64 0, .int .i64 0, .int .i64 0, .bool false]), 5, 56) := by kernel_rfl
theorem elem_C : Tryz.prog.elem 119 = 104 := by kernel_rfl
theorem size_C : (Tryz.prog.info? (Tryz.prog.elem 119)).map (·.size) = some 5 := by kernel_rfl
theorem und_C : Tryz.prog.underlying 119 = some (.slice (Tryz.prog.elem 119)) := by kernel_rfl
set_option maxHeartbeats 400000 in
theorem clone_C (A : Option Addr) (n c : Nat) (cs : List Value) (w : World) (hs : Sl w A cs) (hl : cs.length = n * 5) (h1 : ∀ u ∈ cs, u.oneCell' = true) (hn : n ≤ 1000000) :
    Calls Tryz.prog 127 #[.slice A n c] w (NewRow w 104 5 n cs) := by
  cases A with
  | none =>
    have hx : cs = [] := by
      rcases hs with h | ⟨ad, h, _⟩
      · exact h
      · cases h
    subst hx
    obtain rfl : n = 0 := by simp at hl; omega
    have he := Lib.run_eql_slice_nil (P := Tryz.prog) w 119 104 none 0 c 0 0 Tryz.underlying119
    go_enter Tryz.func127, Tryz.ntmps127
    go_wp2
    go_ret
    exact ⟨none, 0, rfl, ORow.nil_ _ _ _, Fr.refl _ _, fun j hj => by cases hj⟩
  | some ad =>
    have he := Lib.run_eql_slice_nil (P := Tryz.prog) w 119 104 (some ad) n c 0 0 Tryz.underlying119
    have HL := Lib.hid hl
    clear hl
    go_enter Tryz.func127, Tryz.ntmps127
    go_wp2_with (at_builtin; go_must (
      refine wpList_app _ rfl _ _ 119 104 rfl (Value.agg #[.slice none 0 0, .int .i64 0, .int .i64 0, .int .i64 0, .bool false]) 5 56 Tryz.underlying119 info_C rfl (by decide) _ 0 0 [] rfl (ORow.made w 104 5) (some ad) n c cs rfl HL.out (hs.fr (Fr.alloc (Fr.refl [] w) _) (by simp)) h1 (by simp only [maxLen]; omega) (by omega) ?_
      intro A1 ca1 w1 hr1 hg1 hb1))
    go_ret
    rw [Nat.zero_add, List.nil_append] at hr1
    refine ⟨A1, ca1, rfl, hr1, ((Fr.refl [] w).alloc _).seq hg1 (by simp [bk]), fun j hj => ?_⟩
    rcases hb1 with h | h
    · rw [h] at hj; simp [bk] at hj; omega
    · rw [h] at hj; injection hj with hj; simp at hj; omega
end Go.Proofs.YtblafakafgediaaGreat
