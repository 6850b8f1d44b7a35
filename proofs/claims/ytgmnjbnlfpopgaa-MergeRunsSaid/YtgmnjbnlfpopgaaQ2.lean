import Derived.Test.YtgmnjbnlfpopgaaQ1
namespace Go.Proofs.Ytgmnjbnlfpopgaa
open Go.RowKit Go.Proofs.Dm

/-- Of two rows that are alike: true, and nothing is written. -/
theorem same_quiet (A B : Option Addr) (c d : Nat) (xs : List Int) (w : World) (hA : Sl w A (ints xs)) (hB : Sl w B (ints xs)) (hl : xs.length ≤ 1099511627776) :
    Calls Try.prog 14 #[.slice A xs.length c, .slice B xs.length d] w fun e w' => e = .returned (.bool true) ∧ ∃ m, w' = w.drewN m := by
  go_enter Try.func14, Try.ntmps14
  go_wp2
  go_loopw [13, 5] (fun i v wr => ∃ k : Nat, i = .int .i64 k ∧ k ≤ xs.length ∧ ∃ m, wr = w.drewN m) (fun i _ _ => xs.length - (intOf i).toNat)
  case atStart => exact ⟨0, rfl, Nat.zero_le _, 0, rfl⟩
  case round =>
    obtain ⟨k, rfl, hk, m, rfl⟩ := hrel
    have hf : Fr [] w (w.drewN m) := (Fr.refl [] w).drewN m
    obtain ⟨wz, hwz⟩ : ∃ wz, wz = w.drewN m := ⟨_, rfl⟩
    rw [← hwz] at hf ⊢
    have HZ := Lib.hid hwz
    clear hwz
    by_cases hlt : k < xs.length
    · have hA' := hA.fr hf (by simp)
      have hB' := hB.fr hf (by simp)
      obtain ⟨ad, rfl, _, h3⟩ := hA'.at_ (ints_get xs k hlt)
      obtain ⟨bd, rfl, _, h4⟩ := hB'.at_ (ints_get xs k hlt)
      clear hA hB hA' hB'
      obtain ⟨x, hx⟩ : ∃ x, x = xs[k] := ⟨_, rfl⟩
      rw [← hx] at h3 h4
      clear hx
      go_wp2
      go_quiet (fail)
      go_wp2
      go_roundw
      case rel => exact ⟨k + 1, by go_num, by omega, m + nq, by rw [HZ.out, World.drewN_drewN]⟩
      case measure => simp [intOf]; omega
    · go_wp2
      go_ret
      exact ⟨rfl, m, HZ.out⟩

def flatTo (rws : List Rw) (q : Nat) : List Int := ((rws.take q).map (·.xs)).flatten
theorem flatTo_next (rws : List Rw) (q : Nat) (h : q < rws.length) : flatTo rws (q + 1) = flatTo rws q ++ rws[q].xs := by
  unfold flatTo
  rw [List.take_succ_eq_append_getElem h, List.map_append, List.flatten_append]
  simp
theorem flatTo_le (rws : List Rw) (q : Nat) : (flatTo rws q).length ≤ (rws.map (·.xs)).flatten.length := sumL_le rws q

set_option maxRecDepth 100000 in
set_option maxHeartbeats 3200000 in
theorem rmerge_any (A : Option Addr) (c : Nat) (rws : List Rw) (w : World) (hs : Sl w A (rws.map Rw.cell)) (hn : rws.length ≤ 10000) (hr : ∀ r ∈ rws, Sl w r.A (ints r.xs) ∧ ∀ x ∈ r.xs, ten x) (hall : (rws.map (·.xs)).flatten.length ≤ 10000) :
    Calls Try.prog 17 #[.slice A rws.length c] w (RowAns w (srt tens (rws.map (·.xs)).flatten)) := by
  have hle := flatTo_le rws
  have hfin : flatTo rws rws.length = (rws.map (·.xs)).flatten := by unfold flatTo; rw [List.take_length]
  obtain ⟨G, hG⟩ : ∃ G, G = (rws.map (·.xs)).flatten := ⟨_, rfl⟩
  have hten : ∀ x ∈ G, ten x := by
    rw [hG]
    intro x hx
    obtain ⟨l, hl, hxl⟩ := List.mem_flatten.1 hx
    obtain ⟨r, hr2, rfl⟩ := List.mem_map.1 hl
    exact (hr r hr2).2 x hxl
  have hnx := flatTo_next rws
  rw [← hG] at hle hfin hall ⊢
  have HL := Lib.hid hle
  have HFN := Lib.hid hfin
  have HT := Lib.hid hten
  have HNX := Lib.hid hnx
  have HR := Lib.hid hr
  clear hle hfin hten hnx hr hG
  go_enter Try.func17, Try.ntmps17
  go_wp2_with fail
  go_loopw [10, 3] (fun iv ov wr => ∃ (q : Nat) (out : List Int) (Ao : Option Addr) (co : Nat), iv = .int .i64 q ∧ ov = .slice Ao out.length co ∧ q ≤ rws.length ∧ IRow wr 3 Ao co out ∧ Fr [] w wr ∧ Hid (∀ j, bk Ao = some j → w.heap.size ≤ j) ∧ Hid (out = flatTo rws q)) (fun iv _ _ => rws.length - (intOf iv).toNat)
  case atStart => exact ⟨0, [], none, 0, rfl, rfl, Nat.zero_le _, IRow.nil_ _ _, Fr.refl _ _, (fun j hj => by cases hj), rfl⟩
  case round =>
    obtain ⟨q, out, Ao, co, rfl, rfl, hq, hrow, hF, HA, HE⟩ := hrel
    by_cases hlt : q < rws.length
    · obtain ⟨ad, rfl, _, hcell⟩ := (hs.fr hF (.inr List.not_mem_nil)).at_ (rw_get rws q hlt)
      obtain ⟨r, hrq⟩ : ∃ r, r = rws[q] := ⟨_, rfl⟩
      have hm := (HR.out r (hrq ▸ List.getElem_mem hlt)).1
      have hn1 := HNX.out q hlt
      rw [← hrq] at hcell hn1
      have hol : (out ++ r.xs).length ≤ 10000 := by
        rw [HE.out, ← hn1]
        have := HL.out (q + 1)
        omega
      rw [List.length_append] at hol
      obtain ⟨Ar, cr, ys⟩ := r
      simp only at hcell hm hn1 hol
      have HN1 := Lib.hid hn1
      have HM := Lib.hid hm
      clear hrq hn1 hm hs
      go_wp2_with fail
      go_loopw [16, 3] (fun jv ov wr2 => ∃ (j : Nat) (o2 : List Int) (A2 : Option Addr) (c2 : Nat), jv = .int .i64 j ∧ ov = .slice A2 o2.length c2 ∧ j ≤ ys.length ∧ IRow wr2 3 A2 c2 o2 ∧ Fr [] w wr2 ∧ Hid (∀ j, bk A2 = some j → w.heap.size ≤ j) ∧ Hid (o2 = out ++ ys.take j)) (fun jv _ _ => ys.length - (intOf jv).toNat)
      case atStart => exact ⟨0, out, Ao, co, rfl, rfl, Nat.zero_le _, hrow, hF, HA, by show _ = _; simp⟩
      case round =>
        clear hrow hF HA
        obtain ⟨j, o2, A2, c2, rfl, rfl, hj, hrow, hF, HA, HE2⟩ := hrel
        by_cases hjl : j < ys.length
        · obtain ⟨ar, rfl, hcy⟩ := sl_ints (HM.out.fr hF (.inr List.not_mem_nil)) hjl
          have hnx2 : out ++ ys.take (j + 1) = o2 ++ [ys.getD j 0] := by rw [take_snoc ys j hjl, HE2.out]; simp
          have ho2 : o2.length ≤ 10000 := by
            rw [HE2.out, List.length_append, List.length_take]; omega
          obtain ⟨x, hx⟩ : ∃ x, x = ys.getD j 0 := ⟨_, rfl⟩
          rw [← hx] at hcy hnx2
          have HN2 := Lib.hid hnx2
          clear hx hnx2 hcell
          go_wp2_with (first | (at_builtin; go_must (
            refine wpList_app _ rfl _ _ 22 3 rfl (.int .i64 0) 1 8 Try.underlying22 info3 rfl (by decide) A2 c2 o2.length (ints o2) rfl (hrow.fr (Fr.alloc (Fr.refl [] _) _) (.inr List.not_mem_nil)) _ 1 1 (ints [x]) rfl rfl (sl_new _ _ 3) (ints_one _) (by simp only [maxLen]; omega) (by omega) ?_
            intro A3 c3 w3 hr3 hg3 hb3)))
          go_roundw
          case rel =>
            obtain ⟨g1, g2, g3⟩ := own_app hF HA.out hr3 rfl _ hg3 hb3
            exact ⟨j + 1, o2 ++ [x], A3, c3, by go_num, by simp, by omega, g1, g2, g3, HN2.out.symm⟩
          case measure => simp [intOf]; omega
        · obtain rfl : j = ys.length := by omega
          have he : o2 = flatTo rws (q + 1) := by rw [HE2.out, List.take_length, HE.out, HN1.out]
          have HE3 := Lib.hid he
          clear he hcell
          go_wp2_with fail
          go_roundw
          case rel => exact ⟨q + 1, o2, A2, c2, by go_num, rfl, by omega, hrow, hF, HA, HE3⟩
          case measure => simp [intOf]; omega
    · obtain rfl : q = rws.length := by omega
      have he : out = G := by rw [HE.out, HFN.out]
      have hso := rsort_any Ao co out wr hrow.sl (by rw [he]; exact hall) (fun y hy => HT.out y (he ▸ hy))
      rw [he] at hso ⊢
      have HSO := Lib.hid hso
      clear hso hs he
      go_wp2_with fail
      refine HSO.out.mono ?_
      rintro e w5 ⟨A5, c5, rfl, hr5, hf5, hA5⟩
      go_wp2_with fail
      go_ret
      exact rowAns_up ⟨A5, c5, rfl, hr5, hf5, hA5⟩ hF
end Go.Proofs.Ytgmnjbnlfpopgaa
