import Derived.Test.YtgmnjbnlfpopgaaK9
namespace Go.Proofs.Ytgmnjbnlfpopgaa
open Go.RowKit Go.Proofs.Dm

def fewL (xs : List Int) : List Int := (xs.take 200).map fun x => x.tmod 1000
theorem tmod_bd (x : Int) : -1000 < x.tmod 1000 ∧ x.tmod 1000 < 1000 := by
  have h1 := Int.tmod_lt_of_pos x (by decide : (0 : Int) < 1000)
  have h2 := Int.lt_tmod_of_pos x (by decide : (0 : Int) < 1000)
  omega
theorem fewL_ten (xs : List Int) : ∀ y ∈ fewL xs, ten y := by
  intro y hy
  obtain ⟨x, _, rfl⟩ := List.mem_map.1 hy
  have := tmod_bd x
  exact ⟨by omega, by omega⟩
theorem fewL_len (xs : List Int) : (fewL xs).length ≤ 200 := by simp [fewL]; omega
theorem fewAt (xs : List Int) (q : Nat) (h : q < xs.length) (h2 : q < 200) : ((xs.take (q + 1)).take 200).map (fun x : Int => x.tmod 1000) = ((xs.take q).take 200).map (fun x => x.tmod 1000) ++ [(xs.getD q 0).tmod 1000] := by
  rw [List.take_take, List.take_take, Nat.min_eq_right (by omega), Nat.min_eq_right (by omega), take_snoc xs q h, List.map_append]
  rfl
theorem fewAt_stop (xs : List Int) (q : Nat) (h2 : 200 ≤ q) : ((xs.take (q + 1)).take 200).map (fun x : Int => x.tmod 1000) = ((xs.take q).take 200).map (fun x => x.tmod 1000) := by
  rw [List.take_take, List.take_take, Nat.min_eq_left (by omega), Nat.min_eq_left (by omega)]
set_option maxRecDepth 100000 in
set_option maxHeartbeats 1600000 in
theorem few_any (A : Option Addr) (c : Nat) (xs : List Int) (w : World) (hs : Sl w A (ints xs)) (hm : xs.length ≤ c) (hc : Hid (c ≤ maxLen)) :
    Calls Try.prog 10 #[.slice A xs.length c] w (RowAns w (fewL xs)) := by
  have hbig : (xs.length : Int) ≤ 9223372036854775807 := by have := hc.out; simp only [maxLen] at this; omega
  obtain ⟨o, ho⟩ : ∃ o, o = fewL xs := ⟨_, rfl⟩
  rw [← ho]
  have HO := Lib.hid ho
  have HB := Lib.hid hbig
  clear ho hbig
  go_enter Try.func10, Try.ntmps10
  go_wp2_with fail
  go_loopw [8, 3] (fun iv ov wr => ∃ (q : Nat) (out : List Int) (Ao : Option Addr) (co : Nat), iv = .int .i64 q ∧ ov = .slice Ao out.length co ∧ q ≤ xs.length ∧ out.length ≤ 200 ∧ IRow wr 3 Ao co out ∧ Fr [] w wr ∧ Hid (∀ j, bk Ao = some j → w.heap.size ≤ j) ∧ Hid (out = ((xs.take q).take 200).map (fun x => x.tmod 1000))) (fun iv _ _ => xs.length - (intOf iv).toNat)
  case atStart => exact ⟨0, [], none, 0, rfl, rfl, Nat.zero_le _, by simp, IRow.nil_ _ _, Fr.refl _ _, (fun j hj => by cases hj), by show _ = _; simp⟩
  case round =>
    obtain ⟨q, out, Ao, co, rfl, rfl, hq, hol, hrow, hF, HA, HE⟩ := hrel
    by_cases hlt : q < xs.length
    · obtain ⟨ad, rfl, hcell⟩ := sl_ints (hs.fr hF (.inr List.not_mem_nil)) hlt
      obtain ⟨x, hx⟩ : ∃ x, x = xs.getD q 0 := ⟨_, rfl⟩
      rw [← hx] at hcell
      by_cases h2 : q < 200
      · have hnx : ((xs.take (q + 1)).take 200).map (fun x => x.tmod 1000) = out ++ [x.tmod 1000] := by rw [fewAt xs q hlt h2, ← HE.out, ← hx]
        have HN := Lib.hid hnx
        have hol2 : out.length ≤ q := by
          have := congrArg List.length HE.out
          simp at this; omega
        clear hx hnx hs
        go_wp2_with (first | (at_builtin; go_must (
          refine wpList_app _ rfl _ _ 22 3 rfl (.int .i64 0) 1 8 Try.underlying22 info3 rfl (by decide) Ao co out.length (ints out) rfl (hrow.fr (Fr.alloc (Fr.refl [] wr) _) (.inr List.not_mem_nil)) _ 1 1 (ints [x.tmod 1000]) rfl rfl (sl_new wr _ 3) (ints_one _) (by simp only [maxLen]; omega) (by omega) ?_
          intro A1 c1 w3 hr3 hg3 hb3)))
        go_roundw
        case rel =>
          obtain ⟨g1, g2, g3⟩ := own_app hF HA.out hr3 rfl _ hg3 hb3
          exact ⟨q + 1, out ++ [x.tmod 1000], A1, c1, by go_num, by simp, by omega, by simp; omega, g1, g2, g3, HN.out.symm⟩
        case measure => simp [intOf]; omega
      · have h2' : 200 ≤ q := by omega
        have hnx := fewAt_stop xs q h2'
        rw [← HE.out] at hnx
        have HN := Lib.hid hnx
        obtain ⟨i, hi⟩ : ∃ i : Int, i = (q : Int) := ⟨_, rfl⟩
        have i0 : 0 ≤ i := by omega
        have i1 : i ≤ 9223372036854775806 := by have := HB.out; omega
        have i2 : 200 ≤ i := by omega
        have i3 : i < (xs.length : Int) := by omega
        have i4 : i.toNat = q := by omega
        have HI := Lib.hid hi
        have HQ : Hid (q < xs.length) := hlt
        rw [← hi]
        clear hx hnx hs h2 h2' hi hlt hq
        go_wp2_with fail
        go_roundw
        case rel => exact ⟨q + 1, out, Ao, co, by rw [HI.out]; go_num, rfl, by have := HQ.out; omega, hol, hrow, hF, HA, HN.out.symm⟩
        case measure => have := HQ.out; simp [intOf]; omega
    · obtain rfl : q = xs.length := by omega
      have he : out = o := by rw [HO.out, HE.out, List.take_length]; rfl
      have HEE := Lib.hid he
      clear he hs
      go_wp2_with fail
      go_ret
      exact rowAns_end HEE.out hrow hF HA.out

set_option maxHeartbeats 800000 in
theorem rsort_any (A : Option Addr) (c : Nat) (l : List Int) (w : World) (hs : Sl w A (ints l)) (hn : l.length ≤ 10000) (hd : ∀ y ∈ l, ten y) :
    Calls Try.prog 15 #[.slice A l.length c] w (RowAns w (srt tens l)) := by
  have HD := Lib.hid hd
  obtain ⟨o, ho⟩ : ∃ o, o = srt tens l := ⟨_, rfl⟩
  rw [← ho]
  have HO := Lib.hid ho
  clear hd ho
  go_enter Try.func15, Try.ntmps15
  go_wp2_with fail
  go_loopw [8, 3] (fun iv ov wr => ∃ (q : Nat) (out : List Int) (Ao : Option Addr) (co : Nat), iv = .int .i64 q ∧ ov = .slice Ao out.length co ∧ q ≤ l.length ∧ IRow wr 3 Ao co out ∧ Fr [] w wr ∧ Hid (∀ j, bk Ao = some j → w.heap.size ≤ j) ∧ Hid (out = srt tens (l.take q))) (fun iv _ _ => l.length - (intOf iv).toNat)
  case atStart => exact ⟨0, [], none, 0, rfl, rfl, Nat.zero_le _, IRow.nil_ _ _, Fr.refl _ _, (fun j hj => by cases hj), rfl⟩
  case round =>
    obtain ⟨q, out, Ao, co, rfl, rfl, hq, hrow, hF, HA, HE⟩ := hrel
    by_cases hlt : q < l.length
    · obtain ⟨ad, rfl, hcell⟩ := sl_ints (hs.fr hF (.inr List.not_mem_nil)) hlt
      have hmem : l.getD q 0 ∈ l := by rw [List.getD_eq_getElem?_getD, List.getElem?_eq_getElem hlt]; exact List.getElem_mem hlt
      have hput := put_any Ao co out (l.getD q 0) wr hrow.sl (by rw [HE.out, srt_len, List.length_take]; omega) (HD.out _ hmem) (fun y hy => by
        rw [HE.out, srt_mem] at hy
        exact HD.out y (List.mem_of_mem_take hy))
      have hnx : ins tens (l.getD q 0) out = srt tens (l.take (q + 1)) := by rw [take_snoc l q hlt, srt_snoc, HE.out]
      rw [hnx] at hput
      obtain ⟨x, hx⟩ : ∃ x, x = l.getD q 0 := ⟨_, rfl⟩
      rw [← hx] at hcell hput
      have HP := Lib.hid hput
      clear hx hput hnx hs hmem
      go_wp2_with fail
      refine HP.out.mono ?_
      rintro e w2 ⟨A2, c2, rfl, hr2, hf2, hA2⟩
      have HA2 := Lib.hid hA2
      clear hA2 HP
      go_wp2_with fail
      go_roundw
      case rel => exact ⟨q + 1, _, A2, c2, by go_num, rfl, by omega, hr2, hF.trans hf2, fun j hj => Nat.le_trans hF.size (HA2.out j hj), rfl⟩
      case measure => simp [intOf]; omega
    · obtain rfl : q = l.length := by omega
      have he : out = o := by rw [HO.out, HE.out, List.take_length]
      have HEE := Lib.hid he
      clear he hs
      go_wp2_with fail
      go_ret
      exact rowAns_end HEE.out hrow hF HA.out
end Go.Proofs.Ytgmnjbnlfpopgaa
