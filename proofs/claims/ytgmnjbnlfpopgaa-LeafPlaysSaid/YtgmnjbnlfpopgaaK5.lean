import Derived.Test.YtgmnjbnlfpopgaaK4
namespace Go.Proofs.Ytgmnjbnlfpopgaa
open Go.RowKit Go.Proofs.Dm

def sumL (rws : List Rw) (q : Nat) : Nat := ((rws.take q).map (·.xs)).flatten.length
theorem sumL_next (rws : List Rw) (q : Nat) (h : q < rws.length) : sumL rws (q + 1) = sumL rws q + rws[q].xs.length := by
  unfold sumL
  rw [List.take_succ_eq_append_getElem h, List.map_append, List.flatten_append, List.length_append]
  simp only [List.map_cons, List.map_nil, List.flatten_cons, List.flatten_nil, List.append_nil]
theorem sumL_le (rws : List Rw) (q : Nat) : sumL rws q ≤ (rws.map (·.xs)).flatten.length := by
  unfold sumL
  conv => rhs; rw [← List.take_append_drop q rws, List.map_append, List.flatten_append, List.length_append]
  omega
set_option maxHeartbeats 800000 in
theorem count_any (A : Option Addr) (c : Nat) (rws : List Rw) (w : World) (hs : Sl w A (rws.map Rw.cell)) (hn : rws.length ≤ 100000) (hall : (rws.map (·.xs)).flatten.length ≤ 1000000) :
    Calls Try.prog 41 #[.slice A rws.length c] w fun e w' => e = .returned (.int .i64 (rws.map (·.xs)).flatten.length) ∧ w = w' := by
  obtain ⟨T, hT⟩ : ∃ T, T = (rws.map (·.xs)).flatten.length := ⟨_, rfl⟩
  have hsum : sumL rws rws.length = T := by rw [hT]; simp [sumL]
  have hle : ∀ q, sumL rws q ≤ T := fun q => by rw [hT]; exact sumL_le rws q
  rw [← hT] at hall ⊢
  have HS := Lib.hid hsum
  have HL := Lib.hid hle
  clear hsum hle hT
  go_enter Try.func41, Try.ntmps41
  go_wp2_with fail
  go_loop [8, 3] (fun iv nv => ∃ q : Nat, iv = .int .i64 q ∧ q ≤ rws.length ∧ nv = .int .i64 (sumL rws q)) (fun iv _ => rws.length - (intOf iv).toNat)
  case atStart => exact ⟨0, rfl, Nat.zero_le _, by simp [sumL]⟩
  case round =>
    obtain ⟨q, rfl, hq, rfl⟩ := hrel
    by_cases hlt : q < rws.length
    · obtain ⟨ad, rfl, _, hcell⟩ := hs.at_ (rw_get rws q hlt)
      have hnx := sumL_next rws q hlt
      obtain ⟨r, hr⟩ : ∃ r, r = rws[q] := ⟨_, rfl⟩
      have h1 := HL.out (q + 1)
      rw [← hr] at hcell hnx
      rw [hnx] at h1
      obtain ⟨s, hsq⟩ : ∃ s, s = sumL rws q := ⟨_, rfl⟩
      rw [← hsq] at hnx h1 ⊢
      have HN := Lib.hid hnx
      clear hr hnx hsq hs
      go_wp2_with fail
      go_round
      case rel => exact ⟨q + 1, by go_num, by omega, by rw [HN.out]; go_num⟩
      case measure => simp [intOf]; omega
    · obtain rfl : q = rws.length := by omega
      rw [HS.out]
      go_wp2_with fail
      go_ret
      exact ⟨rfl, rfl⟩

/-- What rows that are merged must be. -/
def RowsIn (w : World) (dom : Int → Prop) (key : Int → Int) (A : Option Addr) (rws : List Rw) : Prop :=
  Sl w A (rws.map Rw.cell) ∧ rws.length ≤ 100000 ∧ (∀ r ∈ rws, Sl w r.A (ints r.xs) ∧ (∀ j, bk r.A = some j → j < w.heap.size) ∧ r.xs.length ≤ r.c ∧ (∀ x ∈ r.xs, dom x) ∧ Sd key r.xs) ∧ (rws.map (·.xs)).flatten.length ≤ 1000000
theorem merge_any (F : Value) (A : Option Addr) (c : Nat) (rws : List Rw) (w : World) (dom : Int → Prop) (key : Int → Int) (hF : CmpOK F (· < w.heap.size) w dom key) (h : RowsIn w dom key A rws) :
    Calls Try.prog 16 #[F, .slice A rws.length c] w (RowAns w (srt key (rws.map (·.xs)).flatten)) := by
  obtain ⟨h1, h2, h3, h4⟩ := h
  have hc := count_any A c rws w h1 h2 h4
  have hf := first_any F A c rws ((rws.map (·.xs)).flatten.length : Nat) w dom key hF h1 h2 h3 h4
  have ht : (srt key (rws.map (·.xs)).flatten).take ((((rws.map (·.xs)).flatten.length : Nat) : Int).toNat) = srt key (rws.map (·.xs)).flatten := List.take_of_length_le (by rw [srt_len]; simp)
  rw [ht] at hf
  obtain ⟨T, hT⟩ : ∃ T, T = (rws.map (·.xs)).flatten.length := ⟨_, rfl⟩
  rw [← hT] at hc hf
  have HC := Lib.hid hc
  have HF := Lib.hid hf
  clear hc hf ht h1 h2 h3 h4 hF hT
  go_enter Try.func16, Try.ntmps16
  go_wp2_with fail
  refine HC.out.mono ?_
  rintro e w1 ⟨rfl, rfl⟩
  go_wp2_with fail
  refine HF.out.mono ?_
  rintro e w1 ⟨A1, c1, rfl, hr, hf, hA⟩
  go_wp2_with fail
  go_ret
  exact ⟨A1, c1, rfl, hr, hf, hA⟩
theorem runsAt_len (key : Int → Int) (l : List Int) : ∀ i, (runsAt key l i).1.length ≤ i - 1
  | 0 => by simp [runsAt]
  | i + 1 => by
    have := runsAt_len key l i
    unfold runsAt
    split
    · simp
    · split
      · show (runsAt key l i).1.length ≤ _; omega
      · show ((runsAt key l i).1 ++ _).length ≤ _; simp; omega
theorem runsP_len (key : Int → Int) (l : List Int) : (runsP key l).length ≤ l.length := by
  unfold runsP
  split
  · simp
  · rename_i h
    have := runsAt_len key l l.length
    have : 0 < l.length := List.length_pos_iff.2 h
    simp; omega
/-- Runs as rows to be merged. -/
theorem runs_in {w w1 : World} {dom : Int → Prop} {key : Int → Int} {l : List Int} {rws : List Rw} {A : Option Addr} {c : Nat} (ho : ORow w1 22 1 A c rws.length (rws.map Rw.cell)) (hx : rws.map (·.xs) = runsP key l) (hr : ∀ r ∈ rws, ROK w w1 A r) (hd : ∀ x ∈ l, dom x) (hn : l.length ≤ 100000) : RowsIn w1 dom key A rws := by
  obtain ⟨h1, h2⟩ := runsP_flat key l
  refine ⟨ho.sl, ?_, fun r hrm => ?_, by rw [hx, h1]; omega⟩
  · have := congrArg List.length hx; simp at this; have := runsP_len key l; omega
  · have hm : r.xs ∈ runsP key l := by rw [← hx]; exact List.mem_map_of_mem hrm
    obtain ⟨g1, g2, g3⟩ := hr r hrm
    exact ⟨g1, fun j hj => (g2 j hj).2.1, g3, fun x hxm => hd x (by rw [← h1]; exact List.mem_flatten.2 ⟨_, hm, hxm⟩), h2 _ hm⟩
theorem rowAns_up {w w1 w2 : World} {l : List Int} {e : Ending} (h : RowAns w1 l e w2) (hf : Fr [] w w1) : RowAns w l e w2 := by
  obtain ⟨A, c, he, hr, hf2, hA⟩ := h
  exact ⟨A, c, he, hr, hf.trans hf2, fun j hj => Nat.le_trans hf.size (hA j hj)⟩
theorem sort_any (F : Value) (A : Option Addr) (c : Nat) (l : List Int) (w : World) (dom : Int → Prop) (key : Int → Int) (hF : CmpOK F (· < w.heap.size) w dom key) (hs : Sl w A (ints l)) (hc : l.length ≤ c) (hn : l.length ≤ 100000) (hd : ∀ x ∈ l, dom x) :
    Calls Try.prog 21 #[.slice A l.length c, F] w (RowAns w (srt key l)) := by
  have h1 := runs_any F A c l w dom key hF hs hc hn hd
  have HR := Lib.hid h1
  have HF := Lib.hid hF
  have HD := Lib.hid hd
  clear h1 hF hd hs
  go_enter Try.func21, Try.ntmps21
  go_wp2_with fail
  refine HR.out.mono ?_
  rintro e w1 ⟨rws, A1, c1, rfl, ho, hx, hf, hA, hr⟩
  have hm := merge_any F A1 c1 rws w1 dom key (cmp_re HF.out (FrU.of_fr hf) (fun k hk => Nat.lt_of_lt_of_le hk hf.size)) (runs_in ho hx hr HD.out hn)
  have hfl : (rws.map (·.xs)).flatten = l := by rw [hx]; exact (runsP_flat key l).1
  rw [hfl] at hm
  have HM := Lib.hid hm
  have HFR := Lib.hid hf
  clear hm hfl ho hx hf hA hr HR
  go_wp2_with fail
  refine HM.out.mono ?_
  rintro e w2 ⟨A2, c2, rfl, hr2, hf2, hA2⟩
  go_wp2_with fail
  go_ret
  exact rowAns_up ⟨A2, c2, rfl, hr2, hf2, hA2⟩ HFR.out
theorem least_any (F : Value) (A : Option Addr) (c : Nat) (l : List Int) (n : Int) (w : World) (dom : Int → Prop) (key : Int → Int) (hF : CmpOK F (· < w.heap.size) w dom key) (hs : Sl w A (ints l)) (hc : l.length ≤ c) (hn : l.length ≤ 100000) (hd : ∀ x ∈ l, dom x) :
    Calls Try.prog 22 #[.slice A l.length c, .int .i64 n, F] w (RowAns w ((srt key l).take n.toNat)) := by
  obtain ⟨o, ho⟩ : ∃ o, o = (srt key l).take n.toNat := ⟨_, rfl⟩
  rw [← ho]
  have HO := Lib.hid ho
  clear ho
  have h1 := runs_any F A c l w dom key hF hs hc hn hd
  have HR := Lib.hid h1
  have HF := Lib.hid hF
  have HD := Lib.hid hd
  clear h1 hF hd hs
  go_enter Try.func22, Try.ntmps22
  go_wp2_with fail
  refine HR.out.mono ?_
  rintro e w1 ⟨rws, A1, c1, rfl, ho, hx, hf, hA, hr⟩
  obtain ⟨i1, i2, i3, i4⟩ := runs_in ho hx hr HD.out hn
  have hm := first_any F A1 c1 rws n w1 dom key (cmp_re HF.out (FrU.of_fr hf) (fun k hk => Nat.lt_of_lt_of_le hk hf.size)) i1 i2 i3 i4
  have hfl : (rws.map (·.xs)).flatten = l := by rw [hx]; exact (runsP_flat key l).1
  rw [hfl, ← HO.out] at hm
  have HM := Lib.hid hm
  have HFR := Lib.hid hf
  clear hm hfl ho hx hf hA hr HR i1 i2 i3 i4
  go_wp2_with fail
  refine HM.out.mono ?_
  rintro e w2 ⟨A2, c2, rfl, hr2, hf2, hA2⟩
  go_wp2_with fail
  go_ret
  exact rowAns_up ⟨A2, c2, rfl, hr2, hf2, hA2⟩ HFR.out
end Go.Proofs.Ytgmnjbnlfpopgaa
