import Derived.Test.YtgmnjbnlfpopgaaG10
import Derived.Test.YtgmnjbnlfpopgaaK9
namespace Go.Proofs.Ytgmnjbnlfpopgaa
open Go.RowKit Go.Proofs.Dm

theorem rhas_any (A : Option Addr) (c : Nat) (l : List Int) (n : Int) (w : World) (hs : Sl w A (ints l)) (hn : l.length ≤ 10000) :
    Calls Try.prog 26 #[.slice A l.length c, .int .i64 n] w fun e w' => e = .returned (.bool (decide (n ∈ l))) ∧ w = w' := by
  have htk : ∀ q, q < l.length → l.getD q 0 ≠ n → n ∉ l.take q → n ∉ l.take (q + 1) := fun q hq hne hnm => by
    rw [take_snoc l q hq]
    simp only [List.mem_append, List.mem_singleton, not_or]
    exact ⟨hnm, fun e => hne e.symm⟩
  have hin : ∀ q, q < l.length → l.getD q 0 = n → n ∈ l := fun q hq e => by rw [← e]; exact getD_in hq
  obtain ⟨b, hb⟩ : ∃ b, b = decide (n ∈ l) := ⟨_, rfl⟩
  rw [← hb]
  have HB := Lib.hid hb
  have HT := Lib.hid htk
  have HI := Lib.hid hin
  clear hb htk hin
  go_enter Try.func26, Try.ntmps26
  go_wp2_with fail
  go_loopw [9] (fun iv wr => w = wr ∧ ∃ q : Nat, iv = .int .i64 q ∧ q ≤ l.length ∧ Hid (n ∉ l.take q)) (fun iv _ => l.length - (intOf iv).toNat)
  case atStart => exact ⟨rfl, 0, rfl, Nat.zero_le _, by show _ ∉ _; simp⟩
  case round =>
    obtain ⟨rfl, q, rfl, hq, HN⟩ := hrel
    by_cases hlt : q < l.length
    · obtain ⟨ad, rfl, hcell⟩ := sl_ints hs hlt
      obtain ⟨x, hx⟩ : ∃ x, x = l.getD q 0 := ⟨_, rfl⟩
      rw [← hx] at hcell
      by_cases he : x = n
      · have hbt : b = true := by rw [HB.out]; simp; exact HI.out q hlt (hx ▸ he)
        subst he hbt
        clear hx hs
        go_wp2
        go_ret
        exact ⟨rfl, rfl⟩
      · have H2 := Lib.hid (HT.out q hlt (fun e => he (hx.trans e)) HN.out)
        clear hx hs
        go_wp2
        go_roundw
        case rel => exact ⟨trivial, q + 1, by go_num, by omega, H2⟩
        case measure => simp [intOf]; omega
    · obtain rfl : q = l.length := by omega
      have hbf : b = false := by
        rw [HB.out]; have := HN.out; rw [List.take_length] at this; simpa using this
      subst hbf
      go_wp2
      go_ret
      exact ⟨rfl, rfl⟩
theorem but_take (l : List Int) (n : Int) (q : Nat) (h : q < l.length) : butI (l.take (q + 1)) n = if l.getD q 0 = n then butI (l.take q) n else butI (l.take q) n ++ [l.getD q 0] := by
  unfold butI
  rw [take_snoc l q h, List.filter_append]
  by_cases e : l.getD q 0 = n
  · rw [if_pos e, e, List.filter_cons_of_neg (by simp)]; simp
  · rw [if_neg e, List.filter_cons_of_pos (by simpa using e)]; rfl
theorem but_len (l : List Int) (n : Int) : (butI l n).length ≤ l.length := List.length_filter_le _ _
theorem rdrop_any (A : Option Addr) (c : Nat) (l : List Int) (n : Int) (w : World) (hs : Sl w A (ints l)) (hn : l.length ≤ 10000) :
    Calls Try.prog 47 #[.slice A l.length c, .int .i64 n] w (RowAns w (butI l n)) := by
  have htk := but_take l n
  have hbl : ∀ q, (butI (l.take q) n).length ≤ q := fun q => by
    have := but_len (l.take q) n
    rw [List.length_take] at this; omega
  obtain ⟨o, ho⟩ : ∃ o, o = butI l n := ⟨_, rfl⟩
  rw [← ho]
  have HO := Lib.hid ho
  have HT := Lib.hid htk
  have HBL := Lib.hid hbl
  clear ho htk hbl
  go_enter Try.func47, Try.ntmps47
  go_wp2_with fail
  go_loopw [10, 5] (fun iv ov wr => ∃ (q : Nat) (out : List Int) (Ao : Option Addr) (co : Nat), iv = .int .i64 q ∧ ov = .slice Ao out.length co ∧ q ≤ l.length ∧ out.length ≤ q ∧ IRow wr 3 Ao co out ∧ Fr [] w wr ∧ Hid (∀ j, bk Ao = some j → w.heap.size ≤ j) ∧ Hid (out = butI (l.take q) n)) (fun iv _ _ => l.length - (intOf iv).toNat)
  case atStart => exact ⟨0, [], none, 0, rfl, rfl, Nat.zero_le _, by simp, IRow.nil_ _ _, Fr.refl _ _, (fun j hj => by cases hj), rfl⟩
  case round =>
    obtain ⟨q, out, Ao, co, rfl, rfl, hq, hol, hrow, hF, HA, HE⟩ := hrel
    by_cases hlt : q < l.length
    · obtain ⟨ad, rfl, hcell⟩ := sl_ints (hs.fr hF (.inr List.not_mem_nil)) hlt
      have hnx := HT.out q hlt
      rw [← HE.out] at hnx
      obtain ⟨x, hx⟩ : ∃ x, x = l.getD q 0 := ⟨_, rfl⟩
      rw [← hx] at hcell hnx
      by_cases he : x = n
      · rw [if_pos he] at hnx
        have HN := Lib.hid hnx
        subst he
        clear hx hnx hs
        go_wp2_with fail
        go_roundw
        case rel => exact ⟨q + 1, out, Ao, co, by go_num, rfl, by omega, by omega, hrow, hF, HA, HN.out.symm⟩
        case measure => simp [intOf]; omega
      · rw [if_neg he] at hnx
        have HN := Lib.hid hnx
        clear hx hnx hs
        go_wp2_with (first | (at_builtin; go_must (
          refine wpList_app _ rfl _ _ 22 3 rfl (.int .i64 0) 1 8 Try.underlying22 info3 rfl (by decide) Ao co out.length (ints out) rfl (hrow.fr (Fr.alloc (Fr.refl [] wr) _) (.inr List.not_mem_nil)) _ 1 1 (ints [x]) rfl rfl (sl_new wr _ 3) (ints_one _) (by simp only [maxLen]; omega) (by omega) ?_
          intro A1 c1 w3 hr3 hg3 hb3)))
        go_roundw
        case rel =>
          obtain ⟨g1, g2, g3⟩ := own_app hF HA.out hr3 rfl _ hg3 hb3
          exact ⟨q + 1, out ++ [x], A1, c1, by go_num, by simp, by omega, by simp; omega, g1, g2, g3, HN.out.symm⟩
        case measure => simp [intOf]; omega
    · obtain rfl : q = l.length := by omega
      have he : out = o := by rw [HO.out, HE.out, List.take_length]
      have HEE := Lib.hid he
      clear he hs
      go_wp2_with fail
      go_ret
      exact rowAns_end HEE.out hrow hF HA.out
theorem rother_any (A : Option Addr) (c : Nat) (l : List Int) (n : Int) (w : World) (hs : Sl w A (ints l)) (hn : l.length ≤ 10000) :
    Calls Try.prog 46 #[.slice A l.length c, .int .i64 n] w fun e w' => e = .returned (.tuple #[.int .i64 ((butI l n).headD 0), .bool (decide (0 < (butI l n).length))]) ∧ w = w' := by
  have htk := but_take l n
  have hdr : ∀ q, q < l.length → butI (l.take q) n = [] → l.getD q 0 ≠ n → (butI l n).headD 0 = l.getD q 0 ∧ decide (0 < (butI l n).length) = true := fun q hq h1 h2 => by
    have e1 : butI (l.take (q + 1)) n = [l.getD q 0] := by rw [htk q hq, if_neg h2, h1]; rfl
    have e2 : butI l n = butI (l.take (q + 1)) n ++ butI (l.drop (q + 1)) n := by
      unfold butI
      rw [← List.filter_append, List.take_append_drop]
    rw [e2, e1]
    simp
  obtain ⟨v, hv⟩ : ∃ v, v = (butI l n).headD 0 := ⟨_, rfl⟩
  obtain ⟨b, hb⟩ : ∃ b, b = decide (0 < (butI l n).length) := ⟨_, rfl⟩
  rw [← hv, ← hb] at hdr ⊢
  have HV := Lib.hid hv
  have HB := Lib.hid hb
  have HT := Lib.hid htk
  have HD := Lib.hid hdr
  clear hv hb htk hdr
  go_enter Try.func46, Try.ntmps46
  go_wp2_with fail
  go_loopw [10] (fun iv wr => w = wr ∧ ∃ q : Nat, iv = .int .i64 q ∧ q ≤ l.length ∧ Hid (butI (l.take q) n = [])) (fun iv _ => l.length - (intOf iv).toNat)
  case atStart => exact ⟨rfl, 0, rfl, Nat.zero_le _, rfl⟩
  case round =>
    obtain ⟨rfl, q, rfl, hq, HN⟩ := hrel
    by_cases hlt : q < l.length
    · obtain ⟨ad, rfl, hcell⟩ := sl_ints hs hlt
      have hd := HD.out q hlt HN.out
      have ht := HT.out q hlt
      rw [HN.out] at ht
      obtain ⟨x, hx⟩ : ∃ x, x = l.getD q 0 := ⟨_, rfl⟩
      rw [← hx] at hcell hd ht
      by_cases he : x = n
      · rw [if_pos he] at ht
        have H2 := Lib.hid ht
        subst he
        clear hx hs hd ht
        go_wp2
        go_roundw
        case rel => exact ⟨trivial, q + 1, by go_num, by omega, H2⟩
        case measure => simp [intOf]; omega
      · obtain ⟨rfl, rfl⟩ := hd he
        clear hx hs ht
        go_wp2
        go_ret2
        exact ⟨rfl, rfl⟩
    · obtain rfl : q = l.length := by omega
      have h0 : butI l n = [] := by have := HN.out; rwa [List.take_length] at this
      obtain rfl : v = 0 := by rw [HV.out, h0]; rfl
      obtain rfl : b = false := by rw [HB.out, h0]; rfl
      go_wp2
      go_ret2
      exact ⟨rfl, rfl⟩
end Go.Proofs.Ytgmnjbnlfpopgaa
