import Derived.Test.YtgmnjbnlfpopgaaG13
namespace Go.Proofs.Ytgmnjbnlfpopgaa
open Go.RowKit Go.Proofs.Dm

theorem insI_past (x : Int) : ∀ (a b : List Int), (∀ y ∈ a, ¬ x < y) → insI x (a ++ b) = a ++ insI x b
  | [], b, _ => rfl
  | y :: a, b, h => by
    show (if x < y then _ else y :: insI x (a ++ b)) = _
    rw [if_neg (h y (List.mem_cons_self ..)), insI_past x a b fun z hz => h z (List.mem_cons_of_mem _ hz)]
    rfl
/-- Where putting stands behind the first j. -/
def PutI (x : Int) (l : List Int) (j : Nat) (laid : Bool) (out : List Int) : Prop :=
  (laid = false ∧ out = l.take j ∧ ∀ y ∈ l.take j, ¬ x < y) ∨ (laid = true ∧ out ++ l.drop j = insI x l)
theorem putI_zero (x : Int) (l : List Int) : PutI x l 0 false [] := .inl ⟨rfl, rfl, by simp⟩
theorem putI_pass {x : Int} {l : List Int} {j : Nat} {out : List Int} (h : PutI x l j false out) (hj : j < l.length) (hk : ¬ x < (l.getD j 0)) : PutI x l (j + 1) false (out ++ [l.getD j 0]) := by
  rcases h with ⟨_, h2, h3⟩ | ⟨h1, _⟩
  · refine .inl ⟨rfl, by rw [h2, take_snoc l j hj], fun y hy => ?_⟩
    rw [take_snoc l j hj] at hy
    rcases List.mem_append.1 hy with hy | hy
    · exact h3 y hy
    · rw [List.mem_singleton.1 hy]; exact hk
  · cases h1
theorem putI_lay {x : Int} {l : List Int} {j : Nat} {out : List Int} (h : PutI x l j false out) (hj : j < l.length) (hk : x < (l.getD j 0)) : PutI x l (j + 1) true ((out ++ [x]) ++ [l.getD j 0]) := by
  rcases h with ⟨_, h2, h3⟩ | ⟨h1, _⟩
  · refine .inr ⟨rfl, ?_⟩
    conv => rhs; rw [← List.take_append_drop j l, insI_past x _ _ h3, drop_getD l j hj]
    rw [h2]
    show _ = l.take j ++ (if x < (l.getD j 0) then _ else _)
    rw [if_pos hk]
    simp
  · cases h1
theorem putI_on {x : Int} {l : List Int} {j : Nat} {out : List Int} (h : PutI x l j true out) (hj : j < l.length) : PutI x l (j + 1) true (out ++ [l.getD j 0]) := by
  rcases h with ⟨h1, _⟩ | ⟨_, h2⟩
  · cases h1
  · exact .inr ⟨rfl, by rw [← h2, drop_getD l j hj]; simp⟩
theorem putI_end {x : Int} {l : List Int} {laid : Bool} {out : List Int} (h : PutI x l l.length laid out) : (if laid then out else out ++ [x]) = insI x l := by
  rcases h with ⟨rfl, h2, h3⟩ | ⟨rfl, h2⟩
  · rw [List.take_length] at h2 h3
    have := insI_past x l [] h3
    rw [List.append_nil] at this
    rw [this, h2]; rfl
  · simpa using h2
/-- A row with one more: the row itself, where the number is there. -/
def PutAns (w : World) (A : Option Addr) (l : List Int) (e : Ending) (w' : World) : Prop := ∃ A' c', e = .returned (.slice A' l.length c') ∧ Sl w' A' (ints l) ∧ l.length ≤ c' ∧ Fr [] w w' ∧ ∀ j, bk A' = some j → bk A = some j ∨ (w.heap.size ≤ j ∧ j < w'.heap.size)
set_option maxRecDepth 100000 in
set_option maxHeartbeats 1600000 in
theorem rput_any (A : Option Addr) (c : Nat) (l : List Int) (x : Int) (w : World) (hs : Sl w A (ints l)) (hc : l.length ≤ c) (hn : l.length ≤ 10000) :
    Calls Try.prog 29 #[.slice A l.length c, .int .i64 x] w (PutAns w A (putP l x)) := by
  have hh := rhas_any A c l x w hs hn
  have HCC := Lib.hid hc
  clear hc
  by_cases hx : x ∈ l
  · have hp : putP l x = l := by simp [putP, hx]
    have hd : decide (x ∈ l) = true := by simp [hx]
    rw [hp]
    rw [hd] at hh
    have HH := Lib.hid hh
    have HS := Lib.hid hs
    clear hh hx hp hd hs
    go_enter Try.func29, Try.ntmps29
    go_wp2_with fail
    refine HH.out.mono ?_
    rintro e w1 ⟨rfl, rfl⟩
    go_wp2_with fail
    go_ret
    exact ⟨A, c, rfl, HS.out, HCC.out, Fr.refl _ _, fun j hj => .inl hj⟩
  · have hp : putP l x = insI x l := by simp [putP, hx]
    have hd : decide (x ∈ l) = false := by simp [hx]
    rw [hp]
    rw [hd] at hh
    obtain ⟨o, ho⟩ : ∃ o, o = insI x l := ⟨_, rfl⟩
    rw [← ho]
    have HO := Lib.hid ho
    have HH := Lib.hid hh
    have HEND : Hid (∀ (out : List Int) (Ao : Option Addr) (co : Nat) (w' : World), out = o → IRow w' 3 Ao co out → Fr [] w w' → (∀ j, bk Ao = some j → w.heap.size ≤ j) → PutAns w A o (.returned (.slice Ao out.length co)) w') := by
      show ∀ _, _
      intro out Ao co w' he hr hf hA
      subst he
      exact ⟨Ao, co, rfl, hr.sl, ORow.cap hr, hf, fun j hj => .inr ⟨hA j hj, hr.lt hj⟩⟩
    clear hh hx hp hd ho
    go_enter Try.func29, Try.ntmps29
    go_wp2_with fail
    refine HH.out.mono ?_
    rintro e w1 ⟨rfl, rfl⟩
    go_wp2_with fail
    go_loopw [15, 5, 6] (fun iv ov lv wr => ∃ (j : Nat) (out : List Int) (laid : Bool) (Ao : Option Addr) (co : Nat), iv = .int .i64 j ∧ ov = .slice Ao out.length co ∧ lv = .bool laid ∧ j ≤ l.length ∧ out.length ≤ j + laid.toNat ∧ IRow wr 3 Ao co out ∧ Fr [] w wr ∧ Hid (∀ j, bk Ao = some j → w.heap.size ≤ j) ∧ Hid (PutI x l j laid out)) (fun iv _ _ _ => l.length - (intOf iv).toNat)
    case atStart => exact ⟨0, [], false, none, 0, rfl, rfl, rfl, Nat.zero_le _, by simp, IRow.nil_ _ _, Fr.refl _ _, (fun j hj => by cases hj), putI_zero x l⟩
    case round =>
      obtain ⟨j, out, laid, Ao, co, rfl, rfl, rfl, hj, hol, hrow, hF, HA, HP⟩ := hrel
      by_cases hlt : j < l.length
      · obtain ⟨ad, rfl, hcell⟩ := sl_ints (hs.fr hF (.inr List.not_mem_nil)) hlt
        have hpass : ¬ x < (l.getD j 0) → laid = false → PutI x l (j + 1) false (out ++ [l.getD j 0]) := fun h e => putI_pass (by rw [← e]; exact HP.out) hlt h
        have hlay : x < (l.getD j 0) → laid = false → PutI x l (j + 1) true ((out ++ [x]) ++ [l.getD j 0]) := fun h e => putI_lay (by rw [← e]; exact HP.out) hlt h
        have hon : laid = true → PutI x l (j + 1) true (out ++ [l.getD j 0]) := fun e => putI_on (by rw [← e]; exact HP.out) hlt
        obtain ⟨y, hy⟩ : ∃ y, y = l.getD j 0 := ⟨_, rfl⟩
        rw [← hy] at hcell hpass hlay hon
        have H1 := Lib.hid hpass
        have H2 := Lib.hid hlay
        have H3 := Lib.hid hon
        clear hpass hlay hon hy hs
        cases laid with
        | true =>
          simp only [Bool.toNat_true] at hol
          go_wp2_with (first | (at_builtin; go_must (
            refine wpList_app _ rfl (.tmp 30) (.tmp 32) 22 3 rfl (.int .i64 0) 1 8 Try.underlying22 info3 rfl (by decide) Ao co out.length (ints out) rfl (hrow.fr (Fr.alloc (Fr.refl [] wr) _) (.inr List.not_mem_nil)) _ 1 1 (ints [y]) rfl rfl (sl_new wr _ 3) (ints_one _) (by simp only [maxLen]; omega) (by omega) ?_
            intro A1 c1 w3 hr3 hg3 hb3)))
          go_roundw
          case rel =>
            obtain ⟨g1, g2, g3⟩ := own_app hF HA.out hr3 rfl _ hg3 hb3
            exact ⟨j + 1, out ++ [y], true, A1, c1, by go_num, by simp, rfl, by omega, by simp; omega, g1, g2, g3, H3.out rfl⟩
          case measure => simp [intOf]; omega
        | false =>
          simp only [Bool.toNat_false, Nat.add_zero] at hol
          by_cases h0 : x < y
          · have HK := Lib.hid (H2.out h0 rfl)
            go_wp2_with (first | (at_builtin; (
              refine wpList_app _ rfl (.tmp 26) (.tmp 28) 22 3 rfl (.int .i64 0) 1 8 Try.underlying22 info3 rfl (by decide) Ao co out.length (ints out) rfl (hrow.fr (Fr.alloc (Fr.refl [] _) _) (.inr List.not_mem_nil)) _ 1 1 (ints [x]) rfl rfl (sl_new _ _ 3) (ints_one _) (by simp only [maxLen]; omega) (by omega) ?_
              intro A1 c1 w3 hr3 hg3 hb3
              obtain ⟨g1, g2, g3⟩ := own_app hF HA.out hr3 rfl _ hg3 hb3
              have hl1 : (out ++ [x]).length = out.length + 1 := by simp
              have G3 := Lib.hid g3
              have HL1 := Lib.hid hl1
              clear hr3 hg3 hb3 hrow g3 hl1)) | (at_builtin; go_must (
              refine wpList_app _ rfl (.tmp 30) (.tmp 32) 22 3 rfl (.int .i64 0) 1 8 Try.underlying22 info3 rfl (by decide) A1 c1 (out.length + 1) (ints (out ++ [x])) rfl (irow_len (g1.fr (Fr.alloc (Fr.refl [] w3) _) (.inr List.not_mem_nil)) HL1.out) _ 1 1 (ints [y]) rfl rfl (sl_new w3 _ 3) (ints_one _) (by simp only [maxLen]; omega) (by omega) ?_
              intro A2 c2 w4 hr4 hg4 hb4)))
            go_roundw
            case rel =>
              obtain ⟨k1, k2, k3⟩ := own_app g2 G3.out hr4 (by rw [HL1.out]) _ hg4 hb4
              exact ⟨j + 1, (out ++ [x]) ++ [y], true, A2, c2, by go_num, by simp, rfl, by omega, by simp; omega, k1, k2, k3, HK.out⟩
            case measure => simp [intOf]; omega
          · have HK := Lib.hid (H1.out h0 rfl)
            have h0' : y ≤ x := by omega
            clear h0
            go_wp2_with (first | (at_builtin; go_must (
              refine wpList_app _ rfl (.tmp 30) (.tmp 32) 22 3 rfl (.int .i64 0) 1 8 Try.underlying22 info3 rfl (by decide) Ao co out.length (ints out) rfl (hrow.fr (Fr.alloc (Fr.refl [] _) _) (.inr List.not_mem_nil)) _ 1 1 (ints [y]) rfl rfl (sl_new _ _ 3) (ints_one _) (by simp only [maxLen]; omega) (by omega) ?_
              intro A1 c1 w3 hr3 hg3 hb3)))
            go_roundw
            case rel =>
              obtain ⟨g1, g2, g3⟩ := own_app hF HA.out hr3 rfl _ hg3 hb3
              exact ⟨j + 1, out ++ [y], false, A1, c1, by go_num, by simp, rfl, by omega, by simp; omega, g1, g2, g3, HK.out⟩
            case measure => simp [intOf]; omega
      · obtain rfl : j = l.length := by omega
        have hend := putI_end HP.out
        cases laid with
        | true =>
          simp only [Bool.toNat_true] at hol
          have he : out = o := by rw [HO.out]; exact hend
          have HE := Lib.hid he
          clear he hend hs
          go_wp2_with fail
          go_ret
          exact HEND.out out Ao co _ HE.out hrow hF HA.out
        | false =>
          simp only [Bool.toNat_false, Nat.add_zero] at hol
          have he : out ++ [x] = o := by rw [HO.out]; exact hend
          have HE := Lib.hid he
          clear he hend hs
          go_wp2_with (first | (at_builtin; go_must (
            refine wpList_app _ rfl (.tmp 37) (.tmp 39) 22 3 rfl (.int .i64 0) 1 8 Try.underlying22 info3 rfl (by decide) Ao co out.length (ints out) rfl (hrow.fr (Fr.alloc (Fr.refl [] wr) _) (.inr List.not_mem_nil)) _ 1 1 (ints [x]) rfl rfl (sl_new wr _ 3) (ints_one _) (by simp only [maxLen]; omega) (by omega) ?_
            intro A1 c1 w3 hr3 hg3 hb3)))
          go_ret
          obtain ⟨g1, g2, g3⟩ := own_app hF HA.out hr3 rfl _ hg3 hb3
          have := HEND.out (out ++ [x]) A1 c1 _ HE.out g1 g2 g3
          simpa using this
end Go.Proofs.Ytgmnjbnlfpopgaa
