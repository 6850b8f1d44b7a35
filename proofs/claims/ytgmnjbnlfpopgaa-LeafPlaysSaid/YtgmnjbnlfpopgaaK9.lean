import Derived.Test.YtgmnjbnlfpopgaaK8
namespace Go.Proofs.Ytgmnjbnlfpopgaa
open Go.RowKit Go.Proofs.Dm

theorem ins_past (key : Int → Int) (x : Int) : ∀ (a b : List Int), (∀ y ∈ a, ¬ key x < key y) → ins key x (a ++ b) = a ++ ins key x b
  | [], b, _ => rfl
  | y :: a, b, h => by
    show (if key x < key y then _ else y :: ins key x (a ++ b)) = _
    rw [if_neg (h y (List.mem_cons_self ..)), ins_past key x a b fun z hz => h z (List.mem_cons_of_mem _ hz)]
    rfl
/-- Where putting stands behind the first j. -/
def PutAt (x : Int) (l : List Int) (j : Nat) (laid : Bool) (out : List Int) : Prop :=
  (laid = false ∧ out = l.take j ∧ ∀ y ∈ l.take j, ¬ tens x < tens y) ∨ (laid = true ∧ out ++ l.drop j = ins tens x l)
theorem putAt_zero (x : Int) (l : List Int) : PutAt x l 0 false [] := .inl ⟨rfl, rfl, by simp⟩
theorem drop_getD (l : List Int) (j : Nat) (h : j < l.length) : l.drop j = l.getD j 0 :: l.drop (j + 1) := by
  rw [List.drop_eq_getElem_cons h]; simp [List.getD_eq_getElem?_getD, h]
theorem putAt_pass {x : Int} {l : List Int} {j : Nat} {out : List Int} (h : PutAt x l j false out) (hj : j < l.length) (hk : ¬ tens x < tens (l.getD j 0)) : PutAt x l (j + 1) false (out ++ [l.getD j 0]) := by
  rcases h with ⟨_, h2, h3⟩ | ⟨h1, _⟩
  · refine .inl ⟨rfl, by rw [h2, take_snoc l j hj], fun y hy => ?_⟩
    rw [take_snoc l j hj] at hy
    rcases List.mem_append.1 hy with hy | hy
    · exact h3 y hy
    · rw [List.mem_singleton.1 hy]; exact hk
  · cases h1
theorem putAt_lay {x : Int} {l : List Int} {j : Nat} {out : List Int} (h : PutAt x l j false out) (hj : j < l.length) (hk : tens x < tens (l.getD j 0)) : PutAt x l (j + 1) true ((out ++ [x]) ++ [l.getD j 0]) := by
  rcases h with ⟨_, h2, h3⟩ | ⟨h1, _⟩
  · refine .inr ⟨rfl, ?_⟩
    conv => rhs; rw [← List.take_append_drop j l, ins_past tens x _ _ h3, drop_getD l j hj]
    rw [h2]
    show _ = l.take j ++ (if tens x < tens (l.getD j 0) then _ else _)
    rw [if_pos hk]
    simp
  · cases h1
theorem putAt_on {x : Int} {l : List Int} {j : Nat} {out : List Int} (h : PutAt x l j true out) (hj : j < l.length) : PutAt x l (j + 1) true (out ++ [l.getD j 0]) := by
  rcases h with ⟨h1, _⟩ | ⟨_, h2⟩
  · cases h1
  · exact .inr ⟨rfl, by rw [← h2, drop_getD l j hj]; simp⟩
theorem putAt_end {x : Int} {l : List Int} {laid : Bool} {out : List Int} (h : PutAt x l l.length laid out) : (if laid then out else out ++ [x]) = ins tens x l := by
  rcases h with ⟨rfl, h2, h3⟩ | ⟨rfl, h2⟩
  · rw [List.take_length] at h2 h3
    have := ins_past tens x l [] h3
    rw [List.append_nil] at this
    rw [this, h2]; rfl
  · simpa using h2

theorem irow_len {w : World} {e : TypeId} {A : Option Addr} {c n : Nat} {xs : List Int} (h : IRow w e A c xs) (hl : xs.length = n) : ORow w e 1 A c n (ints xs) := by subst hl; exact h
/-- A row of a call's own grows by one. -/
theorem own_app {w wr w3 : World} {xs : List Int} {x : Int} {A A1 : Option Addr} {c1 n : Nat} (hf : Fr [] w wr) (hA : ∀ j, bk A = some j → w.heap.size ≤ j) (hr3 : ORow w3 3 1 A1 c1 n (ints xs ++ ints [x])) (hn : n = xs.length + 1) (o : Obj) (hg3 : Fr [bk A] (wr.alloc o) w3) (hb3 : bk A1 = bk A ∨ bk A1 = some (wr.alloc o).heap.size) :
    IRow w3 3 A1 c1 (xs ++ [x]) ∧ Fr [] w w3 ∧ ∀ j, bk A1 = some j → w.heap.size ≤ j := by
  subst hn
  refine ⟨by rw [← ints_app] at hr3; unfold IRow; rw [List.length_append]; exact hr3, (hf.alloc o).seq hg3 ?_, ?_⟩
  · intro y hy
    simp at hy; subst hy
    cases hb : bk A with
    | none => exact .inr (.inl rfl)
    | some j => exact .inr (.inr ⟨j, hA j hb, rfl⟩)
  · intro j hj
    rcases hb3 with h | h
    · exact hA j (h ▸ hj)
    · rw [h] at hj; injection hj with hj; simp at hj; have := hf.size; omega

set_option maxHeartbeats 1600000 in
theorem put_any (A : Option Addr) (c : Nat) (l : List Int) (x : Int) (w : World) (hs : Sl w A (ints l)) (hn : l.length ≤ 10000) (hx : ten x) (hd : ∀ y ∈ l, ten y) :
    Calls Try.prog 39 #[.slice A l.length c, .int .i64 x] w (RowAns w (ins tens x l)) := by
  have HD := Lib.hid hd
  have HX := Lib.hid hx
  obtain ⟨o, ho⟩ : ∃ o, o = ins tens x l := ⟨_, rfl⟩
  rw [← ho]
  have HO := Lib.hid ho
  clear hd hx ho
  go_enter Try.func39, Try.ntmps39
  go_wp2_with fail
  go_loopw [11, 5, 6] (fun iv ov lv wr => ∃ (j : Nat) (out : List Int) (laid : Bool) (Ao : Option Addr) (co : Nat), iv = .int .i64 j ∧ ov = .slice Ao out.length co ∧ lv = .bool laid ∧ j ≤ l.length ∧ out.length ≤ j + laid.toNat ∧ IRow wr 3 Ao co out ∧ Fr [] w wr ∧ Hid (∀ j, bk Ao = some j → w.heap.size ≤ j) ∧ Hid (PutAt x l j laid out)) (fun iv _ _ _ => l.length - (intOf iv).toNat)
  case atStart => exact ⟨0, [], false, none, 0, rfl, rfl, rfl, Nat.zero_le _, by simp, IRow.nil_ _ _, Fr.refl _ _, (fun j hj => by cases hj), putAt_zero x l⟩
  case round =>
    obtain ⟨j, out, laid, Ao, co, rfl, rfl, rfl, hj, hol, hrow, hF, HA, HP⟩ := hrel
    by_cases hlt : j < l.length
    · obtain ⟨ad, rfl, hcell⟩ := sl_ints (hs.fr hF (.inr List.not_mem_nil)) hlt
      have hdy : ten (l.getD j 0) := HD.out _ (by rw [List.getD_eq_getElem?_getD, List.getElem?_eq_getElem hlt]; exact List.getElem_mem hlt)
      have hpass : ¬ tens x < tens (l.getD j 0) → laid = false → PutAt x l (j + 1) false (out ++ [l.getD j 0]) := fun h e => putAt_pass (by rw [← e]; exact HP.out) hlt h
      have hlay : tens x < tens (l.getD j 0) → laid = false → PutAt x l (j + 1) true ((out ++ [x]) ++ [l.getD j 0]) := fun h e => putAt_lay (by rw [← e]; exact HP.out) hlt h
      have hon : laid = true → PutAt x l (j + 1) true (out ++ [l.getD j 0]) := fun e => putAt_on (by rw [← e]; exact HP.out) hlt
      obtain ⟨y, hy⟩ : ∃ y, y = l.getD j 0 := ⟨_, rfl⟩
      rw [← hy] at hcell hdy hpass hlay hon
      have hcm : ∀ w, Calls Try.prog 12 #[.int .i64 x, .int .i64 y] w fun e w' => e = .returned (.int .i64 (sgn (tens x) (tens y))) ∧ w' = w := fun w => compare_any x y w HX.out.1 HX.out.2 hdy.1 hdy.2
      obtain ⟨sg, hsg⟩ : ∃ sg, sg = sgn (tens x) (tens y) := ⟨_, rfl⟩
      rw [← hsg] at hcm
      have HSG : Hid (sg < 0 ↔ tens x < tens y) := by
        show _ ↔ _
        rw [hsg]; unfold sgn
        split
        · omega
        · split <;> omega
      have H1 := Lib.hid hpass
      have H2 := Lib.hid hlay
      have H3 := Lib.hid hon
      have HCM := Lib.hid hcm
      clear hpass hlay hon hcm hsg hy hdy hs
      cases laid with
      | true =>
        simp only [Bool.toNat_true] at hol
        go_wp2_with (first | (at_builtin; go_must (
          refine wpList_app _ rfl _ _ 22 3 rfl (.int .i64 0) 1 8 Try.underlying22 info3 rfl (by decide) Ao co out.length (ints out) rfl (hrow.fr (Fr.alloc (Fr.refl [] wr) _) (.inr List.not_mem_nil)) _ 1 1 (ints [y]) rfl rfl (sl_new wr _ 3) (ints_one _) (by simp only [maxLen]; omega) (by omega) ?_
          intro A1 c1 w3 hr3 hg3 hb3)))
        go_roundw
        case rel =>
          obtain ⟨g1, g2, g3⟩ := own_app hF HA.out hr3 rfl _ hg3 hb3
          exact ⟨j + 1, out ++ [y], true, A1, c1, by go_num, by simp, rfl, by omega, by simp; omega, g1, g2, g3, H3.out rfl⟩
        case measure => simp [intOf]; omega
      | false =>
        simp only [Bool.toNat_false, Nat.add_zero] at hol
        by_cases h0 : sg < 0
        · have HK := Lib.hid (H2.out (HSG.out.1 h0) rfl)
          go_wp2_with fail
          refine (HCM.out _).mono ?_
          rintro e w1 ⟨rfl, rfl⟩
          go_wp2_with (first | (at_builtin; (
            refine wpList_app _ rfl (.tmp 23) (.tmp 25) 22 3 rfl (.int .i64 0) 1 8 Try.underlying22 info3 rfl (by decide) Ao co out.length (ints out) rfl (hrow.fr (Fr.alloc (Fr.refl [] _) _) (.inr List.not_mem_nil)) _ 1 1 (ints [x]) rfl rfl (sl_new _ _ 3) (ints_one _) (by simp only [maxLen]; omega) (by omega) ?_
            intro A1 c1 w3 hr3 hg3 hb3
            obtain ⟨g1, g2, g3⟩ := own_app hF HA.out hr3 rfl _ hg3 hb3
            have hl1 : (out ++ [x]).length = out.length + 1 := by simp
            have G3 := Lib.hid g3
            have HL1 := Lib.hid hl1
            clear hr3 hg3 hb3 hrow g3 hl1)) | (at_builtin; go_must (
            refine wpList_app _ rfl (.tmp 27) (.tmp 29) 22 3 rfl (.int .i64 0) 1 8 Try.underlying22 info3 rfl (by decide) A1 c1 (out.length + 1) (ints (out ++ [x])) rfl (irow_len (g1.fr (Fr.alloc (Fr.refl [] w3) _) (.inr List.not_mem_nil)) HL1.out) _ 1 1 (ints [y]) rfl rfl (sl_new w3 _ 3) (ints_one _) (by simp only [maxLen]; omega) (by omega) ?_
            intro A2 c2 w4 hr4 hg4 hb4)))
          go_roundw
          case rel =>
            obtain ⟨k1, k2, k3⟩ := own_app g2 G3.out hr4 (by rw [HL1.out]) _ hg4 hb4
            exact ⟨j + 1, (out ++ [x]) ++ [y], true, A2, c2, by go_num, by simp, rfl, by omega, by simp; omega, k1, k2, k3, HK.out⟩
          case measure => simp [intOf]; omega
        · have HK := Lib.hid (H1.out (fun h => h0 (HSG.out.2 h)) rfl)
          have h0' : 0 ≤ sg := by omega
          clear h0
          go_wp2_with fail
          refine (HCM.out _).mono ?_
          rintro e w1 ⟨rfl, rfl⟩
          go_wp2_with (first | (at_builtin; go_must (
            refine wpList_app _ rfl _ _ 22 3 rfl (.int .i64 0) 1 8 Try.underlying22 info3 rfl (by decide) Ao co out.length (ints out) rfl (hrow.fr (Fr.alloc (Fr.refl [] _) _) (.inr List.not_mem_nil)) _ 1 1 (ints [y]) rfl rfl (sl_new _ _ 3) (ints_one _) (by simp only [maxLen]; omega) (by omega) ?_
            intro A1 c1 w3 hr3 hg3 hb3)))
          go_roundw
          case rel =>
            obtain ⟨g1, g2, g3⟩ := own_app hF HA.out hr3 rfl _ hg3 hb3
            exact ⟨j + 1, out ++ [y], false, A1, c1, by go_num, by simp, rfl, by omega, by simp; omega, g1, g2, g3, HK.out⟩
          case measure => simp [intOf]; omega
    · obtain rfl : j = l.length := by omega
      have hend := putAt_end HP.out
      cases laid with
      | true =>
        simp only [Bool.toNat_true] at hol
        have he : out = o := by rw [HO.out]; exact hend
        have HE := Lib.hid he
        clear he hend hs
        go_wp2_with fail
        go_ret
        exact rowAns_end HE.out hrow hF HA.out
      | false =>
        simp only [Bool.toNat_false, Nat.add_zero] at hol
        have he : out ++ [x] = o := by rw [HO.out]; exact hend
        have HE := Lib.hid he
        clear he hend hs
        go_wp2_with (first | (at_builtin; go_must (
          refine wpList_app _ rfl _ _ 22 3 rfl (.int .i64 0) 1 8 Try.underlying22 info3 rfl (by decide) Ao co out.length (ints out) rfl (hrow.fr (Fr.alloc (Fr.refl [] wr) _) (.inr List.not_mem_nil)) _ 1 1 (ints [x]) rfl rfl (sl_new wr _ 3) (ints_one _) (by simp only [maxLen]; omega) (by omega) ?_
          intro A1 c1 w3 hr3 hg3 hb3)))
        go_ret
        obtain ⟨g1, g2, g3⟩ := own_app hF HA.out hr3 rfl _ hg3 hb3
        have := rowAns_end HE.out g1 g2 g3
        simpa using this
end Go.Proofs.Ytgmnjbnlfpopgaa
