import Derived.Test.YtgmnjbnlfpopgaaHW
namespace Go.Proofs.Ytgmnjbnlfpopgaa
open Go.RowKit Go.Proofs.Dm
section
variable {T : TypeId} {a : Addr} {α : Type} {d : α} {lt : α → α → Bool} {R : World → List α → Prop} {okc : α → Prop} {nLen nLess nSwap : FuncId}
theorem kids {k i : Nat} (h0 : 0 < k) (h : par k = i) : k = 2 * i + 1 ∨ k = 2 * i + 2 := by unfold par at h; omega
/-- What going down leaves: b: whether it went. -/
def DnOf (d : α) (lt : α → α → Bool) (R : World → List α → Prop) (l : List α) (i n : Nat) (e : Ending) (w : World) : Prop :=
  ∃ (b : Bool) (l' : List α), e = .returned (.bool b) ∧ R w l' ∧ l'.Perm l ∧ (∀ k, n ≤ k → fl d l' k = fl d l k) ∧ (b = true → Hp lt (fl d l') n) ∧ (b = false → l' = l ∧ HpUp lt (fl d l) n i)
theorem dn_end {l l' : List α} {i i0 n : Nat} {w : World} (hR : R w l') (hp : l'.Perm l) (hb : ∀ k, n ≤ k → fl d l' k = fl d l k) (hm : HpMid lt (fl d l') n i) (hi : i = i0 → l' = l) (hn : i ≠ i0 → i0 < i ∧ (0 < i → lt (fl d l' i) (fl d l' (par i)) = false))
    (hk : ∀ k, 0 < k → k < n → par k = i → lt (fl d l' k) (fl d l' i) = false) : DnOf d lt R l i0 n (.returned (.bool (decide (i0 < i)))) w := by
  by_cases h : i = i0
  · subst h
    have hl := hi rfl
    subst hl
    exact ⟨false, l', by simp, hR, hp, hb, (fun h => by cases h), fun _ => ⟨rfl, hpMid_done hm hk⟩⟩
  · obtain ⟨h1, h2⟩ := hn h
    exact ⟨true, l', by simp; omega, hR, hp, hb, fun _ => hpMid_end hm h2 hk, (fun h => by cases h)⟩

set_option maxRecDepth 100000 in
set_option maxHeartbeats 3200000 in
theorem down_gen (o : HOK T a d lt R okc nLen nLess nSwap) (w : World) (l : List α) (i0 n : Nat) (h : R w l) (hn : n ≤ l.length) (hi : i0 ≤ n) (hm : HpMid lt (fl d l) n i0) (hok : ∀ k, k < n → okc (fl d l k)) :
    Calls Try.prog 56 #[.iface T (.pointer (some a)), .int .i64 i0, .int .i64 n] w (DnOf d lt R l i0 n) := by
  have m1 := o.mLess
  have m2 := o.mSwap
  have r1 := o.rLess
  have r2 := o.rSwap
  have hsm := o.small _ _ h
  have O := Lib.hid o
  clear o
  go_enter Try.func56, Try.ntmps56
  go_wp2_with fail
  go_loopw [7] (fun iv wr => ∃ (i : Nat) (l' : List α), iv = .int .i64 i ∧ i0 ≤ i ∧ i ≤ n ∧ R wr l' ∧ l'.Perm l ∧ (∀ k, n ≤ k → fl d l' k = fl d l k) ∧ HpMid lt (fl d l') n i ∧ (i = i0 → l' = l) ∧ (i ≠ i0 → i0 < i ∧ (0 < i → lt (fl d l' i) (fl d l' (par i)) = false)) ∧ Hid (∀ k, k < n → okc (fl d l' k))) (fun iv _ => n - (intOf iv).toNat)
  case atStart => exact ⟨i0, l, rfl, Nat.le_refl _, hi, h, List.Perm.refl _, fun _ _ => rfl, hm, fun _ => rfl, fun h => absurd rfl h, hok⟩
  case round =>
    obtain ⟨i, l', rfl, hii, hin, hR, hp, hb, hm', he, hne, HO⟩ := hrel
    have hl' : n ≤ l'.length := by rw [hp.length_eq]; exact hn
    have HP := Lib.hid hp
    have HB := Lib.hid hb
    have HM := Lib.hid hm'
    have HE := Lib.hid he
    have HN := Lib.hid hne
    clear h hm hp hb hm' he hne hok
    by_cases h1 : 2 * i + 1 < n
    · by_cases h2 : 2 * i + 2 < n
      · go_wp2_with fail
        refine (O.out.cLess wr l' (2 * i + 2) (2 * i + 1) hR (by omega) (by omega) (HO.out _ h2) (HO.out _ h1)).mono ?_
        rintro e w1 ⟨rfl, hR1⟩
        cases hlt : lt (l'.getD (2 * i + 2) d) (l'.getD (2 * i + 1) d) with
        | true =>
          have HL2 := Lib.hid hlt
          clear hlt hR
          go_wp2_with fail
          have hjn : 2 * i + 2 < n := by omega
          have hjp : par (2 * i + 2) = i := by unfold par; omega
          have HMIN : Hid (∀ k, 0 < k → k < n → par k = i → lt (fl d l' k) (fl d l' (2 * i + 2)) = false) := by
            show ∀ _, _
            intro k hk0 hkn hkp
            rcases kids hk0 hkp with rfl | rfl
            · exact O.out.ord.asymm _ _ HL2.out
            · exact O.out.ord.refl _
          refine (O.out.cLess w1 l' (2 * i + 2) i hR1 (by omega) (by omega) (HO.out _ hjn) (HO.out _ (by omega))).mono ?_
          rintro e w3 ⟨rfl, hR3⟩
          cases hlt : lt (l'.getD (2 * i + 2) d) (l'.getD i d) with
          | true =>
            have HLT := Lib.hid hlt
            clear hlt hR1
            go_wp2_with fail
            refine (O.out.cSwap w3 l' i (2 * i + 2) hR3 (by omega) (by omega)).mono ?_
            rintro e w4 ⟨rfl, hR4⟩
            go_wp2_with fail
            go_roundw
            case rel =>
              obtain ⟨s1, s2⟩ := hpMid_step (j := 2 * i + 2) O.out.ord HM.out (by omega) hjn hjp HLT.out HMIN.out
              have hsg : ∀ k, fl d (swl d l' i (2 * i + 2)) k = sw (fl d l') i (2 * i + 2) k := fun k => swl_get d l' i (2 * i + 2) (by omega) (by omega) k
              refine ⟨2 * i + 2, swl d l' i (2 * i + 2), by go_num, by omega, by omega, hR4, (swl_perm d l' i (2 * i + 2) (by omega) (by omega)).trans HP.out, fun k hk => ?_, hpMid_congr s1 hjn fun k _ => hsg k, fun h => by omega, fun _ => ⟨by omega, fun _ => ?_⟩, fun k hk => sw_ok HO.out hsg (by omega) (by omega) hk⟩
              · rw [hsg, sw_else _ (by omega) (by omega)]; exact HB.out k hk
              · rw [hsg, hsg]; exact s2
            case measure => simp [intOf]; omega
          | false =>
            have HLT := Lib.hid hlt
            clear hlt hR1
            go_wp2_with fail
            go_ret
            refine dn_end hR3 HP.out HB.out HM.out HE.out HN.out fun k hk0 hkn hkp => ?_
            exact O.out.ord.trans _ _ _ HLT.out (HMIN.out k hk0 hkn hkp)
        | false =>
          have HL2 := Lib.hid hlt
          clear hlt hR
          go_wp2_with fail
          have hjn : 2 * i + 1 < n := by omega
          have hjp : par (2 * i + 1) = i := by unfold par; omega
          have HMIN : Hid (∀ k, 0 < k → k < n → par k = i → lt (fl d l' k) (fl d l' (2 * i + 1)) = false) := by
            show ∀ _, _
            intro k hk0 hkn hkp
            rcases kids hk0 hkp with rfl | rfl
            · exact O.out.ord.refl _
            · exact HL2.out
          refine (O.out.cLess w1 l' (2 * i + 1) i hR1 (by omega) (by omega) (HO.out _ hjn) (HO.out _ (by omega))).mono ?_
          rintro e w3 ⟨rfl, hR3⟩
          cases hlt : lt (l'.getD (2 * i + 1) d) (l'.getD i d) with
          | true =>
            have HLT := Lib.hid hlt
            clear hlt hR1
            go_wp2_with fail
            refine (O.out.cSwap w3 l' i (2 * i + 1) hR3 (by omega) (by omega)).mono ?_
            rintro e w4 ⟨rfl, hR4⟩
            go_wp2_with fail
            go_roundw
            case rel =>
              obtain ⟨s1, s2⟩ := hpMid_step (j := 2 * i + 1) O.out.ord HM.out (by omega) hjn hjp HLT.out HMIN.out
              have hsg : ∀ k, fl d (swl d l' i (2 * i + 1)) k = sw (fl d l') i (2 * i + 1) k := fun k => swl_get d l' i (2 * i + 1) (by omega) (by omega) k
              refine ⟨2 * i + 1, swl d l' i (2 * i + 1), by go_num, by omega, by omega, hR4, (swl_perm d l' i (2 * i + 1) (by omega) (by omega)).trans HP.out, fun k hk => ?_, hpMid_congr s1 hjn fun k _ => hsg k, fun h => by omega, fun _ => ⟨by omega, fun _ => ?_⟩, fun k hk => sw_ok HO.out hsg (by omega) (by omega) hk⟩
              · rw [hsg, sw_else _ (by omega) (by omega)]; exact HB.out k hk
              · rw [hsg, hsg]; exact s2
            case measure => simp [intOf]; omega
          | false =>
            have HLT := Lib.hid hlt
            clear hlt hR1
            go_wp2_with fail
            go_ret
            refine dn_end hR3 HP.out HB.out HM.out HE.out HN.out fun k hk0 hkn hkp => ?_
            exact O.out.ord.trans _ _ _ HLT.out (HMIN.out k hk0 hkn hkp)
      · have hR1 := hR
        clear hR
        go_wp2_with fail
        have hjn : 2 * i + 1 < n := by omega
        have hjp : par (2 * i + 1) = i := by unfold par; omega
        have HMIN : Hid (∀ k, 0 < k → k < n → par k = i → lt (fl d l' k) (fl d l' (2 * i + 1)) = false) := by
          show ∀ _, _
          intro k hk0 hkn hkp
          rcases kids hk0 hkp with rfl | rfl
          · exact O.out.ord.refl _
          · omega
        refine (O.out.cLess wr l' (2 * i + 1) i hR1 (by omega) (by omega) (HO.out _ hjn) (HO.out _ (by omega))).mono ?_
        rintro e w3 ⟨rfl, hR3⟩
        cases hlt : lt (l'.getD (2 * i + 1) d) (l'.getD i d) with
        | true =>
          have HLT := Lib.hid hlt
          clear hlt hR1
          go_wp2_with fail
          refine (O.out.cSwap w3 l' i (2 * i + 1) hR3 (by omega) (by omega)).mono ?_
          rintro e w4 ⟨rfl, hR4⟩
          go_wp2_with fail
          go_roundw
          case rel =>
            obtain ⟨s1, s2⟩ := hpMid_step (j := 2 * i + 1) O.out.ord HM.out (by omega) hjn hjp HLT.out HMIN.out
            have hsg : ∀ k, fl d (swl d l' i (2 * i + 1)) k = sw (fl d l') i (2 * i + 1) k := fun k => swl_get d l' i (2 * i + 1) (by omega) (by omega) k
            refine ⟨2 * i + 1, swl d l' i (2 * i + 1), by go_num, by omega, by omega, hR4, (swl_perm d l' i (2 * i + 1) (by omega) (by omega)).trans HP.out, fun k hk => ?_, hpMid_congr s1 hjn fun k _ => hsg k, fun h => by omega, fun _ => ⟨by omega, fun _ => ?_⟩, fun k hk => sw_ok HO.out hsg (by omega) (by omega) hk⟩
            · rw [hsg, sw_else _ (by omega) (by omega)]; exact HB.out k hk
            · rw [hsg, hsg]; exact s2
          case measure => simp [intOf]; omega
        | false =>
          have HLT := Lib.hid hlt
          clear hlt hR1
          go_wp2_with fail
          go_ret
          refine dn_end hR3 HP.out HB.out HM.out HE.out HN.out fun k hk0 hkn hkp => ?_
          exact O.out.ord.trans _ _ _ HLT.out (HMIN.out k hk0 hkn hkp)
    · go_wp2_with fail
      go_ret
      exact dn_end hR HP.out HB.out HM.out HE.out HN.out fun k hk0 hkn hkp => by rcases kids hk0 hkp with rfl | rfl <;> omega
end
end Go.Proofs.Ytgmnjbnlfpopgaa
