import Derived.Test.YtgmnjbnlfpopgaaHD
namespace Go.Proofs.Ytgmnjbnlfpopgaa
open Go.RowKit Go.Proofs.Dm

/-- Push and Pop besides. -/
structure HOP (T : TypeId) (a : Addr) {α : Type} (d : α) (R : World → List α → Prop) (val : α → Value) (okx : α → Prop) (nPush nPop : FuncId) : Prop where
  mPush : ∀ w, (method 231 T (.pointer (some a)) "Push").run Try.prog w = .ok (nPush, .pointer (some a)) w
  mPop : ∀ w, (method 231 T (.pointer (some a)) "Pop").run Try.prog w = .ok (nPop, .pointer (some a)) w
  rPush : ∀ args w, (callFunc nPush args).run Try.prog w = .ok (.enter nPush args) w
  rPop : ∀ args w, (callFunc nPop args).run Try.prog w = .ok (.enter nPop args) w
  cPush : ∀ w l x, R w l → okx x → l.length < 1000000 → Calls Try.prog nPush #[.pointer (some a), val x] w fun e w' => e = .returned (.tuple #[]) ∧ R w' (l ++ [x])
  cPop : ∀ w l x, R w (l ++ [x]) → Calls Try.prog nPop #[.pointer (some a)] w fun e w' => e = .returned (val x) ∧ R w' l

section
variable {T : TypeId} {a : Addr} {α : Type} {d : α} {lt : α → α → Bool} {R : World → List α → Prop} {nLen nLess nSwap nPush nPop : FuncId} {val : α → Value} {okx okc : α → Prop}
theorem fl_ok {l : List α} (h : ∀ y ∈ l, okc y) {k : Nat} (hk : k < l.length) : okc (fl d l k) := by
  have : fl d l k = l[k] := by simp [fl, List.getD_eq_getElem?_getD, hk]
  rw [this]
  exact h _ (List.getElem_mem hk)
theorem fl_app {l m : List α} {k : Nat} (h : k < l.length) : fl d (l ++ m) k = fl d l k := by simp [fl, List.getD_eq_getElem?_getD, List.getElem?_append_left h]

set_option maxRecDepth 100000 in
theorem push_gen (o : HOK T a d lt R okc nLen nLess nSwap) (p : HOP T a d R val okx nPush nPop) (w : World) (l : List α) (x : α) (h : R w l) (hl : l.length < 1000000) (hx : okx x) (hh : Hp lt (fl d l) l.length) (hok : ∀ y ∈ l ++ [x], okc y) :
    Calls Try.prog 49 #[.iface T (.pointer (some a)), val x] w fun e w' => e = .returned (.tuple #[]) ∧ HpOf d lt R (l ++ [x]) (l.length + 1) w' := by
  have m1 := p.mPush
  have m2 := o.mLen
  have r1 := p.rPush
  have r2 := o.rLen
  have O := Lib.hid o
  have Q := Lib.hid p
  clear o p
  go_enter Try.func49, Try.ntmps49
  go_wp2_with fail
  refine (Q.out.cPush w l x h hx hl).mono ?_
  rintro e w1 ⟨rfl, hR1⟩
  clear h
  go_wp2_with fail
  refine (O.out.cLen w1 _ hR1).mono ?_
  rintro e w2 ⟨rfl, hR2⟩
  have hll : (((l ++ [x]).length : Nat) : Int) = (l.length : Int) + 1 := by simp
  have hi : (l.length : Int) + 1 - 1 = (l.length : Int) := by omega
  have hu : HpUp lt (fl d (l ++ [x])) (l.length + 1) l.length := hp_push (hp_congr hh fun k hk => fl_app hk)
  have hu2 : l.length < (l ++ [x]).length := by simp
  rw [hll]
  have HU := Lib.hid hu
  have HH := Lib.hid hu2
  have HOK' := Lib.hid hok
  clear hll hu hu2 hR1 hh hok
  go_wp2_with fail
  refine (up_gen O.out w2 (l ++ [x]) l.length (l.length + 1) hR2 (by omega) (by simp) HU.out (fun k hk => fl_ok HOK'.out (by simp; omega))).mono ?_
  rintro e w3 ⟨rfl, hR3⟩
  go_wp2
  go_end0
  exact ⟨rfl, hR3⟩

set_option maxRecDepth 100000 in
theorem fix0_gen (o : HOK T a d lt R okc nLen nLess nSwap) (w : World) (l : List α) (h : R w l) (hl : 0 < l.length) (hm : HpMid lt (fl d l) l.length 0) (hok : ∀ y ∈ l, okc y) :
    Calls Try.prog 52 #[.iface T (.pointer (some a)), .int .i64 0] w fun e w' => e = .returned (.tuple #[]) ∧ HpOf d lt R l l.length w' := by
  have m2 := o.mLen
  have r2 := o.rLen
  have O := Lib.hid o
  clear o
  go_enter Try.func52, Try.ntmps52
  go_wp2_with fail
  refine (O.out.cLen w _ h).mono ?_
  rintro e w2 ⟨rfl, hR2⟩
  have HOK' := Lib.hid hok
  clear h hok
  go_wp2_with fail
  refine (down_gen O.out w2 l 0 l.length hR2 (Nat.le_refl _) (Nat.zero_le _) hm (fun k hk => fl_ok HOK'.out hk)).mono ?_
  rintro e w3 ⟨b, l', rfl, hR3, hp, hbn, hb1, hb2⟩
  have HBN := Lib.hid hbn
  clear hbn
  cases b with
  | true =>
    have H1 := Lib.hid (hb1 rfl)
    have HP := Lib.hid hp
    clear hb1 hb2 hp hm
    go_wp2_with fail
    go_end0
    exact ⟨rfl, l', hR3, HP.out, H1.out, HBN.out⟩
  | false =>
    obtain ⟨rfl, hu⟩ := hb2 rfl
    have HU := Lib.hid hu
    clear hb1 hb2 hp hm hu
    go_wp2_with fail
    refine (up_gen O.out w3 l' 0 l'.length hR3 hl (Nat.le_refl _) HU.out (fun k hk => fl_ok HOK'.out hk)).mono ?_
    rintro e w4 ⟨rfl, hR4⟩
    go_wp2
    go_end0
    exact ⟨rfl, hR4⟩

theorem split_last (l : List α) (n : Nat) (h : l.length = n + 1) : l = l.take n ++ [fl d l n] := by
  have h1 := List.take_append_drop n l
  have h2 : l.drop n = [fl d l n] := by
    rw [List.drop_eq_getElem_cons (by omega)]
    have : l.drop (n + 1) = [] := List.drop_eq_nil_of_le (by omega)
    rw [this]
    simp [fl, List.getD_eq_getElem?_getD, show n < l.length by omega]
  rw [h2] at h1
  exact h1.symm
/-- A thing is handed out, and a heap is left. -/
def PopOf (d : α) (lt : α → α → Bool) (R : World → List α → Prop) (val : α → Value) (l : List α) (i : Nat) (e : Ending) (w : World) : Prop :=
  e = .returned (val (fl d l i)) ∧ ∃ l', R w l' ∧ l.Perm (fl d l i :: l') ∧ Hp lt (fl d l') l'.length
theorem pop_end {l l2 : List α} {n i : Nat} {w : World} (hl : l.length = n + 1) (hp2 : l2.Perm l) (hlast : fl d l2 n = fl d l i) (hh : Hp lt (fl d l2) n) (hR : R w (l2.take n)) : ∃ l', R w l' ∧ l.Perm (fl d l i :: l') ∧ Hp lt (fl d l') l'.length := by
  have hl2 : l2.length = n + 1 := by rw [hp2.length_eq]; exact hl
  have hs := split_last (d := d) l2 n hl2
  refine ⟨l2.take n, hR, ?_, ?_⟩
  · have h1 : l2.Perm (fl d l i :: l2.take n) := by
      conv => lhs; rw [hs]
      rw [hlast]
      exact List.perm_append_singleton _ _
    exact hp2.symm.trans h1
  · have : (l2.take n).length = n := by simp; omega
    rw [this]
    exact hp_congr hh fun k hk => by
      conv => rhs; rw [hs]
      rw [fl_app (by omega)]

set_option maxRecDepth 100000 in
set_option maxHeartbeats 800000 in
theorem pop_gen (o : HOK T a d lt R okc nLen nLess nSwap) (p : HOP T a d R val okx nPush nPop) (w : World) (l : List α) (h : R w l) (hl : 0 < l.length) (hh : HpMid lt (fl d l) l.length 0) (hok : ∀ k, 0 < k → k < l.length → okc (fl d l k)) :
    Calls Try.prog 45 #[.iface T (.pointer (some a))] w (PopOf d lt R val l 0) := by
  have hsm := o.small _ _ h
  have m1 := p.mPop
  have m2 := o.mLen
  have m3 := o.mSwap
  have r1 := p.rPop
  have r2 := o.rLen
  have r3 := o.rSwap
  have O := Lib.hid o
  have Q := Lib.hid p
  clear o p
  obtain ⟨n, hn⟩ : ∃ n, l.length = n + 1 := ⟨l.length - 1, by omega⟩
  have hni : ((l.length : Nat) : Int) - 1 = (n : Int) := by omega
  have hnl : n ≤ 1000000 := by omega
  go_enter Try.func45, Try.ntmps45
  have HN := Lib.hid hn
  have HH := Lib.hid hh
  have HOK' := Lib.hid hok
  clear hn hh hsm hok
  go_wp2_with fail
  refine (O.out.cLen w _ h).mono ?_
  rintro e w2 ⟨rfl, hR2⟩
  clear h
  go_wp2_with fail
  refine (O.out.cSwap w2 l 0 n hR2 (by have := HN.out; omega) (by have := HN.out; omega)).mono ?_
  rintro e w3 ⟨rfl, hR3⟩
  clear hR2
  go_wp2_with fail
  have h0 : 0 < l.length := by have := HN.out; omega
  have h1 : n < l.length := by have := HN.out; omega
  have hg : ∀ k, fl d (swl d l 0 n) k = sw (fl d l) 0 n k := fun k => swl_get d l 0 n h0 h1 k
  have hm : HpMid lt (fl d (swl d l 0 n)) n 0 := by
    refine ⟨fun k a b hk0 hpk => ?_, fun k a b _ h00 => absurd h00 (by omega)⟩
    have := par_lt a
    rw [hg, hg, sw_else _ hk0 (by omega), sw_else _ hpk (by omega)]
    exact HH.out.1 k a (by omega) hk0 hpk
  refine (down_gen O.out w3 (swl d l 0 n) 0 n hR3 (by rw [swl_len]; omega) (Nat.zero_le _) hm (fun k hk => by
    rw [hg]
    unfold sw
    split
    · exact HOK'.out n (by omega) h1
    · split
      · omega
      · exact HOK'.out k (by omega) (by omega))).mono ?_
  rintro e w4 ⟨b, l2, rfl, hR4, hp, hbn, hb1, hb2⟩
  have hhp : Hp lt (fl d l2) n := by
    cases b with
    | true => exact hb1 rfl
    | false => obtain ⟨rfl, hu⟩ := hb2 rfl; exact hpUp_zero hu
  have hlast : fl d l2 n = fl d l 0 := by rw [hbn n (Nat.le_refl _), hg, sw_right]
  have hp2 : l2.Perm l := hp.trans (swl_perm d l 0 n h0 h1)
  have hs := split_last (d := d) l2 n (by rw [hp2.length_eq]; exact HN.out)
  rw [hs, hlast] at hR4
  have HP := Lib.hid hp2
  have HL := Lib.hid hlast
  have HHP := Lib.hid hhp
  clear hs hp2 hlast hhp hb1 hb2 hbn hp hm hg hR3 h0 h1
  go_wp2_with fail
  refine (Q.out.cPop w4 _ _ hR4).mono ?_
  rintro e w5 ⟨rfl, hR5⟩
  clear hR4
  go_wp2
  go_ret
  exact ⟨rfl, pop_end HN.out HP.out HL.out HHP.out hR5⟩

set_option maxRecDepth 100000 in
set_option maxHeartbeats 1600000 in
theorem remove_gen (o : HOK T a d lt R okc nLen nLess nSwap) (p : HOP T a d R val okx nPush nPop) (w : World) (l : List α) (i : Nat) (h : R w l) (hi : i < l.length) (hh : Hp lt (fl d l) l.length) (hok : ∀ y ∈ l, okc y) :
    Calls Try.prog 50 #[.iface T (.pointer (some a)), .int .i64 i] w (PopOf d lt R val l i) := by
  have hsm := o.small _ _ h
  have m1 := p.mPop
  have m2 := o.mLen
  have m3 := o.mSwap
  have r1 := p.rPop
  have r2 := o.rLen
  have r3 := o.rSwap
  have O := Lib.hid o
  have Q := Lib.hid p
  clear o p
  obtain ⟨n, hn⟩ : ∃ n, l.length = n + 1 := ⟨l.length - 1, by omega⟩
  have hni : ((l.length : Nat) : Int) - 1 = (n : Int) := by omega
  have hnl : n ≤ 1000000 := by omega
  have hin : i ≤ n := by omega
  go_enter Try.func50, Try.ntmps50
  have HN := Lib.hid hn
  have HH := Lib.hid hh
  have HOK' := Lib.hid hok
  clear hn hh hsm hi hok
  go_wp2_with fail
  refine (O.out.cLen w _ h).mono ?_
  rintro e w2 ⟨rfl, hR2⟩
  clear h
  by_cases hne : n = i
  · subst hne
    have hs := split_last (d := d) l n HN.out
    rw [hs] at hR2
    have HS := Lib.hid hs
    clear hs
    go_wp2_with fail
    refine (Q.out.cPop w2 _ _ hR2).mono ?_
    rintro e w5 ⟨rfl, hR5⟩
    clear hR2
    go_wp2
    go_ret
    exact ⟨rfl, pop_end HN.out (List.Perm.refl _) rfl (hp_less HH.out (by have := HN.out; omega)) hR5⟩
  · have hne' : ((n : Int) != (i : Int)) = true := by simp; omega
    have hlt : i < n := by omega
    clear hne hin
    go_wp2_with fail
    refine (O.out.cSwap w2 l i n hR2 (by have := HN.out; omega) (by have := HN.out; omega)).mono ?_
    rintro e w3 ⟨rfl, hR3⟩
    clear hR2
    go_wp2_with fail
    have h0 : i < l.length := by have := HN.out; omega
    have h1 : n < l.length := by have := HN.out; omega
    have hg : ∀ k, fl d (swl d l i n) k = sw (fl d l) i n k := fun k => swl_get d l i n h0 h1 k
    have hm : HpMid lt (fl d (swl d l i n)) n i := hp_other O.out.ord (f := fl d l) (hp_less HH.out (by omega)) (fun k hk hk0 => by rw [hg, sw_else _ hk0 (by omega)]) hlt
    refine (down_gen O.out w3 (swl d l i n) i n hR3 (by rw [swl_len]; omega) (by omega) hm (fun k hk => sw_ok (f := fl d l) (n := n + 1) (fun k hk => fl_ok HOK'.out (by have := HN.out; omega)) hg (by omega) (by omega) (by omega))).mono ?_
    rintro e w4 ⟨b, l2, rfl, hR4, hp, hbn, hb1, hb2⟩
    have hlast : fl d l2 n = fl d l i := by rw [hbn n (Nat.le_refl _), hg, sw_right]
    have hp2 : l2.Perm l := hp.trans (swl_perm d l i n h0 h1)
    cases b with
    | true =>
      have hhp := hb1 rfl
      have hs := split_last (d := d) l2 n (by rw [hp2.length_eq]; exact HN.out)
      rw [hs, hlast] at hR4
      have HP := Lib.hid hp2
      have HL := Lib.hid hlast
      have HHP := Lib.hid hhp
      clear hs hp2 hlast hhp hb1 hb2 hbn hp hm hg hR3 h0 h1
      go_wp2_with fail
      refine (Q.out.cPop w4 _ _ hR4).mono ?_
      rintro e w5 ⟨rfl, hR5⟩
      clear hR4
      go_wp2
      go_ret
      exact ⟨rfl, pop_end HN.out HP.out HL.out HHP.out hR5⟩
    | false =>
      obtain ⟨hle, hu⟩ := hb2 rfl
      have HU := Lib.hid hu
      have HL := Lib.hid hlast
      have HE := Lib.hid hle
      have HO2 : Hid (∀ k, k < n → okc (fl d l2 k)) := fun k hk => by rw [hle]; exact sw_ok (f := fl d l) (n := n + 1) (fun k hk => fl_ok HOK'.out (by have := HN.out; omega)) hg (by omega) (by omega) (by omega)
      have hl2 : n ≤ l2.length := by rw [hle, swl_len]; omega
      rw [← hle] at HU
      clear hb1 hb2 hbn hp hm hg hR3 hu hle hlast hp2 h0 h1
      go_wp2_with fail
      refine (up_gen O.out w4 l2 i n hR4 hlt hl2 HU.out (fun k hk => HO2.out k hk)).mono ?_
      rintro e w5 ⟨rfl, l3, hR5, hp3, hh3, hb3⟩
      have hp4 : l3.Perm l := hp3.trans (by rw [HE.out]; exact swl_perm d l i n (by have := HN.out; omega) (by have := HN.out; omega))
      have hlast3 : fl d l3 n = fl d l i := by rw [hb3 n (Nat.le_refl _)]; exact HL.out
      have hs := split_last (d := d) l3 n (by rw [hp4.length_eq]; exact HN.out)
      rw [hs, hlast3] at hR5
      have HP4 := Lib.hid hp4
      have HL3 := Lib.hid hlast3
      have HH3 := Lib.hid hh3
      clear hs hp4 hlast3 hh3 hb3 hp3 hR4
      go_wp2_with fail
      refine (Q.out.cPop w5 _ _ hR5).mono ?_
      rintro e w6 ⟨rfl, hR6⟩
      clear hR5
      go_wp2
      go_ret
      exact ⟨rfl, pop_end HN.out HP4.out HL3.out HH3.out hR6⟩
end
end Go.Proofs.Ytgmnjbnlfpopgaa
