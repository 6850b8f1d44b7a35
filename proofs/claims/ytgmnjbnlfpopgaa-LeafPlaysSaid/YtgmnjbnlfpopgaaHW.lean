import Derived.Test.YtgmnjbnlfpopgaaM1
/-!
container/heap, over whatever has its five methods.
-/
namespace Go.Proofs.Ytgmnjbnlfpopgaa
open Go.RowKit Go.Proofs.Dm

/-- What has a heap's methods: behind the pointer a, of type T; R w l: there it has l. -/
structure HOK (T : TypeId) (a : Addr) {α : Type} (d : α) (lt : α → α → Bool) (R : World → List α → Prop) (okc : α → Prop) (nLen nLess nSwap : FuncId) : Prop where
  mLen : ∀ w, (method 231 T (.pointer (some a)) "Len").run Try.prog w = .ok (nLen, .pointer (some a)) w
  mLess : ∀ w, (method 231 T (.pointer (some a)) "Less").run Try.prog w = .ok (nLess, .pointer (some a)) w
  mSwap : ∀ w, (method 231 T (.pointer (some a)) "Swap").run Try.prog w = .ok (nSwap, .pointer (some a)) w
  rLen : ∀ args w, (callFunc nLen args).run Try.prog w = .ok (.enter nLen args) w
  rLess : ∀ args w, (callFunc nLess args).run Try.prog w = .ok (.enter nLess args) w
  rSwap : ∀ args w, (callFunc nSwap args).run Try.prog w = .ok (.enter nSwap args) w
  cLen : ∀ w l, R w l → Calls Try.prog nLen #[.pointer (some a)] w fun e w' => e = .returned (.int .i64 l.length) ∧ R w' l
  cLess : ∀ w l (i j : Nat), R w l → i < l.length → j < l.length → okc (l.getD i d) → okc (l.getD j d) → Calls Try.prog nLess #[.pointer (some a), .int .i64 i, .int .i64 j] w fun e w' => e = .returned (.bool (lt (l.getD i d) (l.getD j d))) ∧ R w' l
  cSwap : ∀ w l (i j : Nat), R w l → i < l.length → j < l.length → Calls Try.prog nSwap #[.pointer (some a), .int .i64 i, .int .i64 j] w fun e w' => e = .returned (.tuple #[]) ∧ R w' (swl d l i j)
  small : ∀ w l, R w l → l.length ≤ 1000000
  ord : Ordd lt

section
variable {T : TypeId} {a : Addr} {α : Type} {d : α} {lt : α → α → Bool} {R : World → List α → Prop} {okc : α → Prop} {nLen nLess nSwap : FuncId}
def fl (d : α) (l : List α) : Nat → α := fun k => l.getD k d
/-- A heap now, of the same things. -/
def HpOf (d : α) (lt : α → α → Bool) (R : World → List α → Prop) (l : List α) (n : Nat) (w : World) : Prop := ∃ l', R w l' ∧ l'.Perm l ∧ Hp lt (fl d l') n ∧ ∀ k, n ≤ k → fl d l' k = fl d l k

theorem sw_ok {f g : Nat → α} {n i j k : Nat} (h : ∀ k, k < n → okc (f k)) (hg : ∀ k, g k = sw f i j k) (hi : i < n) (hj : j < n) (hk : k < n) : okc (g k) := by
  rw [hg]
  unfold sw
  split
  · exact h _ hj
  · split
    · exact h _ hi
    · exact h _ hk

set_option maxRecDepth 100000 in
set_option maxHeartbeats 1600000 in
theorem up_gen (o : HOK T a d lt R okc nLen nLess nSwap) (w : World) (l : List α) (j n : Nat) (h : R w l) (hj : j < n) (hn : n ≤ l.length) (hu : HpUp lt (fl d l) n j) (hok : ∀ k, k < n → okc (fl d l k)) :
    Calls Try.prog 57 #[.iface T (.pointer (some a)), .int .i64 j] w fun e w' => e = .returned (.tuple #[]) ∧ HpOf d lt R l n w' := by
  have m1 := o.mLess
  have m2 := o.mSwap
  have r1 := o.rLess
  have r2 := o.rSwap
  have O := Lib.hid o
  clear o
  go_enter Try.func57, Try.ntmps57
  go_wp2_with fail
  go_loopw [1] (fun jv wr => ∃ (j : Nat) (l' : List α), jv = .int .i64 j ∧ j < n ∧ R wr l' ∧ l'.Perm l ∧ HpUp lt (fl d l') n j ∧ Hid (∀ k, n ≤ k → fl d l' k = fl d l k) ∧ Hid (∀ k, k < n → okc (fl d l' k))) (fun jv _ => (intOf jv).toNat)
  case atStart => exact ⟨j, l, rfl, hj, h, List.Perm.refl _, hu, fun _ _ => rfl, hok⟩
  case round =>
    obtain ⟨j, l', rfl, hj', hR, hp, hu', HB, HO⟩ := hrel
    have hnl : n ≤ l'.length := by rw [hp.length_eq]; exact hn
    have HP := Lib.hid hp
    clear hp
    have hl' : l'.length ≤ 1000000 := O.out.small _ _ hR
    by_cases hj0 : 0 < j
    · obtain ⟨i, hi⟩ : ∃ i, i = par j := ⟨_, rfl⟩
      have hij : i < j := by rw [hi]; exact par_lt hj0
      have hii : ((j : Int) - 1) / 2 = (i : Int) := by rw [hi]; unfold par; omega
      have hne : ((i : Int) == (j : Int)) = false := by simp; omega
      have HU := Lib.hid hu'
      have HI := Lib.hid hi
      clear hu hu' hi h hj hok
      go_wp2_with fail
      refine (O.out.cLess wr l' j i hR (by omega) (by omega) (HO.out j hj') (HO.out i (by omega))).mono ?_
      rintro e w1 ⟨rfl, hR1⟩
      cases hlt : lt (l'.getD j d) (l'.getD i d) with
      | true =>
        have HLT := Lib.hid hlt
        clear hlt hR
        go_wp2_with fail
        refine (O.out.cSwap w1 l' i j hR1 (by omega) (by omega)).mono ?_
        rintro e w2 ⟨rfl, hR2⟩
        go_wp2_with fail
        go_roundw
        case rel =>
          have hsg : ∀ k, fl d (swl d l' i j) k = sw (fl d l') i j k := fun k => swl_get d l' i j (by omega) (by omega) k
          refine ⟨i, swl d l' i j, rfl, by omega, hR2, (swl_perm d l' i j (by omega) (by omega)).trans HP.out, ?_, fun k hk => by rw [hsg, sw_else _ (by omega) (by omega)]; exact HB.out k hk, fun k hk => sw_ok (HO.out) hsg (by omega) (by omega) hk⟩
          have h1 := hpUp_step O.out.ord HU.out hj0 hj' (by rw [← HI.out]; exact HLT.out)
          rw [← HI.out] at h1
          exact hpUp_congr h1 (by omega) fun k _ => hsg k
        case measure => simp [intOf]; omega
      | false =>
        have HLT := Lib.hid hlt
        clear hlt hR
        go_wp2_with fail
        go_end0
        exact ⟨rfl, l', hR1, HP.out, hpUp_done HU.out (by rw [← HI.out]; exact HLT.out), HB.out⟩
    · obtain rfl : j = 0 := by omega
      have HU := Lib.hid hu'
      clear hu hu' h hj hok
      go_wp2_with fail
      go_end0
      exact ⟨rfl, l', hR, HP.out, hpUp_zero HU.out, HB.out⟩
end
end Go.Proofs.Ytgmnjbnlfpopgaa
