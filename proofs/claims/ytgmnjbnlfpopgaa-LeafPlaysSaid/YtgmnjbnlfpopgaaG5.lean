import Derived.Test.YtgmnjbnlfpopgaaG4
namespace Go.Proofs.Ytgmnjbnlfpopgaa
open Go.RowKit Go.Proofs.Dm

theorem pmeth_len (a : Addr) (w : World) : (method 231 64 (.pointer (some a)) "Len").run Try.prog w = .ok (94, .pointer (some a)) w := by kernel_rfl
theorem pmeth_less (a : Addr) (w : World) : (method 231 64 (.pointer (some a)) "Less").run Try.prog w = .ok (95, .pointer (some a)) w := by kernel_rfl
theorem pmeth_swap (a : Addr) (w : World) : (method 231 64 (.pointer (some a)) "Swap").run Try.prog w = .ok (98, .pointer (some a)) w := by kernel_rfl
theorem pmeth_push (a : Addr) (w : World) : (method 231 64 (.pointer (some a)) "Push").run Try.prog w = .ok (97, .pointer (some a)) w := by kernel_rfl
theorem pmeth_pop (a : Addr) (w : World) : (method 231 64 (.pointer (some a)) "Pop").run Try.prog w = .ok (96, .pointer (some a)) w := by kernel_rfl
def ltI (x y : Int) : Bool := decide (x < y)
theorem ltI_ord : Ordd ltI := ⟨fun a b h => by simp [ltI] at h ⊢; omega, fun a b c h k => by simp [ltI] at h k ⊢; omega⟩
def nval (x : Int) : Value := .iface 3 (.int .i64 x)
theorem pile_hok (U : Nat → Prop) (w0 : World) (g r : Nat) : HOK 64 ⟨g, 0, none⟩ (0 : Int) ltI (fun w L => PAt U w0 w g r L) (fun _ => True) 94 95 98 where
  mLen := pmeth_len _
  mLess := pmeth_less _
  mSwap := pmeth_swap _
  rLen := fun _ _ => by kernel_rfl
  rLess := fun _ _ => by kernel_rfl
  rSwap := fun _ _ => by kernel_rfl
  cLen := fun w l h => plen_at U w0 w g r l h
  cLess := fun w l i j h hi hj _ _ => pless_at U w0 w g r l h i j hi hj
  cSwap := fun w l i j h hi hj => pswap_at U w0 w g r l h i j hi hj
  small := fun w l h => h.2.2.2.2.2.1
  ord := ltI_ord
theorem pile_hop (U : Nat → Prop) (w0 : World) (g r : Nat) : HOP 64 ⟨g, 0, none⟩ (0 : Int) (fun w L => PAt U w0 w g r L) nval (fun _ => False) 97 96 where
  mPush := pmeth_push _
  mPop := pmeth_pop _
  rPush := fun _ _ => by kernel_rfl
  rPop := fun _ _ => by kernel_rfl
  cPush := fun w l x h hx hl => hx.elim
  cPop := fun w l x h => ppop_at U w0 w g r l x h

set_option maxRecDepth 100000 in
theorem hpush_at (U : Nat → Prop) (w0 w : World) (g r : Nat) (l : List Int) (x : Int) (h : PAt U w0 w g r l) (hl : l.length < 1000000) (hx : x ∉ l) (hh : Hp ltI (fl 0 l) l.length) :
    Calls Try.prog 49 #[.iface 64 (.pointer (some ⟨g, 0, none⟩)), .iface 3 (.int .i64 x)] w fun e w' => e = .returned (.tuple #[]) ∧ HpOf 0 ltI (fun w L => PAt U w0 w g r L) (l ++ [x]) (l.length + 1) w' := by
  have m1 := pmeth_push ⟨g, 0, none⟩
  have m2 := pmeth_len ⟨g, 0, none⟩
  have r1 := (pile_hop U w0 g r).rPush
  have r2 := (pile_hok U w0 g r).rLen
  have hp := ppush_at U w0 w g r l x h hx hl
  have HP := Lib.hid hp
  clear hp h hx
  go_enter Try.func49, Try.ntmps49
  go_wp2_with fail
  refine HP.out.mono ?_
  rintro e w1 ⟨rfl, hR1⟩
  go_wp2_with fail
  refine (plen_at U w0 w1 g r _ hR1).mono ?_
  rintro e w2 ⟨rfl, hR2⟩
  have hll : (((l ++ [x]).length : Nat) : Int) = (l.length : Int) + 1 := by simp
  have hi : (l.length : Int) + 1 - 1 = (l.length : Int) := by omega
  have hu : HpUp ltI (fl 0 (l ++ [x])) (l.length + 1) l.length := hp_push (hp_congr hh fun k hk => fl_app hk)
  rw [hll]
  have HU := Lib.hid hu
  clear hll hu hR1 hh HP
  go_wp2_with fail
  refine (up_gen (pile_hok U w0 g r) w2 (l ++ [x]) l.length (l.length + 1) hR2 (by omega) (by simp) HU.out (fun k hk => trivial)).mono ?_
  rintro e w3 ⟨rfl, hR3⟩
  go_wp2
  go_end0
  exact ⟨rfl, hR3⟩

/-- What a map tells of a number: whether it is there, and where it stands. -/
theorem look_at {w : World} {r : Nat} {m : List (Int × Value)} {bs : List Nat} {c : Nat} {L : List Int} (h : MapB w r m bs c) (hw : Wh m L) (n : Int) (ok : Bool) :
    ∃ p : Int, (Instr.lookup 57 (.map (some r)) (.int .i64 n) ok).run Try.prog w = .ok (if ok then .tuple #[.agg #[.int .i64 p], .bool (decide (n ∈ L))] else .agg #[.int .i64 p]) w ∧ (n ∈ L → ∃ i : Nat, p = (i : Int) ∧ i < L.length ∧ L.getD i 0 = n) := by
  have hz : (zeroValue 70).run Try.prog w = .ok (.agg #[.int .i64 0]) w := by kernel_rfl
  have hl := run_lookup_int (P := Try.prog) h.toI Try.underlying57 Try.underlying3 _ hz n ok
  by_cases hn : n ∈ L
  · obtain ⟨i, hi, he⟩ := List.mem_iff_getElem.1 hn
    have hg : L.getD i 0 = n := by simp [List.getD_eq_getElem?_getD, hi, he]
    obtain ⟨j, hj, ej⟩ := hw.1 i hi
    rw [hg] at hj ej
    refine ⟨i, ?_, fun _ => ⟨i, rfl, hi, hg⟩⟩
    rw [hl]
    simp [mget, hj, ej, plv, hn]
  · refine ⟨0, ?_, fun h => absurd h hn⟩
    rw [hl]
    simp [mget, hw.2.1 n hn, hn]
/-- A queue behind g that has the numbers S, rising. -/
def QAt (U : Nat → Prop) (w0 w : World) (g r : Nat) (S : List Int) : Prop := ∃ L, PAt U w0 w g r L ∧ Hp ltI (fl 0 L) L.length ∧ L.Perm S ∧ S.Pairwise (· < ·)
theorem QAt.grow {U : Nat → Prop} {w0 w w' : World} {g r : Nat} {S : List Int} (h : QAt U w0 w g r S) (hf : Fr [] w w') : QAt U w0 w' g r S := by
  obtain ⟨L, h1, h2⟩ := h
  exact ⟨L, h1.grow hf, h2⟩
end Go.Proofs.Ytgmnjbnlfpopgaa
