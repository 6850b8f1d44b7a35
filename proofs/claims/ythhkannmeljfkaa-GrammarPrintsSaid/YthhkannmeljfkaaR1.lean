import Derived.Test.YthhkannmeljfkaaX2
namespace Go.Proofs.Ythhkannmeljfkaa
open Go.RowKit Go.Proofs.Dm

/-- Is a number one of a text's letters? -/
def inFrom (k : Int) (s : ByteArray) (q : Nat) : Bool := (s.data.toList.drop q).any fun c => k == (c.toNat : Int)
def inB (k : Int) (s : ByteArray) : Bool := inFrom k s 0
theorem inFrom_step (k : Int) (s : ByteArray) (q : Nat) (h : q < s.size) : inFrom k s q = (k == ((s[q]'h).toNat : Int) || inFrom k s (q + 1)) := by
  unfold inFrom
  rw [List.drop_eq_getElem_cons (by simpa using h)]
  rfl
theorem inFrom_end (k : Int) (s : ByteArray) (q : Nat) (h : s.size ≤ q) : inFrom k s q = false := by
  unfold inFrom
  rw [List.drop_eq_nil_of_le (by simpa using h)]
  rfl

theorem in_any (k : Int) (s : ByteArray) (hs : s.size < 60000) (w : World) : Calls Try.prog 24 #[.int .i64 k, .string s] w fun e w' => e = .returned (.bool (inB k s)) ∧ w = w' := by
  go_enter Try.func24, Try.ntmps24
  go_wp2
  go_loopw [5] (fun i wr => wr = w ∧ ∃ q : Nat, i = .int .i64 q ∧ q ≤ s.size ∧ inB k s = inFrom k s q) (fun i _ => s.size - (intOf i).toNat)
  case atStart => exact ⟨rfl, 0, rfl, by omega, rfl⟩
  case round =>
    obtain ⟨rfl, q, rfl, hq, hin⟩ := hrel
    by_cases hp : q < s.size
    · have hst := inFrom_step k s q hp
      have hw8 : wrap64 ((s[q]'hp).toNat : Int) = ((s[q]'hp).toNat : Int) := by have := UInt8.toNat_lt (s[q]'hp); unfold wrap64; omega
      by_cases hk : k = ((s[q]'hp).toNat : Int)
      · have hv : inB k s = true := by rw [hin, hst, hk]; simp
        have hV := Lib.hid hv
        have hk2 : (k == ((s[q]'hp).toNat : Int)) = true := beq_iff_eq.2 hk
        clear hst hin hv hk
        go_wp2
        go_ret
        rw [hV.out]
        exact ⟨rfl, rfl⟩
      · have hk2 : (k == ((s[q]'hp).toNat : Int)) = false := beq_eq_false_iff_ne.2 hk
        have hV := Lib.hid (show inB k s = inFrom k s (q + 1) by rw [hin, hst, hk2]; rfl)
        clear hst hin hk
        go_wp2
        go_roundw
        case rel => exact ⟨trivial, q + 1, by go_num, by omega, hV.out⟩
        case measure => simp [intOf]; omega
    · have hV := Lib.hid (show inB k s = false by rw [hin, inFrom_end k s q (by omega)])
      clear hin
      obtain rfl : q = s.size := by omega
      go_wp2
      go_ret
      rw [hV.out]
      exact ⟨rfl, rfl⟩

theorem in_at (k : Int) (s : ByteArray) (b : Bool) (w : World) (hs : s.size < 60000) (h : inB k s = b) : Calls Try.prog 24 #[.int .i64 k, .string s] w fun e w' => e = .returned (.bool b) ∧ w = w' := by
  subst h
  exact in_any k s hs w

/-- Is a number one with Ctrl? -/
def inC (k : Int) (s : ByteArray) : Bool := decide (1 ≤ k) && decide (k ≤ 26) && inB (k + 96) s
theorem inc_any (k : Int) (s : ByteArray) (hs : s.size < 60000) (w : World) : Calls Try.prog 25 #[.int .i64 k, .string s] w fun e w' => e = .returned (.bool (inC k s)) ∧ w = w' := by
  by_cases h1 : 1 ≤ k
  · by_cases h2 : k ≤ 26
    · have HV : Hid (inC k s = inB (k + 96) s) := by show _ = _; simp [inC, h1, h2]
      go_enter Try.func25, Try.ntmps25
      go_wp2_with (go_at_call 24; go_must (
        refine (in_any (k + 96) s hs _).mono ?_
        rintro e w1 ⟨rfl, rfl⟩))
      go_ret
      rw [HV.out]
      exact ⟨rfl, rfl⟩
    · have HV : Hid (inC k s = false) := by show _ = _; simp [inC, h2]
      have h2'' : 26 < k := by omega
      go_enter Try.func25, Try.ntmps25
      go_wp2
      go_ret
      rw [HV.out]
      exact ⟨rfl, rfl⟩
  · have HV : Hid (inC k s = false) := by show _ = _; simp [inC, h1]
    have h1' : k < 1 := by omega
    go_enter Try.func25, Try.ntmps25
    go_wp2
    go_ret
    rw [HV.out]
    exact ⟨rfl, rfl⟩
theorem inc_at (k : Int) (s : ByteArray) (b : Bool) (w : World) (hs : s.size < 60000) (h : inC k s = b) : Calls Try.prog 25 #[.int .i64 k, .string s] w fun e w' => e = .returned (.bool b) ∧ w = w' := by
  subst h
  exact inc_any k s hs w

/-- The motion's letter of a key; 0: none. -/
def mot (k : Int) : Int := if -6 ≤ k ∧ k ≤ -1 then arrowF k else if inB k sMotions = true then k else 0
theorem motion_any (k : Int) (w : World) : Calls Try.prog 21 #[.int .i64 k] w fun e w' => e = .returned (.int .i64 (mot k)) ∧ w = w' := by
  by_cases h1 : -6 ≤ k
  · by_cases h2 : k ≤ -1
    · have : k = -1 ∨ k = -2 ∨ k = -3 ∨ k = -4 ∨ k = -5 ∨ k = -6 := by omega
      rcases this with rfl | rfl | rfl | rfl | rfl | rfl
      all_goals
        go_enter Try.func21, Try.ntmps21
        go_wp2
        go_ret
        exact ⟨congrArg (fun n => Ending.returned (Value.int .i64 n)) (by decide +kernel), rfl⟩
    · have h2' : -1 < k := by omega
      cases hb : inB k sMotions with
      | true =>
        have HV : Hid (mot k = k) := by show _ = _; simp [mot, h2, hb]
        go_enter Try.func21, Try.ntmps21
        go_wp2_with (go_at_call 24; go_must (
          refine (in_at k sMotions true _ (by decide) hb).mono ?_
          rintro e w1 ⟨rfl, rfl⟩))
        go_ret
        rw [HV.out]
        exact ⟨rfl, rfl⟩
      | false =>
        have HV : Hid (mot k = 0) := by show _ = _; simp [mot, h2, hb]
        go_enter Try.func21, Try.ntmps21
        go_wp2_with (go_at_call 24; go_must (
          refine (in_at k sMotions false _ (by decide) hb).mono ?_
          rintro e w1 ⟨rfl, rfl⟩))
        go_ret
        rw [HV.out]
        exact ⟨rfl, rfl⟩
  · have h1' : k < -6 := by omega
    cases hb : inB k sMotions with
    | true =>
      have HV : Hid (mot k = k) := by show _ = _; simp [mot, h1, hb]
      go_enter Try.func21, Try.ntmps21
      go_wp2_with (go_at_call 24; go_must (
        refine (in_at k sMotions true _ (by decide) hb).mono ?_
        rintro e w1 ⟨rfl, rfl⟩))
      go_ret
      rw [HV.out]
      exact ⟨rfl, rfl⟩
    | false =>
      have HV : Hid (mot k = 0) := by show _ = _; simp [mot, h1, hb]
      go_enter Try.func21, Try.ntmps21
      go_wp2_with (go_at_call 24; go_must (
        refine (in_at k sMotions false _ (by decide) hb).mono ?_
        rintro e w1 ⟨rfl, rfl⟩))
      go_ret
      rw [HV.out]
      exact ⟨rfl, rfl⟩
theorem motion_at (k v : Int) (h : mot k = v) (w : World) : Calls Try.prog 21 #[.int .i64 k] w fun e w' => e = .returned (.int .i64 v) ∧ w = w' := by
  subst h
  exact motion_any k w

/-- Where a reader is. -/
structure RD where
  pos : Nat
  op : Int
  verb : Int
  count : Int
  reg : Int
  char : Int
  what : Int
  err : Int
def rd (L : Value) (R : RD) : Array Value := #[L, .int .i64 R.pos, .int .i64 R.op, .int .i64 R.verb, .int .i64 R.count, .int .i64 R.reg, .int .i64 R.char, .int .i64 R.what, .int .i64 R.err]
def RAt (w : World) (g : Nat) (A : Option Addr) (c : Nat) (l : List Int) (R : RD) : Prop := Blk w g 32 (rd (.slice A l.length c) R) ∧ Sl w A (ints l) ∧ bk A ≠ some g

theorem done_at (w : World) (g : Nat) (A : Option Addr) (c : Nat) (l : List Int) (i : Nat) (op verb count reg char what err v : Int) (h : RAt w g A c l ⟨i, op, verb, count, reg, char, what, err⟩) :
    Calls Try.prog 22 #[.pointer (some ⟨g, 0, none⟩), .int .i64 v] w fun e w' => e = .returned (.tuple #[]) ∧ RAt w' g A c l ⟨i, op, v, count, reg, char, 1, err⟩ ∧ Fr [some g] w w' := by
  obtain ⟨hb, hs, hA⟩ := h
  have f3 := hb.frozen 3
  have f7 := hb.frozen 7
  have c3 : w.cell? ⟨g, 3, none⟩ = some (.int .i64 verb) := hb.cell 3
  have c7 : w.cell? ⟨g, 7, none⟩ = some (.int .i64 what) := hb.cell 7
  go_enter Try.func22, Try.ntmps22
  go_wp2
  have hf : Fr [some g] w ((w.setCell ⟨g, 3, none⟩ (.int .i64 v)).setCell ⟨g, 7, none⟩ (.int .i64 1)) := ((Fr.refl [some g] w).setB (g := g) (by simp) 3 _).setB (g := g) (by simp) 7 _
  go_end0
  exact ⟨rfl, ⟨(hb.set_ 3 _).set_ 7 _, hs.fr hf (.inr (by simpa using hA)), hA⟩, hf⟩
theorem wrong_at (w : World) (g : Nat) (A : Option Addr) (c : Nat) (l : List Int) (i : Nat) (op verb count reg char what err : Int) (h : RAt w g A c l ⟨i, op, verb, count, reg, char, what, err⟩) :
    Calls Try.prog 26 #[.pointer (some ⟨g, 0, none⟩)] w fun e w' => e = .returned (.tuple #[]) ∧ RAt w' g A c l ⟨i, op, verb, count, reg, char, 2, 10⟩ ∧ Fr [some g] w w' := by
  obtain ⟨hb, hs, hA⟩ := h
  have f3 := hb.frozen 7
  have f7 := hb.frozen 8
  have c3 : w.cell? ⟨g, 7, none⟩ = some (.int .i64 what) := hb.cell 7
  have c7 : w.cell? ⟨g, 8, none⟩ = some (.int .i64 err) := hb.cell 8
  go_enter Try.func26, Try.ntmps26
  go_wp2
  have hf : Fr [some g] w ((w.setCell ⟨g, 7, none⟩ (.int .i64 2)).setCell ⟨g, 8, none⟩ (.int .i64 10)) := ((Fr.refl [some g] w).setB (g := g) (by simp) 7 _).setB (g := g) (by simp) 8 _
  go_end0
  exact ⟨rfl, ⟨(hb.set_ 7 _).set_ 8 _, hs.fr hf (.inr (by simpa using hA)), hA⟩, hf⟩
theorem rkey_end (w : World) (g : Nat) (A : Option Addr) (c : Nat) (l : List Int) (op verb count reg char what err : Int) (h : RAt w g A c l ⟨l.length, op, verb, count, reg, char, what, err⟩) (hl : l.length < 1000000) :
    Calls Try.prog 43 #[.pointer (some ⟨g, 0, none⟩)] w fun e w' => e = .returned (.tuple #[.int .i64 0, .bool false]) ∧ RAt w' g A c l ⟨l.length, op, verb, count, reg, char, what, err⟩ ∧ Fr [some g] w w' := by
  obtain ⟨hb, hs, hA⟩ := h
  have c0 : w.cell? ⟨g, 0, none⟩ = some (.slice A l.length c) := hb.cell 0
  have c1 : w.cell? ⟨g, 1, none⟩ = some (.int .i64 l.length) := hb.cell 1
  go_enter Try.func43, Try.ntmps43
  go_wp2_with fail
  go_quiet (fail)
  go_wp2
  have hf : Fr [some g] w (w.drewN nq) := (Fr.refl _ w).drewN _
  refine bodyPost_ret (v := .tuple #[.int .i64 0, .bool false]) (by simp [results, Try.results43, go_sem]) rfl ⟨rfl, ⟨hb.drewN _, hs.fr hf (.inr (by simpa using hA)), hA⟩, hf⟩
theorem rkey_some (w : World) (g : Nat) (A : Option Addr) (c : Nat) (l : List Int) (i : Nat) (op verb count reg char what err : Int) (h : RAt w g A c l ⟨i, op, verb, count, reg, char, what, err⟩) (hl : l.length < 60000) (hi : i < l.length) :
    Calls Try.prog 43 #[.pointer (some ⟨g, 0, none⟩)] w fun e w' => e = .returned (.tuple #[.int .i64 (l.getD i 0), .bool true]) ∧ RAt w' g A c l ⟨i + 1, op, verb, count, reg, char, what, err⟩ ∧ Fr [some g] w w' := by
  obtain ⟨hb, hs, hA⟩ := h
  have c0 : w.cell? ⟨g, 0, none⟩ = some (.slice A l.length c) := hb.cell 0
  have c1 : w.cell? ⟨g, 1, none⟩ = some (.int .i64 i) := hb.cell 1
  have f1 := hb.frozen 1
  have hne : ((i : Int) == (l.length : Int)) = false := beq_eq_false_iff_ne.2 (by omega)
  obtain ⟨ad, rfl, hlt, hcell⟩ := hs.at_ (k := i) (u := .int .i64 (l.getD i 0)) (by simp [ints, List.getD_eq_getElem?_getD, hi])
  have hfar : ad.block ≠ g := by simpa [bk] using hA
  go_enter Try.func43, Try.ntmps43
  go_wp2_with fail
  go_quiet (fail)
  go_wp2_with fail
  have hf : Fr [some g] w ((w.drewN nq).setCell ⟨g, 1, none⟩ (.int .i64 (i + 1))) := ((Fr.refl [some g] w).drewN nq).setB (g := g) (by simp) 1 _
  have hb2 := (hb.drewN nq).set_ 1 (.int .i64 (i + 1))
  have hs2 := hs.fr hf (.inr (by simpa using hA))
  clear hcell c0 c1 f1
  generalize (w.drewN nq).setCell ⟨g, 1, none⟩ (.int .i64 (i + 1)) = W at hf hb2 hs2 ⊢
  obtain ⟨ad', hA', hlt2, hcell⟩ := hs2.at_ (k := i) (u := .int .i64 (l.getD i 0)) (by simp [ints, List.getD_eq_getElem?_getD, hi])
  injection hA' with hA'
  subst hA'
  have c0 : W.cell? ⟨g, 0, none⟩ = some (.slice (some ad) l.length c) := hb2.cell 0
  have c1 : W.cell? ⟨g, 1, none⟩ = some (.int .i64 (i + 1)) := hb2.cell 1
  go_quiet (fail)
  go_wp2
  refine bodyPost_ret (v := .tuple #[.int .i64 (l.getD i 0), .bool true]) (by simp [results, Try.results43, go_sem, hi]) rfl ⟨rfl, ⟨hb2.drewN _, hs2.fr ((Fr.refl [] W).drewN nq) (.inr (List.not_mem_nil)), hA⟩, hf.drewN _⟩
end Go.Proofs.Ythhkannmeljfkaa
