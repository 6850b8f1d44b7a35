import Derived.Test.YthhkannmeljfkaaR2
namespace Go.Proofs.Ythhkannmeljfkaa
open Go.RowKit Go.Proofs.Dm

set_option maxRecDepth 100000 in
theorem among_in_small : ∀ s ∈ [sMotions, sOps, sPlain, sObjects, sOthers, sSeen], ∀ n : Nat, n < 127 → amongB n s = inB n s := by decide +kernel
set_option maxRecDepth 100000 in
theorem letters_mid : ∀ s ∈ [sMotions, sOps, sPlain, sObjects, sOthers, sSeen], ∀ c ∈ s.data.toList, 32 < c.toNat ∧ c.toNat < 127 := by decide +kernel
theorem in_mem {k : Int} {s : ByteArray} (h : inB k s = true) : ∃ c ∈ s.data.toList, k = (c.toNat : Int) := by
  obtain ⟨c, hc, hk⟩ := List.any_eq_true.1 (show (s.data.toList.drop 0).any _ = true from h)
  exact ⟨c, by simpa using hc, by simpa using hk⟩
theorem in_range {k : Int} {s : ByteArray} (h : inB k s = true) : 0 ≤ k ∧ k < 256 := by
  obtain ⟨c, _, rfl⟩ := in_mem h
  have := UInt8.toNat_lt c
  omega
theorem in_mid {k : Int} {s : ByteArray} (hs : s ∈ [sMotions, sOps, sPlain, sObjects, sOthers, sSeen]) (h : inB k s = true) : 32 < k ∧ k < 127 := by
  obtain ⟨c, hc, rfl⟩ := in_mem h
  have := letters_mid s hs c hc
  omega
theorem among_in (k : Int) (s : ByteArray) (hs : s ∈ [sMotions, sOps, sPlain, sObjects, sOthers, sSeen]) : amongB k s = inB k s := by
  by_cases h : 0 ≤ k ∧ k < 127
  · obtain ⟨n, rfl⟩ : ∃ n : Nat, k = n := ⟨k.toNat, by omega⟩
    exact among_in_small s hs n (by omega)
  · have h1 : amongB k s = false := by
      cases ha : amongB k s with
      | false => rfl
      | true => have := among_range ha; omega
    have h2 : inB k s = false := by
      cases ha : inB k s with
      | false => rfl
      | true => have := in_mid hs ha; omega
    rw [h1, h2]
set_option maxRecDepth 100000 in
theorem ctrl_in_small : ∀ s ∈ [sCtrl, sSeenCtrl], ∀ n : Nat, n < 27 → ctrlB n s = inC n s := by decide +kernel
theorem ctrl_in (k : Int) (s : ByteArray) (hs : s ∈ [sCtrl, sSeenCtrl]) : ctrlB k s = inC k s := by
  by_cases h : 0 ≤ k ∧ k < 27
  · obtain ⟨n, rfl⟩ : ∃ n : Nat, k = n := ⟨k.toNat, by omega⟩
    exact ctrl_in_small s hs n (by omega)
  · by_cases h1 : 1 ≤ k
    · have : ¬ k ≤ 26 := by omega
      simp [ctrlB, inC, this]
    · simp [ctrlB, inC, h1]
theorem mot_spec (k : Int) : (0 < mot k ∧ mot k < 127 ∧ amongB (arrowF k) sMotions = true ∧ mot k = arrowF k) ∨ (mot k = 0 ∧ amongB (arrowF k) sMotions = false) := by
  by_cases h : -6 ≤ k ∧ k ≤ -1
  · have : k = -1 ∨ k = -2 ∨ k = -3 ∨ k = -4 ∨ k = -5 ∨ k = -6 := by omega
    rcases this with rfl | rfl | rfl | rfl | rfl | rfl <;> (left; decide +kernel)
  · have ha : arrowF k = k := by rw [arrowF, if_neg (by omega), if_neg (by omega), if_neg (by omega), if_neg (by omega), if_neg (by omega), if_neg (by omega)]
    rw [ha, among_in k sMotions (by simp)]
    have hm : mot k = if inB k sMotions = true then k else 0 := by simp [mot, h]
    cases hb : inB k sMotions with
    | true => have := in_mid (by simp) hb; left; simp [hm, hb]; omega
    | false => right; simp [hm, hb]

/-- What is told of a reader. -/
def Told (R : RD) (t : List Value × Int × Int) : Prop := R.what = t.2.1 ∧ R.err = t.2.2 ∧ (R.what = 1 → t.1 = five R.op R.verb R.count R.reg R.char)
def RTold (w' : World) (g : Nat) (A : Option Addr) (c : Nat) (l : List Int) (t : List Value × Int × Int) : Prop := ∃ R, RAt w' g A c l R ∧ Told R t

theorem pGo_whole (op verb count reg char v : Int) (st : Nat) (vis rc : Bool) (rest : List Int) : pGo (pWhole ⟨op, verb, count, reg, char, 0, st, vis, rc⟩ v) rest = (five op v count reg char, 1, 0) := by
  simp [pGo, pWhole, kept, overB, cmd5, five]
theorem pGo_wrong (op verb count reg char : Int) (st : Nat) (vis rc : Bool) (rest : List Int) : pGo (pWrong ⟨op, verb, count, reg, char, 0, st, vis, rc⟩) rest = (Zero5, 2, 10) := by
  simp [pGo, pWrong, kept, overB]
theorem pGo_more (op verb count reg char : Int) (st st' : Nat) (vis rc : Bool) (rest : List Int) : pGo (⟨op, verb, count, reg, char, 0, st, vis, rc⟩, st', 0) rest = pRun ⟨op, verb, count, reg, char, 0, st', vis, rc⟩ rest := by
  simp [pGo, kept, overB]

/-- What the key behind g, or i, comes to. -/
def secT (op verb count reg char first : Int) (letters : ByteArray) : List Int → List Value × Int × Int
  | [] => (Zero5, 0, 0)
  | k :: _ => if inB k letters = true then (five op (first * 256 + k) count reg char, 1, 0) else (Zero5, 2, 10)
theorem sec_at (w : World) (g : Nat) (A : Option Addr) (c : Nat) (l : List Int) (i : Nat) (op verb count reg char : Int) (first : Int) (letters : ByteArray) (hs : letters.size < 60000) (hl : l.length < 60000) (hi : i ≤ l.length) (h0 : 0 ≤ first) (h1 : first < 200)
    (h : RAt w g A c l ⟨i, op, verb, count, reg, char, 0, 0⟩) :
    Calls Try.prog 23 #[.pointer (some ⟨g, 0, none⟩), .int .i64 first, .string letters] w fun e w' => e = .returned (.tuple #[]) ∧ Fr [some g] w w' ∧ RTold w' g A c l (secT op verb count reg char first letters (l.drop i)) := by
  by_cases hlt : i < l.length
  · rw [drop_at l i hlt]
    simp only [secT]
    have hkey := rkey_some w g A c l i op verb count reg char 0 0 h hl hlt
    obtain ⟨k, hk⟩ : ∃ k, k = l.getD i 0 := ⟨_, rfl⟩
    rw [← hk] at hkey ⊢
    have HK := Lib.hid hkey
    clear hk h hkey
    cases hb : inB k letters with
    | true =>
      have hr := in_range hb
      rw [if_pos rfl]
      go_enter Try.func23, Try.ntmps23
      go_wp2_with fail
      refine HK.out.mono ?_
      rintro e w1 ⟨rfl, h1', hf1⟩
      go_wp2_with fail
      refine (in_at k letters true _ hs hb).mono ?_
      rintro e w2 ⟨rfl, rfl⟩
      go_wp2_with fail
      refine (done_at w1 g A c l (i + 1) op verb count reg char 0 0 _ h1').mono ?_
      rintro e w2 ⟨rfl, h2, hf2⟩
      go_wp2
      refine bodyPost_ret (results_none rfl _ _ _) rfl ?_
      exact ⟨rfl, hf1.trans hf2, _, h2, rfl, rfl, fun _ => rfl⟩
    | false =>
      rw [if_neg (by simp)]
      go_enter Try.func23, Try.ntmps23
      go_wp2_with fail
      refine HK.out.mono ?_
      rintro e w1 ⟨rfl, h1', hf1⟩
      go_wp2_with fail
      refine (in_at k letters false _ hs hb).mono ?_
      rintro e w2 ⟨rfl, rfl⟩
      go_wp2_with fail
      refine (wrong_at w1 g A c l (i + 1) op verb count reg char 0 0 h1').mono ?_
      rintro e w2 ⟨rfl, h2, hf2⟩
      go_wp2
      go_end0
      exact ⟨rfl, hf1.trans hf2, _, h2, rfl, rfl, fun h => by cases h⟩
  · obtain rfl : i = l.length := by omega
    rw [List.drop_length]
    go_enter Try.func23, Try.ntmps23
    go_wp2_with fail
    refine (rkey_end w g A c l op verb count reg char 0 0 h (by omega)).mono ?_
    rintro e w1 ⟨rfl, h1', hf1⟩
    go_wp2
    refine bodyPost_ret (results_none rfl _ _ _) rfl ?_
    exact ⟨rfl, hf1, _, h1', rfl, rfl, fun h => by cases h⟩
end Go.Proofs.Ythhkannmeljfkaa
