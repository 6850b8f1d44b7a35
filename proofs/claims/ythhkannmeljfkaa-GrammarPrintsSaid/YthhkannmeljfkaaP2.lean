import Derived.Test.YthhkannmeljfkaaR8
import Derived.Test.YthhkannmeljfkaaP1
/-!
Keys that make a command are no fewer than those that are printed for it.
-/
namespace Go.Proofs.Ythhkannmeljfkaa
open Go.RowKit Go.Proofs.Dm

/-- How many digits, four at most. -/
def dl (n : Int) : Nat := if 1000 ≤ n then 4 else if 100 ≤ n then 3 else if 10 ≤ n then 2 else if 1 ≤ n then 1 else 0
theorem dg_dl (n : Int) : (dg n).length = dl n := by
  unfold dg dl
  repeat' split
  all_goals rfl
theorem dl_one (d k : Int) (h0 : 0 ≤ d) (h1 : 48 ≤ k) (h2 : k ≤ 57) : dl (d * 10 + k - 48) ≤ dl d + 1 := by
  unfold dl
  (repeat' split) <;> omega
theorem dl_le (n : Int) : dl n ≤ 4 := by unfold dl; (repeat' split) <;> omega
theorem mul_lt (a b x y : Int) (ha : 0 ≤ a) (hb : 0 ≤ b) (h1 : a ≤ x) (h2 : b ≤ y) : a * b ≤ x * y := Int.mul_le_mul h1 h2 hb (by omega)
theorem dl_mul (a b : Int) (ha : 0 < a) (hb : 0 ≤ b) : dl (a * max b 1) ≤ dl a + dl b := by
  by_cases h1 : b < 1
  · have : max b 1 = 1 := by omega
    rw [this, Int.mul_one]; omega
  · have hm : max b 1 = b := by omega
    rw [hm]
    have hle := dl_le (a * b)
    by_cases a1 : 10 ≤ a
    · by_cases b1 : 10 ≤ b
      · have : 2 ≤ dl a := by unfold dl; (repeat' split) <;> omega
        have : 2 ≤ dl b := by unfold dl; (repeat' split) <;> omega
        omega
      · have hb9 : dl b = 1 := by unfold dl; rw [if_neg (by omega), if_neg (by omega), if_neg (by omega), if_pos (by omega)]
        rw [hb9]
        by_cases a2 : 100 ≤ a
        · have : 3 ≤ dl a := by unfold dl; (repeat' split) <;> omega
          omega
        · have ha2 : dl a = 2 := by unfold dl; rw [if_neg (by omega), if_neg (by omega), if_pos (by omega)]
          have := mul_lt a b 99 9 (by omega) hb (by omega) (by omega)
          unfold dl at *; (repeat' split) <;> omega
    · have ha1 : dl a = 1 := by unfold dl; rw [if_neg (by omega), if_neg (by omega), if_neg (by omega), if_pos (by omega)]
      rw [ha1]
      by_cases b1 : 10 ≤ b
      · by_cases b2 : 100 ≤ b
        · have : 3 ≤ dl b := by unfold dl; (repeat' split) <;> omega
          omega
        · have hb2 : dl b = 2 := by unfold dl; rw [if_neg (by omega), if_neg (by omega), if_pos (by omega)]
          have := mul_lt a b 9 99 (by omega) hb (by omega) (by omega)
          unfold dl at *; (repeat' split) <;> omega
      · have hb2 : dl b = 1 := by unfold dl; rw [if_neg (by omega), if_neg (by omega), if_neg (by omega), if_pos (by omega)]
        have := mul_lt a b 9 9 (by omega) hb (by omega) (by omega)
        unfold dl at *; (repeat' split) <;> omega

def two (x : Int) : Nat := if x = 0 then 0 else 2
def one (x : Int) : Nat := if x = 0 then 0 else 1
def vl (v : Int) : Nat := if 256 ≤ v then 2 else 1
theorem spl_len (v : Int) : (spl v).length = vl v := by unfold spl vl; split <;> rfl
/-- The keys of a command. -/
def ckeys (a b c d e : Int) : List Int := (if d = 0 then [] else [34, d]) ++ dg c ++ (if a = 0 then [] else [a]) ++ spl b ++ (if e = 0 then [] else [e])
def klen (a b c d e : Int) : Nat := two d + dl c + one a + vl b + one e
theorem ckeys_len (a b c d e : Int) : (ckeys a b c d e).length = klen a b c d e := by
  unfold ckeys klen two one
  simp only [List.length_append, dg_dl, spl_len]
  repeat' split
  all_goals simp
/-- How many keys a parser's state stands for. -/
def phi (P : PS) : Nat := two P.reg + dl P.count + dl P.digits + one P.op + one P.char + (if P.st = 34 ∨ P.st = 35 ∨ P.st = 40 ∨ P.st = 48 then 1 else 0)
def pklen (P : PS) : Nat := klen P.op P.verb P.count P.reg P.char
/-- A step stands for one key more at most. -/
def Meas (n : Nat) (r : R3) : Prop := (r.2.2 = 0 → phi (kept r) ≤ n + 1 ∧ (kept r).op < 256 ∧ ((kept r).st = 40 → (kept r).verb < 256)) ∧ (r.2.2 = 1 → pklen (kept r) ≤ n + 1)
theorem meas_ite {n : Nat} {c : Prop} [Decidable c] {a b : R3} (ha : c → Meas n a) (hb : ¬ c → Meas n b) : Meas n (if c then a else b) := by
  split
  · exact ha ‹_›
  · exact hb ‹_›
theorem meas_wrong (n : Nat) (P : PS) : Meas n (pWrong P) := ⟨fun h => by simp [pWrong] at h, fun h => by simp [pWrong] at h⟩
/-- All but the stage's own key. -/
def base (P : PS) : Nat := two P.reg + dl P.count + dl P.digits + one P.op + one P.char
theorem meas_whole (n : Nat) (P : PS) (v : Int) (h : base P + vl v ≤ n + 1) : Meas n (pWhole P v) :=
  ⟨fun h => by simp [pWhole] at h, fun _ => by unfold base at h; show klen P.op v P.count P.reg P.char ≤ _; unfold klen; omega⟩
theorem meas_more (n : Nat) (P : PS) (st : Nat) (h : base P + (if st = 34 ∨ st = 35 ∨ st = 40 ∨ st = 48 then 1 else 0) ≤ n + 1) (ho : P.op < 256) (hv : st = 40 → P.verb < 256) : Meas n (P, st, 0) :=
  ⟨fun _ => ⟨h, ho, hv⟩, fun h => by simp at h⟩
theorem base_phi (P : PS) : base P ≤ phi P := by unfold base phi; omega
theorem base_phi1 (P : PS) (h : P.st = 34 ∨ P.st = 35 ∨ P.st = 40 ∨ P.st = 48) : base P + 1 = phi P := by unfold base phi; rw [if_pos h]
theorem base_close (P : PS) (h0 : 0 ≤ P.digits) (h1 : 0 ≤ P.count) : base P.close ≤ base P := by
  unfold PS.close
  split
  · have := dl_mul P.digits P.count ‹_› h1
    show two P.reg + dl (P.digits * max P.count 1) + dl 0 + one P.op + one P.char ≤ two P.reg + dl P.count + dl P.digits + one P.op + one P.char
    have : dl 0 = 0 := rfl
    omega
  · exact Nat.le_refl _
theorem close_op (P : PS) : P.close.op = P.op ∧ P.close.verb = P.verb ∧ P.close.vis = P.vis ∧ P.close.rc = P.rc := by unfold PS.close; split <;> exact ⟨rfl, rfl, rfl, rfl⟩
theorem vl_le (v : Int) : 1 ≤ vl v ∧ vl v ≤ 2 := by unfold vl; split <;> omega
theorem vl_small {v : Int} (h : v < 256) : vl v = 1 := by unfold vl; rw [if_neg (by omega)]
theorem arrow_small {k : Int} (h : k < 256) : arrowF k < 256 := by unfold arrowF; (repeat' split) <;> omega
theorem pStep_meas (P : PS) (k : Int) (h0 : 0 ≤ P.digits) (h1 : 0 ≤ P.count) (ho : P.op < 256) (hv : P.st = 40 → P.verb < 256) (hst : P.st ∈ stages) : Meas (phi P) (pStep P k) := by
  have hbp := base_phi P
  have hbc := base_close P h0 h1
  have hop := close_op P
  have hdig : ∀ st, st = 18 ∨ st = 39 → isDigit P k = true → Meas (phi P) (pDigit P k st) := by
    intro st hst hd
    simp only [isDigit, Bool.and_eq_true, decide_eq_true_eq] at hd
    have hd1 := dl_one P.digits k h0 hd.1.1 hd.1.2
    refine meas_more _ _ _ ?_ ho (fun h => by omega)
    show two P.reg + dl P.count + dl (P.digits * 10 + k - 48) + one P.op + one P.char + _ ≤ _
    rw [if_neg (by omega)]
    unfold base at hbp
    omega
  have hw1 : ∀ v, v < 256 → Meas (phi P) (pWhole P.close v) := fun v hv => meas_whole _ _ _ (by have := vl_small hv; omega)
  have hm1 : ∀ st, st ≠ 40 → Meas (phi P) (P.close, st, 0) := fun st h40 => meas_more _ _ _ (by split <;> omega) (by rw [hop.1]; exact ho) (fun h => absurd h h40)
  unfold pStep
  refine meas_ite (fun hs => ?_) fun n1 => meas_ite (fun hs => ?_) fun n2 => meas_ite (fun hs => ?_) fun n3 => meas_ite (fun hs => ?_) fun n4 => meas_ite (fun hs => ?_) fun n5 => ?_
  · unfold pBegin
    refine meas_ite (hdig _ (.inl rfl)) fun _ => ?_
    unfold pBegin2
    refine meas_ite (fun _ => hm1 _ (by decide)) fun _ => meas_ite (fun _ => hm1 _ (by decide)) fun _ => meas_ite (fun ha => ?_) fun _ => meas_ite (fun _ => ?_) fun _ => meas_ite (fun ha => ?_) fun _ => meas_ite (fun ha => ?_) fun _ => meas_ite (fun ha => ?_) fun _ => meas_ite (fun ha => ?_) fun _ => meas_wrong _ _
    · have := among_range ha; exact hw1 _ (by omega)
    · unfold pSelected
      refine meas_ite (fun ha => ?_) fun _ => meas_wrong _ _
      rcases ha with ha | ha
      · have := among_range ha; exact hw1 _ (by omega)
      · simp only [ctrlB, Bool.and_eq_true, decide_eq_true_eq] at ha; exact hw1 _ (by omega)
    · have := among_range ha
      refine meas_more _ _ _ ?_ (by show k < 256; omega) (fun h => by simp at h)
      show two P.close.reg + dl P.close.count + dl P.close.digits + one k + one P.close.char + _ ≤ _
      have : one k ≤ 1 := by unfold one; split <;> omega
      unfold base at hbc
      rw [if_neg (by decide)]
      unfold base at hbp
      omega
    · exact hw1 _ (by omega)
    · refine meas_more _ _ _ ?_ (by show P.close.op < 256; rw [hop.1]; exact ho) (fun _ => by show k < 256; omega)
      show base P.close + _ ≤ _
      rw [if_pos (by decide)]
      omega
    · rcases ha with ha | ha
      · have := among_range ha; exact hw1 _ (by omega)
      · simp only [ctrlB, Bool.and_eq_true, decide_eq_true_eq] at ha; exact hw1 _ (by omega)
  · unfold pRegister
    refine meas_ite (fun _ => ?_) fun _ => meas_wrong _ _
    have hb1 := base_phi1 P (by omega)
    refine meas_more _ _ _ ?_ ho (fun h => by simp at h)
    show two k + dl P.count + dl P.digits + one P.op + one P.char + _ ≤ _
    have : two k ≤ 2 := by unfold two; split <;> omega
    rw [if_neg (by decide)]
    unfold base at hb1
    omega
  · have hb1 := base_phi1 P (by omega)
    have hw2 : ∀ v, Meas (phi P) (pWhole P v) := fun v => meas_whole _ _ _ (by have := vl_le v; omega)
    unfold pSecond
    exact meas_ite (fun _ => hw2 _) fun _ => meas_ite (fun _ => hw2 _) fun _ => meas_wrong _ _
  · unfold pOperated
    refine meas_ite (hdig _ (.inr rfl)) fun _ => ?_
    unfold pOperated2
    refine meas_ite (fun ha => ?_) fun _ => meas_ite (fun ha => ?_) fun _ => meas_ite (fun _ => hm1 _ (by decide)) fun _ => meas_ite (fun _ => hm1 _ (by decide)) fun _ => meas_wrong _ _
    · exact hw1 _ (arrow_small (by rw [ha, hop.1]; exact ho))
    · have := among_range ha; exact hw1 _ (by omega)
  · have hb1 := base_phi1 P (by omega)
    have hvv := vl_small (hv hs)
    unfold pNamed
    refine meas_ite (fun _ => ?_) fun _ => meas_wrong _ _
    refine meas_whole _ _ _ ?_
    show two P.reg + dl P.count + dl P.digits + one P.op + one k + vl P.verb ≤ _
    have : one k ≤ 1 := by unfold one; split <;> omega
    unfold base at hb1
    omega
  · unfold pObject
    refine meas_ite (fun _ => ?_) fun _ => meas_wrong _ _
    have hs : P.st = 48 := by simp only [stages, List.mem_cons, List.not_mem_nil, or_false] at hst; omega
    have hb1 := base_phi1 P (by omega)
    exact meas_whole _ _ _ (by have := vl_le (26880 + k); omega)
end Go.Proofs.Ythhkannmeljfkaa
