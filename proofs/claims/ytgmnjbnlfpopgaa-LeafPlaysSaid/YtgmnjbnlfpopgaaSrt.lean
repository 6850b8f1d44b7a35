/-!
Rows in order by a number of each thing; those that stand alike as they came.
-/
namespace Go.Proofs.Dm

def ins (key : Int → Int) (x : Int) : List Int → List Int
  | [] => [x]
  | y :: r => if key x < key y then x :: y :: r else y :: ins key x r
def srt (key : Int → Int) (l : List Int) : List Int := l.foldl (fun out x => ins key x out) []
def Sd (key : Int → Int) (l : List Int) : Prop := l.Pairwise fun a b => key a ≤ key b
def at_ (key : Int → Int) (t : Int) (l : List Int) : List Int := l.filter fun x => key x == t

section
variable {key : Int → Int}
theorem ins_len (x : Int) : ∀ l, (ins key x l).length = l.length + 1
  | [] => rfl
  | y :: r => by unfold ins; split <;> simp [ins_len x r]
theorem ins_mem {x z : Int} : ∀ {l}, z ∈ ins key x l ↔ z = x ∨ z ∈ l
  | [] => by simp [ins]
  | y :: r => by
    unfold ins
    split
    · simp
    · simp only [List.mem_cons, ins_mem (l := r)]
      exact ⟨fun h => h.elim (fun h => .inr (.inl h)) fun h => h.elim .inl fun h => .inr (.inr h), fun h => h.elim (fun h => .inr (.inl h)) fun h => h.elim .inl fun h => .inr (.inr h)⟩
theorem ins_sd {x : Int} : ∀ {l}, Sd key l → Sd key (ins key x l)
  | [], _ => by simp [ins, Sd]
  | y :: r, h => by
    unfold ins
    have h1 := List.pairwise_cons.1 h
    split
    · rename_i hxy
      refine List.pairwise_cons.2 ⟨fun z hz => ?_, h⟩
      rcases List.mem_cons.1 hz with rfl | hz
      · omega
      · have := h1.1 z hz; omega
    · rename_i hxy
      refine List.pairwise_cons.2 ⟨fun z hz => ?_, ins_sd h1.2⟩
      rcases ins_mem.1 hz with rfl | hz
      · omega
      · exact h1.1 z hz
theorem ins_at {x : Int} (t : Int) : ∀ {l}, Sd key l → at_ key t (ins key x l) = at_ key t l ++ at_ key t [x]
  | [], _ => by simp [ins, at_]
  | y :: r, h => by
    have h1 := List.pairwise_cons.1 h
    unfold ins
    split
    · rename_i hxy
      by_cases hx : key x = t
      · have hn : at_ key t (y :: r) = [] := by
          refine List.filter_eq_nil_iff.2 fun z hz => ?_
          rcases List.mem_cons.1 hz with rfl | hz
          · simp; omega
          · have := h1.1 z hz; simp; omega
        rw [hn]
        show at_ key t ([x] ++ (y :: r)) = _
        unfold at_ at *
        rw [List.filter_append, hn]; simp
      · have : at_ key t [x] = [] := by simp [at_, hx]
        rw [this, List.append_nil]
        unfold at_
        rw [List.filter_cons]
        simp [hx]
    · have ih := ins_at (x := x) t h1.2
      unfold at_ at *
      rw [List.filter_cons, List.filter_cons, ih]
      split <;> simp
theorem foldl_sd (l : List Int) : ∀ out, Sd key out → Sd key (l.foldl (fun out x => ins key x out) out) := by
  induction l with
  | nil => intro out h; exact h
  | cons x l ih => intro out h; exact ih _ (ins_sd h)
theorem foldl_at (l : List Int) (t : Int) : ∀ out, Sd key out → at_ key t (l.foldl (fun out x => ins key x out) out) = at_ key t out ++ at_ key t l := by
  induction l with
  | nil => intro out h; simp [at_]
  | cons x l ih =>
    intro out h
    have h1 := ih _ (ins_sd (x := x) h)
    rw [ins_at t h] at h1
    show at_ key t (l.foldl _ (ins key x out)) = _
    rw [h1]
    unfold at_
    rw [List.append_assoc, ← List.filter_append]
    rfl
theorem srt_sd (l : List Int) : Sd key (srt key l) := foldl_sd l [] List.Pairwise.nil
theorem srt_at (l : List Int) (t : Int) : at_ key t (srt key l) = at_ key t l := by
  have := foldl_at (key := key) l t [] List.Pairwise.nil
  simpa [at_, srt] using this
theorem at_mem {l : List Int} {x t : Int} : x ∈ at_ key t l ↔ x ∈ l ∧ key x = t := by simp [at_]
theorem srt_mem {l : List Int} {x : Int} : x ∈ srt key l ↔ x ∈ l := by
  have h : x ∈ at_ key (key x) (srt key l) ↔ x ∈ at_ key (key x) l := by rw [srt_at]
  simpa [at_mem] using h
theorem foldl_len (l : List Int) : ∀ out, (l.foldl (fun out x => ins key x out) out).length = out.length + l.length := by
  induction l with
  | nil => intro out; rfl
  | cons x l ih => intro out; show (l.foldl _ (ins key x out)).length = _; rw [ih, ins_len]; simp; omega
theorem srt_len (l : List Int) : (srt key l).length = l.length := by
  have := foldl_len (key := key) l []
  simpa [srt] using this
theorem srt_snoc (l : List Int) (x : Int) : srt key (l ++ [x]) = ins key x (srt key l) := by simp [srt]
/-- In order, and each number's things the same: the same row. -/
theorem sd_uniq : ∀ {a b : List Int}, Sd key a → Sd key b → (∀ t, at_ key t a = at_ key t b) → a = b
  | [], [], _, _, _ => rfl
  | [], y :: b, _, _, h => by have := h (key y); simp [at_] at this
  | x :: a, [], _, _, h => by have := h (key x); simp [at_] at this
  | x :: a, y :: b, ha, hb, h => by
    have ha1 := List.pairwise_cons.1 ha
    have hb1 := List.pairwise_cons.1 hb
    have hxy : key x = key y := by
      have h1 : x ∈ at_ key (key x) (y :: b) := by rw [← h]; simp [at_]
      have h2 : y ∈ at_ key (key y) (x :: a) := by rw [h]; simp [at_]
      have h3 := (at_mem.1 h1).1
      have h4 := (at_mem.1 h2).1
      have h5 : key y ≤ key x := by
        rcases List.mem_cons.1 h3 with rfl | h3
        · omega
        · exact hb1.1 _ h3
      have h6 : key x ≤ key y := by
        rcases List.mem_cons.1 h4 with rfl | h4
        · omega
        · exact ha1.1 _ h4
      omega
    have h0 := h (key x)
    have e1 : at_ key (key x) (x :: a) = x :: at_ key (key x) a := by simp [at_]
    have e2 : at_ key (key x) (y :: b) = y :: at_ key (key x) b := by simp [at_, hxy]
    rw [e1, e2] at h0
    injection h0 with h7 h8
    subst h7
    congr 1
    refine sd_uniq ha1.2 hb1.2 fun t => ?_
    by_cases ht : key x = t
    · rw [← ht]; exact h8
    · have := h t
      unfold at_ at this ⊢
      rw [List.filter_cons, List.filter_cons] at this
      simpa [ht] using this
theorem srt_of_sd {l : List Int} (h : Sd key l) : srt key l = l := sd_uniq (srt_sd l) h (srt_at l)
theorem srt_nil : srt key [] = [] := rfl

/-- The first thing of all rows goes ahead: the least one by its number, then by its row. -/
theorem srt_step {rs : List (List Int)} (hs : ∀ r ∈ rs, Sd key r) {i : Nat} {x : Int} {xs : List Int} (hi : rs[i]? = some (x :: xs))
    (hm : ∀ j y ys, rs[j]? = some (y :: ys) → key x < key y ∨ (key x = key y ∧ i ≤ j)) : srt key rs.flatten = x :: srt key (rs.set i xs).flatten := by
  have hil : i < rs.length := by
    rcases Nat.lt_or_ge i rs.length with h | h
    · exact h
    · rw [List.getElem?_eq_none h] at hi; cases hi
  have hxi : rs[i] = x :: xs := by rw [List.getElem?_eq_getElem hil] at hi; injection hi
  have e1 : rs.flatten = (rs.take i).flatten ++ ((x :: xs) ++ (rs.drop (i + 1)).flatten) := by
    conv => lhs; rw [← List.take_append_drop i rs, List.flatten_append, List.drop_eq_getElem_cons hil, hxi]
    rfl
  have e2 : (rs.set i xs).flatten = (rs.take i).flatten ++ (xs ++ (rs.drop (i + 1)).flatten) := by
    rw [List.set_eq_take_append_cons_drop, if_pos hil, List.flatten_append]
    rfl
  have hall : ∀ z ∈ rs.flatten, key x ≤ key z := by
    intro z hz
    obtain ⟨r, hr, hzr⟩ := List.mem_flatten.1 hz
    obtain ⟨j, hj⟩ := List.getElem?_of_mem hr
    cases r with
    | nil => simp at hzr
    | cons y ys =>
      have h1 := hm j y ys hj
      have h2 := List.pairwise_cons.1 (hs _ hr)
      rcases List.mem_cons.1 hzr with rfl | hzr
      · omega
      · have := h2.1 z hzr; omega
  have hahead : ∀ z ∈ (rs.take i).flatten, key z ≠ key x := by
    intro z hz
    obtain ⟨r, hr, hzr⟩ := List.mem_flatten.1 hz
    obtain ⟨j, hj⟩ := List.getElem?_of_mem hr
    have hji : j < i := by
      rcases Nat.lt_or_ge j i with h | h
      · exact h
      · rw [List.getElem?_eq_none (by rw [List.length_take]; omega)] at hj; cases hj
    rw [List.getElem?_take, if_pos hji] at hj
    cases r with
    | nil => simp at hzr
    | cons y ys =>
      have h1 := hm j y ys hj
      have h2 := List.pairwise_cons.1 (hs _ (List.mem_of_getElem? hj))
      rcases List.mem_cons.1 hzr with rfl | hzr
      · omega
      · have := h2.1 z hzr; omega
  refine sd_uniq (srt_sd _) (List.pairwise_cons.2 ⟨fun z hz => ?_, srt_sd _⟩) fun t => ?_
  · refine hall z ?_
    have := srt_mem.1 hz
    rw [e2] at this
    rw [e1]
    simp only [List.mem_append, List.mem_cons] at this ⊢
    rcases this with h | h | h
    · exact .inl h
    · exact .inr (.inl (.inr h))
    · exact .inr (.inr h)
  · rw [srt_at]
    have hc : at_ key t (x :: srt key (rs.set i xs).flatten) = at_ key t [x] ++ at_ key t (rs.set i xs).flatten := by
      show at_ key t ([x] ++ _) = _
      unfold at_
      rw [List.filter_append]
      congr 1
      exact srt_at (key := key) _ t
    rw [hc, e1, e2]
    unfold at_
    simp only [List.filter_append, List.filter_cons, List.filter_nil]
    by_cases ht : key x = t
    · have hn : (rs.take i).flatten.filter (fun x => key x == t) = [] := List.filter_eq_nil_iff.2 fun z hz => by have := hahead z hz; simp; omega
      rw [hn]; simp [ht]
    · simp [ht]
/-- What is taken out one by one, at most n. -/
theorem take_of_append {a b c : List Int} {n : Nat} (h : a ++ b = c) (hn : a.length = n) : a = c.take n := by
  rw [← h, ← hn]; simp
end
/-- By numbers of places. -/
theorem ins_map (key : Int → Int) (f : Int → Int) (x : Int) : ∀ l : List Int, (ins (fun i => key (f i)) x l).map f = ins key (f x) (l.map f)
  | [] => rfl
  | y :: r => by
    simp only [ins, List.map_cons]
    split
    · rfl
    · simp [ins_map key f x r]
theorem foldl_map (key : Int → Int) (f : Int → Int) (l : List Int) : ∀ out, (l.foldl (fun out x => ins (fun i => key (f i)) x out) out).map f = (l.map f).foldl (fun out x => ins key x out) (out.map f) := by
  induction l with
  | nil => intro out; rfl
  | cons x l ih => intro out; show (l.foldl _ (ins _ x out)).map f = _; rw [ih, ins_map]; rfl
theorem srt_map (key : Int → Int) (f : Int → Int) (l : List Int) : (srt (fun i => key (f i)) l).map f = srt key (l.map f) := foldl_map key f l []
/-- Alike ones stay as they came, where they came rising. -/
def Up (key : Int → Int) (l : List Int) : Prop := l.Pairwise fun a b => key a < key b ∨ (key a = key b ∧ a < b)
theorem ins_up {key : Int → Int} {x : Int} : ∀ {l}, Up key l → (∀ y ∈ l, y < x) → Up key (ins key x l)
  | [], _, _ => by simp [ins, Up]
  | y :: r, h, hx => by
    have h1 := List.pairwise_cons.1 h
    unfold ins
    split
    · rename_i hxy
      refine List.pairwise_cons.2 ⟨fun z hz => ?_, h⟩
      rcases List.mem_cons.1 hz with rfl | hz
      · exact .inl hxy
      · have := h1.1 z hz; omega
    · rename_i hxy
      refine List.pairwise_cons.2 ⟨fun z hz => ?_, ins_up h1.2 fun w hw => hx w (List.mem_cons_of_mem _ hw)⟩
      rcases ins_mem.1 hz with rfl | hz
      · have := hx y (List.mem_cons_self ..); omega
      · exact h1.1 z hz
theorem foldl_up {key : Int → Int} (l : List Int) : ∀ out, Up key out → (∀ y ∈ out, ∀ x ∈ l, y < x) → l.Pairwise (· < ·) → Up key (l.foldl (fun out x => ins key x out) out) := by
  induction l with
  | nil => intro out h _ _; exact h
  | cons x l ih =>
    intro out h h1 h2
    have h3 := List.pairwise_cons.1 h2
    refine ih _ (ins_up h fun y hy => h1 y hy x (List.mem_cons_self ..)) (fun y hy z hz => ?_) h3.2
    rcases ins_mem.1 hy with rfl | hy
    · exact h3.1 z hz
    · exact h1 y hy z (List.mem_cons_of_mem _ hz)
theorem srt_up {key : Int → Int} {l : List Int} (h : l.Pairwise (· < ·)) : Up key (srt key l) := foldl_up l [] List.Pairwise.nil (fun y hy => by simp at hy) h
end Go.Proofs.Dm
