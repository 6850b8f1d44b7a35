import Derived.Test.YtblafakafgediaaGreatW44
import Derived.Test.YtblafakafgediaaGreatW43
import Derived.Test.YtblafakafgediaaGreatW50
namespace Go.Proofs.YtblafakafgediaaGreat
open Go.RowKit Go.Proofs.Dm

def hidAt (xs : List RV) (k : Nat) : Bool := (xs.getD k RV.none).h
theorem mem_allR {xs : List RV} {i j : Nat} {x : Nat × RV} : x ∈ allR xs i j ↔ i ≤ x.1 ∧ x.1 < j ∧ x.2 = xs.getD x.1 RV.none := by
  unfold allR
  rw [List.mem_map]
  constructor
  · rintro ⟨k, hk, rfl⟩
    rw [List.mem_range'_1] at hk
    exact ⟨hk.1, by show k < j; omega, rfl⟩
  · rintro ⟨h1, h2, h3⟩
    exact ⟨x.1, List.mem_range'_1.2 ⟨h1, by omega⟩, by rw [← h3]⟩
theorem mem_shownR {l : List (Nat × RV)} {x : Nat × RV} : x ∈ shownR l ↔ x ∈ l ∧ x.2.h = false := by
  unfold shownR
  rw [List.mem_filter]
  simp
theorem mem_sh {xs : List RV} {i j : Nat} {x : Nat × RV} : x ∈ shownR (allR xs i j) ↔ i ≤ x.1 ∧ x.1 < j ∧ x.2 = xs.getD x.1 RV.none ∧ hidAt xs x.1 = false := by
  rw [mem_shownR, mem_allR]
  unfold hidAt
  constructor
  · rintro ⟨⟨h1, h2, h3⟩, h4⟩
    exact ⟨h1, h2, h3, by rw [← h3]; exact h4⟩
  · rintro ⟨h1, h2, h3, h4⟩
    exact ⟨⟨h1, h2, h3⟩, by rw [h3]; exact h4⟩
theorem allR_cut (xs : List RV) (i j k : Nat) (h1 : i ≤ j) (h2 : j ≤ k) : allR xs i k = allR xs i j ++ allR xs j k := by
  unfold allR
  rw [← List.map_append]
  congr 1
  rw [show k - i = (j - i) + (k - j) by omega, ← List.range'_append_1]
  congr 2
  omega
theorem shownR_app (a b : List (Nat × RV)) : shownR (a ++ b) = shownR a ++ shownR b := by unfold shownR; rw [List.filter_append]
theorem sh_cons {xs : List RV} {t j : Nat} (ht : t < j) (hs : hidAt xs t = false) : shownR (allR xs t j) = (t, xs.getD t RV.none) :: shownR (allR xs (t + 1) j) := by
  rw [allR_cons xs t j ht]
  unfold shownR
  rw [List.filter_cons_of_pos]
  show (!(xs.getD t RV.none).h) = true
  unfold hidAt at hs
  rw [hs]
  rfl
theorem next_cases (xs : List RV) (a : Nat) : (nextP xs a = -1 ∧ ∀ i, a ≤ i → i < xs.length → hidAt xs i = true) ∨ ∃ k : Nat, nextP xs a = k ∧ a ≤ k ∧ k < xs.length ∧ hidAt xs k = false := by
  unfold nextP
  cases hf : (allR xs a xs.length).find? fun x => !x.2.h with
  | none =>
    refine .inl ⟨rfl, fun i h1 h2 => ?_⟩
    rw [List.find?_eq_none] at hf
    have := hf (i, xs.getD i RV.none) (mem_allR.2 ⟨h1, h2, rfl⟩)
    simpa [hidAt] using this
  | some x =>
    have h1 := List.find?_some hf
    obtain ⟨h2, h3, h4⟩ := mem_allR.1 (List.mem_of_find?_eq_some hf)
    refine .inr ⟨x.1, rfl, h2, h3, ?_⟩
    unfold hidAt
    rw [← h4]
    simpa using h1
theorem prev_cases (xs : List RV) (b : Nat) (hb : b ≤ xs.length) : (prevP xs b = -1 ∧ ∀ i, i < b → hidAt xs i = true) ∨ ∃ k : Nat, prevP xs b = k ∧ k < xs.length ∧ hidAt xs k = false := by
  unfold prevP downR
  cases hf : (allR xs 0 b).reverse.find? fun x => !x.2.h with
  | none =>
    refine .inl ⟨rfl, fun i h2 => ?_⟩
    rw [List.find?_eq_none] at hf
    have := hf (i, xs.getD i RV.none) (List.mem_reverse.2 (mem_allR.2 ⟨Nat.zero_le _, h2, rfl⟩))
    simpa [hidAt] using this
  | some x =>
    have h1 := List.find?_some hf
    obtain ⟨h2, h3, h4⟩ := mem_allR.1 (List.mem_reverse.1 (List.mem_of_find?_eq_some hf))
    refine .inr ⟨x.1, rfl, by omega, ?_⟩
    unfold hidAt
    rw [← h4]
    simpa using h1
/-- What a settled row is: shown, or 0, and none is shown. -/
def SetR (xs : List RV) (R : Nat) : Prop := (R < xs.length ∧ hidAt xs R = false) ∨ (R = 0 ∧ ∀ i, i < xs.length → hidAt xs i = true)
theorem sett_cases (xs : List RV) (a b : Nat) (hb : b = min (a + 1) xs.length) : ∃ R : Nat, settP xs a b = R ∧ SetR xs R := by
  unfold settP
  rcases next_cases xs a with ⟨h1, h2⟩ | ⟨k, h1, h2, h3, h4⟩
  · rw [h1, if_neg (by omega)]
    rcases prev_cases xs b (by omega) with ⟨p1, p2⟩ | ⟨k, p1, p2, p3⟩
    · refine ⟨0, by rw [p1]; rfl, .inr ⟨rfl, fun i hi => ?_⟩⟩
      rcases Nat.lt_or_ge i b with h | h
      · exact p2 i h
      · exact h2 i (by omega) hi
    · exact ⟨k, by rw [p1]; omega, .inl ⟨p2, p3⟩⟩
  · rw [h1, if_pos (by omega)]
    exact ⟨k, rfl, .inl ⟨h3, h4⟩⟩
theorem next_self (xs : List RV) (R : Nat) (h1 : R < xs.length) (h2 : hidAt xs R = false) : nextP xs R = R := by
  unfold nextP
  rw [allR_cons xs R _ h1, List.find?_cons_of_pos]
  · rfl
  · show (!(xs.getD R RV.none).h) = true
    unfold hidAt at h2
    rw [h2]
    rfl
/-- Settled again it stays. -/
theorem sett_self (xs : List RV) (R : Nat) (h : SetR xs R) : settP xs R (min (R + 1) xs.length) = R := by
  rcases h with ⟨h1, h2⟩ | ⟨rfl, h2⟩
  · unfold settP
    rw [next_self xs R h1 h2, if_pos (by omega)]
  · unfold settP
    rcases next_cases xs 0 with ⟨n1, _⟩ | ⟨k, _, _, n3, n4⟩
    · rw [n1, if_neg (by omega)]
      rcases prev_cases xs (min (0 + 1) xs.length) (by omega) with ⟨p1, _⟩ | ⟨k, _, p2, p3⟩
      · rw [p1]; rfl
      · rw [h2 k p2] at p3; cases p3
    · rw [h2 k n3] at n4; cases n4
def RowsI (xs : List RV) (a h : Nat) : List Int := (rowsP xs a h).map fun x => (x.1 : Int)
theorem mem_rowsI {xs : List RV} {a h R : Nat} : ((R : Nat) : Int) ∈ RowsI xs a h ↔ ∃ x ∈ rowsP xs a h, x.1 = R := by
  unfold RowsI
  rw [List.mem_map]
  constructor
  · rintro ⟨x, h1, h2⟩; exact ⟨x, h1, by omega⟩
  · rintro ⟨x, h1, h2⟩; exact ⟨x, h1, by omega⟩
theorem rows_mem {xs : List RV} {a h : Nat} {x : Nat × RV} (hx : x ∈ rowsP xs a h) : a ≤ x.1 ∧ x.1 < xs.length ∧ hidAt xs x.1 = false := by
  have := mem_sh.1 (List.mem_of_mem_take hx)
  exact ⟨this.1, this.2.1, this.2.2.2⟩
/-- A row is seen when not more than h are shown from the first one on to it. -/
theorem rows_has {xs : List RV} {t R h : Nat} (h1 : t ≤ R) (h2 : R < xs.length) (h3 : hidAt xs R = false) (hl : (shownR (allR xs t (R + 1))).length ≤ h) : ((R : Nat) : Int) ∈ RowsI xs t h := by
  rw [mem_rowsI]
  refine ⟨(R, xs.getD R RV.none), ?_, rfl⟩
  unfold rowsP
  rw [allR_cut xs t (R + 1) xs.length (by omega) (by omega), shownR_app, List.take_append]
  refine List.mem_append_left _ ?_
  rw [List.take_of_length_le hl]
  exact mem_sh.2 ⟨h1, by show R < R + 1; omega, rfl, h3⟩
theorem rows_self {xs : List RV} {R h : Nat} (h2 : R < xs.length) (h3 : hidAt xs R = false) (hh : 1 ≤ h) : ((R : Nat) : Int) ∈ RowsI xs R h := by
  refine rows_has (Nat.le_refl _) h2 h3 ?_
  rw [sh_cons (by omega) h3]
  have : allR xs (R + 1) (R + 1) = [] := by unfold allR; rw [Nat.sub_self]; rfl
  rw [this]
  simpa [shownR] using hh
/-- From the row that is told, another one is the last one that is seen. -/
theorem high_has {xs : List RV} {R h : Nat} (h2 : R < xs.length) (h3 : hidAt xs R = false) (hh : 1 ≤ h) : highP xs (R + 1) h R ≤ R ∧ ((R : Nat) : Int) ∈ RowsI xs (highP xs (R + 1) h R) h := by
  obtain ⟨L, hL⟩ : ∃ L, L = shownR (allR xs 0 (R + 1)) := ⟨_, rfl⟩
  have hD : shownR (downR xs (R + 1) 0) = L.reverse := by
    rw [hL]
    unfold shownR downR
    rw [List.filter_reverse]
  have hR : (R, xs.getD R RV.none) ∈ L := by rw [hL]; exact mem_sh.2 ⟨Nat.zero_le _, by show R < R + 1; omega, rfl, h3⟩
  have hpos : 0 < L.length := List.length_pos_of_mem hR
  obtain ⟨p, hp⟩ : ∃ p, p = L.length - min h L.length := ⟨_, rfl⟩
  have hpl : p < L.length := by omega
  have hget : ((L.reverse.take h).getLast?) = some L[p] := by
    rw [List.getLast?_eq_getElem?, List.length_take, List.length_reverse, List.getElem?_take, if_pos (by omega), List.getElem?_reverse (by omega), List.getElem?_eq_getElem (by omega)]
    congr 2
    omega
  obtain ⟨t, ht⟩ : ∃ t, t = L[p].1 := ⟨_, rfl⟩
  have hhi : highP xs (R + 1) h R = t := by
    unfold highP
    rw [hD, hget, ht]
    rfl
  have hmem : L[p] ∈ shownR (allR xs 0 (R + 1)) := by rw [← hL]; exact List.getElem_mem hpl
  obtain ⟨_, t2, t3, t4⟩ := mem_sh.1 hmem
  rw [← ht] at t2 t3 t4
  have htR : t ≤ R := by omega
  rw [hhi]
  refine ⟨htR, rows_has htR h2 h3 ?_⟩
  have hsp : L = shownR (allR xs 0 t) ++ shownR (allR xs t (R + 1)) := by rw [hL, allR_cut xs 0 t (R + 1) (Nat.zero_le _) (by omega), shownR_app]
  obtain ⟨q, hq⟩ : ∃ q, q = (shownR (allR xs 0 t)).length := ⟨_, rfl⟩
  have hlen : L.length = q + (shownR (allR xs t (R + 1))).length := by rw [hq]; conv => lhs; rw [hsp, List.length_append]
  have hqp : p ≤ q := by
    rcases Nat.lt_or_ge q p with hlt | hge
    · exfalso
      have e1 : L[p]? = (shownR (allR xs (t + 1) (R + 1)))[p - q - 1]? := by
        conv => lhs; rw [hsp]
        rw [List.getElem?_append_right (by omega), ← hq, sh_cons (by omega) t4, show p - q = (p - q - 1) + 1 by omega, List.getElem?_cons_succ]
        rfl
      rw [List.getElem?_eq_getElem hpl] at e1
      have e2 := List.mem_of_getElem? e1.symm
      have e3 := (mem_sh.1 e2).1
      omega
    · exact hge
  have hqp2 : q ≤ p := by
    rcases Nat.lt_or_ge p q with hlt | hge
    · exfalso
      have e1 : L[p]? = (shownR (allR xs 0 t))[p]? := by
        conv => lhs; rw [hsp]
        rw [List.getElem?_append_left (by omega)]
      rw [List.getElem?_eq_getElem hpl] at e1
      have e2 := List.mem_of_getElem? e1.symm
      have e3 := (mem_sh.1 e2).2.1
      omega
    · exact hge
  omega
/-- What the view, that has followed to a settled row, is. -/
theorem foll_props {xs : List RV} {R top h : Nat} {rh : Bool} (hs : SetR xs R) (hh : 1 ≤ h) (hr : (R < xs.length ∧ rh = hidAt xs R) ∨ (xs.length = 0 ∧ rh = false)) :
    (((R : Nat) : Int) ∈ RowsI xs (min (follT xs R top h rh) xs.length) h ∨ ∀ i, i < xs.length → hidAt xs i = true) ∧ follT xs R (follT xs R top h rh) h rh = follT xs R top h rh ∧ (((R : Nat) : Int) ∈ RowsI xs (min top xs.length) h → follT xs R top h rh = top) ∧ follT xs R top h rh ≤ max top R := by
  rcases hs with ⟨h1, h2⟩ | ⟨rfl, h2⟩
  · have hrh : rh = false := by
      rcases hr with ⟨_, e⟩ | ⟨e, _⟩
      · rw [e]; exact h2
      · omega
    subst hrh
    have key : ∀ T : Nat, T ≤ R → ((R : Nat) : Int) ∈ RowsI xs (min T xs.length) h → follT xs R T h false = T := by
      intro T hT hm
      unfold follT
      rw [if_neg (by simp; intro e; simp [e] at h1), if_neg (by omega)]
      exact if_pos hm
    have hle : ∀ T : Nat, ((R : Nat) : Int) ∈ RowsI xs (min T xs.length) h → T ≤ R := by
      intro T hm
      obtain ⟨x, hx, hx1⟩ := mem_rowsI.1 hm
      have := (rows_mem hx).1
      omega
    have hmin : ∀ T : Nat, T ≤ R → min T xs.length = T := fun T hT => by omega
    obtain ⟨T, hT⟩ : ∃ T, T = follT xs R top h false := ⟨_, rfl⟩
    have hTT : T ≤ R ∧ ((R : Nat) : Int) ∈ RowsI xs (min T xs.length) h ∧ T ≤ max top R := by
      rw [hT]
      unfold follT
      rw [if_neg (by simp; intro e; simp [e] at h1)]
      by_cases c1 : R < top
      · rw [if_pos c1, hmin R (Nat.le_refl _)]
        exact ⟨Nat.le_refl _, rows_self h1 h2 hh, by omega⟩
      · rw [if_neg c1]
        by_cases c2 : ((R : Nat) : Int) ∈ (rowsP xs (min top xs.length) h).map (fun x => (x.1 : Int))
        · rw [if_pos c2]
          exact ⟨by omega, c2, by omega⟩
        · rw [if_neg c2]
          obtain ⟨p1, p2⟩ := high_has h1 h2 hh
          rw [hmin _ p1]
          exact ⟨p1, p2, by omega⟩
    rw [← hT]
    exact ⟨.inl hTT.2.1, key T hTT.1 hTT.2.1, fun hm => by rw [hT]; exact key top (hle top hm) hm, hTT.2.2⟩
  · have hz : follT xs 0 top h rh = 0 ∧ follT xs 0 0 h rh = 0 := by
      have hc : xs.length = 0 ∨ rh = true := by
        rcases hr with ⟨e1, e2⟩ | ⟨e, _⟩
        · exact .inr (by rw [e2]; exact h2 0 e1)
        · exact .inl e
      unfold follT
      exact ⟨if_pos hc, if_pos hc⟩
    rw [hz.1]
    refine ⟨.inr h2, hz.2, fun hm => ?_, Nat.zero_le _⟩
    obtain ⟨x, hx, hx1⟩ := mem_rowsI.1 hm
    obtain ⟨_, q2, q3⟩ := rows_mem hx
    rw [h2 _ q2] at q3
    cases q3
theorem vis_nil {xs : List RV} : (shownR (allR xs 0 xs.length)).length = 0 ↔ ∀ i, i < xs.length → hidAt xs i = true := by
  constructor
  · intro h i hi
    cases hh : hidAt xs i with
    | true => rfl
    | false =>
      have hm : (i, xs.getD i RV.none) ∈ shownR (allR xs 0 xs.length) := mem_sh.2 ⟨Nat.zero_le _, hi, rfl, hh⟩
      rw [List.eq_nil_of_length_eq_zero h] at hm
      simp at hm
  · intro h
    cases hl : shownR (allR xs 0 xs.length) with
    | nil => rfl
    | cons x l =>
      have hm : x ∈ shownR (allR xs 0 xs.length) := by rw [hl]; exact List.mem_cons_self ..
      obtain ⟨_, h2, _, h4⟩ := mem_sh.1 hm
      rw [h _ h2] at h4
      cases h4
end Go.Proofs.YtblafakafgediaaGreat
namespace Go.Proofs.YtblafakafgediaaGreat
open Go.RowKit Go.Proofs.Dm

/-- A place, settled: its row and its column. -/
structure Sett (xs : List RV) (pr pc : Int) (R C : Nat) : Prop where
  row : ∃ a : Nat, (a : Int) = max (min pr ((xs.length : Int) - 1)) 0 ∧ settP xs a (min (a + 1) xs.length) = (R : Nat)
  col : (C : Int) = max (min pc ((widthP xs : Int) - 1)) 0
  set_ : SetR xs R
theorem sett_ex (xs : List RV) (pr pc : Int) : ∃ R C, Sett xs pr pc R C := by
  obtain ⟨R, h1, h2⟩ := sett_cases xs (max (min pr ((xs.length : Int) - 1)) 0).toNat _ rfl
  exact ⟨R, (max (min pc ((widthP xs : Int) - 1)) 0).toNat, ⟨_, by omega, h1⟩, by omega, h2⟩
theorem Sett.again {xs : List RV} {pr pc : Int} {R C : Nat} (h : Sett xs pr pc R C) : Sett xs (R : Nat) (C : Nat) R C := by
  have h1 : R < xs.length ∨ R = 0 := by
    rcases h.set_ with h | h
    · exact .inl h.1
    · exact .inr h.1
  refine ⟨⟨R, by omega, sett_self xs R h.set_⟩, ?_, h.set_⟩
  have := h.col
  omega
section
variable {s : List UInt8} {g : Nat} {p : Option Addr} {tl : Bool} {eo : Int} {rs : List RW} {x : GD} {w : World}
theorem HG.wids (h : HG [] s g p tl eo rs x w) : (∀ r ∈ rs.map Prod.fst, r.n ≤ 40) ∧ widthP (rs.map Prod.fst) ≤ 40 := by
  have h1 : ∀ r ∈ rs.map Prod.fst, r.n ≤ 40 := by
    intro r hr
    obtain ⟨r', hr', rfl⟩ := List.mem_map.1 hr
    have h2 := h.bd r' hr'
    rw [(h.ok r' hr').1]
    exact h2.1
  refine ⟨h1, ?_⟩
  have key : ∀ (l : List Nat) (a : Nat), a ≤ 40 → (∀ x ∈ l, x ≤ 40) → l.foldl max a ≤ 40 := by
    intro l
    induction l with
    | nil => intro a ha _; exact ha
    | cons x l ih => intro a ha hl; exact ih _ (Nat.max_le.2 ⟨ha, hl x (List.mem_cons_self ..)⟩) fun y hy => hl y (List.mem_cons_of_mem _ hy)
  exact key _ 0 (by omega) fun x hx => by
    obtain ⟨r, hr, rfl⟩ := List.mem_map.1 hx
    exact h1 r hr
theorem HG.xn (h : HG [] s g p tl eo rs x w) : (rs.map Prod.fst).length = rs.length ∧ rs.length ≤ 400 := ⟨List.length_map .., h.len⟩
theorem HG.settle (h : HG [] s g p tl eo rs x w) {pr pc : Int} {R C : Nat} (hs : Sett (rs.map Prod.fst) pr pc R C) :
    Calls Tryz.prog 15 #[.agg #[.pointer p, .bool tl, .int .i64 eo], .agg #[.int .i64 pr, .int .i64 pc]] w fun en w' => en = .returned (.agg #[.int .i64 (R : Nat), .int .i64 (C : Nat)]) ∧ Fr [] w w' := by
  obtain ⟨a, h1, h2⟩ := hs.row
  have hx := h.xn
  have := settle_any w p tl eo (rs.map Prod.fst) (rs.map Prod.fst).length (widthP (rs.map Prod.fst)) a _ C pr pc h.tr0 rfl (by omega) (fun r hr => by have := h.wids.1 r hr; omega) rfl h1 rfl hs.col
  rw [h2] at this
  exact this
theorem HG.follow (h : HG [] s g p tl eo rs x w) {pr pc : Int} {R C : Nat} (hs : Sett (rs.map Prod.fst) pr pc R C) {top left hh wid T lf : Nat} (h1 : 1 ≤ hh) (h4 : hh ≤ 400) (w4 : wid ≤ 40) (ht : top ≤ 2 ^ 50) (hl : left ≤ 2 ^ 50)
    (hT : T = follT (rs.map Prod.fst) R top hh (hidAt (rs.map Prod.fst) R)) (hlf : (lf : Int) = max (min (left : Int) C) ((C : Int) - wid + 1)) :
    Calls Tryz.prog 16 #[.agg #[.int .i64 (top : Nat), .int .i64 (left : Nat), .int .i64 (hh : Nat), .int .i64 (wid : Nat)], .agg #[.pointer p, .bool tl, .int .i64 eo], .agg #[.int .i64 pr, .int .i64 pc]] w fun en w' => en = .returned (.agg #[.int .i64 (T : Nat), .int .i64 (lf : Nat), .int .i64 (hh : Nat), .int .i64 (wid : Nat)]) ∧ Fr [] w w' := by
  have hx := h.xn
  have hw := h.wids.2
  have hc := hs.col
  have hR : R < (rs.map Prod.fst).length ∨ R = 0 := by
    rcases hs.set_ with h | h
    · exact .inl h.1
    · exact .inr h.1
  refine follow_any w p tl eo pr pc (rs.map Prod.fst) (rs.map Prod.fst).length R C top left hh wid T lf ((rs.map Prod.fst).getD R RV.none) h.tr0 rfl (by omega) (by omega) (fun w' hf => (h.fr0 hf).settle hs) ?_ (by omega) h1 (by omega) ht hl (by omega) hT hlf
  by_cases h0 : R < (rs.map Prod.fst).length
  · exact .inl ⟨h0, by rw [List.getD_eq_getElem?_getD, List.getElem?_eq_getElem h0]; rfl⟩
  · refine .inr ⟨by omega, ?_⟩
    rw [List.getD_eq_getElem?_getD, List.getElem?_eq_none (by omega)]
    rfl
def IntsA (w : World) (l : List Int) (en : Ending) (w' : World) : Prop := ∃ (B : Option Addr) (n c : Nat), en = .returned (.slice B n c) ∧ n = l.length ∧ Sl w' B (intsV l) ∧ Fr [] w w'
theorem IntsAns.ints {l : List (Nat × RV)} {en : Ending} {w' : World} (h : IntsAns w l en w') : IntsA w (l.map fun x => (x.1 : Int)) en w' := by
  obtain ⟨B, n, c, h1, h2, h3, h4⟩ := h
  exact ⟨B, n, c, h1, by rw [List.length_map]; exact h2, by rw [← numI_ints]; exact h3, h4⟩
theorem HG.rows (h : HG [] s g p tl eo rs x w) (top hh : Nat) (left wid : Int) (h4 : hh ≤ 400) :
    Calls Tryz.prog 18 #[.agg #[.int .i64 (top : Nat), .int .i64 left, .int .i64 (hh : Nat), .int .i64 wid], .agg #[.pointer p, .bool tl, .int .i64 eo]] w (IntsA w (RowsI (rs.map Prod.fst) (min top (rs.map Prod.fst).length) hh)) :=
  (rows_any w p tl eo (rs.map Prod.fst) (rs.map Prod.fst).length (min top (rs.map Prod.fst).length) hh (top : Nat) left wid h.tr0 rfl (by have := h.xn; omega) (by unfold BegAt; omega) (by omega)).mono fun _ _ h => h.ints
theorem HG.vis (h : HG [] s g p tl eo rs x w) :
    Calls Tryz.prog 17 #[.agg #[.pointer p, .bool tl, .int .i64 eo]] w (IntsA w ((shownR (allR (rs.map Prod.fst) 0 (rs.map Prod.fst).length)).map fun x => (x.1 : Int))) :=
  (visible_any w p tl eo (rs.map Prod.fst) (rs.map Prod.fst).length h.tr0 rfl (by have := h.xn; omega)).mono fun _ _ h => h.ints
end
theorem rowsI_len (xs : List RV) (a h : Nat) : (RowsI xs a h).length ≤ h := by
  unfold RowsI rowsP
  rw [List.length_map, List.length_take]
  omega
end Go.Proofs.YtblafakafgediaaGreat
