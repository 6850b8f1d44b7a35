import Derived.Test.YtgmnjbnlfpopgaaG6
namespace Go.Proofs.Ytgmnjbnlfpopgaa
open Go.RowKit Go.Proofs.Dm

def insI (n : Int) : List Int → List Int
  | [] => [n]
  | x :: r => if n < x then n :: x :: r else x :: insI n r
def putP (S : List Int) (n : Int) : List Int := if n ∈ S then S else insI n S
theorem insI_perm (n : Int) : ∀ S : List Int, (insI n S).Perm (n :: S)
  | [] => List.Perm.refl _
  | x :: r => by
    unfold insI
    split
    · exact List.Perm.refl _
    · exact ((insI_perm n r).cons x).trans (List.Perm.swap ..)
theorem insI_sd (n : Int) : ∀ S : List Int, n ∉ S → S.Pairwise (· < ·) → (insI n S).Pairwise (· < ·)
  | [], _, _ => by simp [insI]
  | x :: r, hn, hs => by
    obtain ⟨h1, h2⟩ := List.pairwise_cons.1 hs
    unfold insI
    split
    · rename_i hx
      refine List.pairwise_cons.2 ⟨fun y hy => ?_, hs⟩
      rcases List.mem_cons.1 hy with rfl | hy
      · exact hx
      · have := h1 y hy; omega
    · rename_i hx
      refine List.pairwise_cons.2 ⟨fun y hy => ?_, insI_sd n r (fun h => hn (List.mem_cons_of_mem _ h)) h2⟩
      rcases List.mem_cons.1 ((insI_perm n r).mem_iff.1 hy) with rfl | hy
      · have : y ≠ x := fun e => hn (e ▸ List.mem_cons_self ..)
        omega
      · exact h1 y hy
theorem putP_len (S : List Int) (n : Int) : (putP S n).length ≤ S.length + 1 := by
  unfold putP
  split
  · omega
  · rw [(insI_perm n S).length_eq]; simp
theorem nd_of_sd {S : List Int} (h : S.Pairwise (· < ·)) : S.Nodup := h.imp fun h e => by omega
theorem perm_drop {L L' S : List Int} {x : Int} (hp : L.Perm S) (hl : L.Perm (x :: L')) (hs : S.Pairwise (· < ·)) : L'.Perm (S.filter (fun y => y != x)) ∧ (S.filter (fun y => y != x)).Pairwise (· < ·) := by
  have h1 : (x :: L').Perm S := hl.symm.trans hp
  have hnd : (x :: L').Nodup := h1.nodup_iff.2 (nd_of_sd hs)
  have hx : x ∉ L' := (List.nodup_cons.1 hnd).1
  refine ⟨?_, hs.sublist List.filter_sublist⟩
  have h2 := h1.filter (fun y => y != x)
  have h3 : (x :: L').filter (fun y => y != x) = L' := by
    rw [List.filter_cons_of_neg (by simp)]
    exact List.filter_eq_self.2 fun y hy => by simp; exact fun e => hx (e ▸ hy)
  rw [h3] at h2
  exact h2
theorem q_len {U : Nat → Prop} {w0 w : World} {g r : Nat} {S : List Int} (h : QAt U w0 w g r S) : S.length ≤ 1000000 := by
  obtain ⟨L, h1, _, hp, _⟩ := h
  rw [← hp.length_eq]
  exact h1.2.2.2.2.2.1

theorem run_eql_map (r : Nat) (w : World) : (binOp .eql 57 (.map (some r)) (.map none)).run Try.prog w = .ok (.bool false) w := by kernel_rfl
set_option maxRecDepth 100000 in
theorem put_at (U : Nat → Prop) (w0 w : World) (g r : Nat) (S : List Int) (n : Int) (h : QAt U w0 w g r S) (hl : S.length < 1000000) :
    Calls Try.prog 34 #[.pointer (some ⟨g, 0, none⟩), .int .i64 n] w fun e w' => e = .returned (.bool (!decide (n ∈ S))) ∧ QAt U w0 w' g r (putP S n) := by
  have hh := has_at U w0 w g r S n h
  have HQ := Lib.hid h
  have HH := Lib.hid hh
  have HL := Lib.hid hl
  have HB : Hid (∀ w', Fr [] w w' → w'.cell? ⟨g, 1, none⟩ = some (.map (some r)) ∧ g < w'.heap.size) := by
    show ∀ _, _
    intro w' hf
    obtain ⟨L, ⟨_, _, _, _, _, _, A, cap, m, bs, c, k1, _⟩, _⟩ := h
    exact ⟨(k1.fr hf (by simp)).cell 1, (k1.fr hf (by simp)).lt⟩
  clear h hh hl
  by_cases hn : n ∈ S
  · have hd : decide (n ∈ S) = true := by simp [hn]
    have hp : putP S n = S := by simp [putP, hn]
    rw [hd] at HH ⊢
    rw [hp]
    clear hd hp hn HB
    go_enter Try.func34, Try.ntmps34
    go_wp2_with fail
    refine HH.out.mono ?_
    rintro e w1 ⟨rfl, hf1⟩
    go_wp2_with fail
    go_ret
    exact ⟨rfl, HQ.out.grow hf1⟩
  · have hd : decide (n ∈ S) = false := by simp [hn]
    have hp : putP S n = insI n S := by simp [putP, hn]
    rw [hd] at HH ⊢
    rw [hp]
    have HN := Lib.hid hn
    clear hd hp hn
    go_enter Try.func34, Try.ntmps34
    go_wp2_with fail
    refine HH.out.mono ?_
    rintro e w1 ⟨rfl, hf1⟩
    obtain ⟨c1, hg1⟩ := HB.out w1 hf1
    have HQ1 := Lib.hid (HQ.out.grow hf1)
    have hmn := run_eql_map r
    clear HH HB
    go_wp2_with fail
    obtain ⟨L, hP, hH, hpm, hs⟩ := HQ1.out
    have hnL : n ∉ L := fun hh => HN.out (hpm.mem_iff.1 hh)
    refine (hpush_at U w0 w1 g r L n hP (by rw [hpm.length_eq]; exact HL.out) hnL hH).mono ?_
    rintro e w2 ⟨rfl, L2, hR, hp2, hH2, _⟩
    have hl2 : L2.length = L.length + 1 := by rw [hp2.length_eq]; simp
    have HF : Hid (QAt U w0 w2 g r (insI n S)) := by
      refine ⟨L2, hR, by rw [hl2]; exact hH2, ?_, insI_sd n S HN.out hs⟩
      exact hp2.trans ((List.perm_append_singleton n L).trans ((hpm.cons n).trans (insI_perm n S).symm))
    clear hP hH hpm hs hnL hR hp2 hH2 hl2
    go_wp2_with fail
    go_ret
    exact ⟨rfl, HF.out⟩
theorem run_place (p : Int) (w : World) : (Instr.field 70 (.agg #[.int .i64 p]) 0).run Try.prog w = .ok (.int .i64 p) w := by kernel_rfl
set_option maxRecDepth 100000 in
theorem drop_at (U : Nat → Prop) (w0 w : World) (g r : Nat) (S : List Int) (n : Int) (h : QAt U w0 w g r S) :
    Calls Try.prog 35 #[.pointer (some ⟨g, 0, none⟩), .int .i64 n] w fun e w' => e = .returned (.bool (decide (n ∈ S))) ∧ QAt U w0 w' g r (S.filter (fun y => y != n)) := by
  have hh := has_at U w0 w g r S n h
  have HQ := Lib.hid h
  have HH := Lib.hid hh
  clear h hh
  by_cases hn : n ∈ S
  · have hd : decide (n ∈ S) = true := by simp [hn]
    rw [hd] at HH ⊢
    have HN := Lib.hid hn
    clear hd hn
    go_enter Try.func35, Try.ntmps35
    go_wp2_with fail
    refine HH.out.mono ?_
    rintro e w1 ⟨rfl, hf1⟩
    obtain ⟨L, hP, hH, hpm, hs⟩ := HQ.out.grow hf1
    obtain ⟨p, hlk, hpi⟩ : ∃ p : Int, (Instr.lookup 57 (.map (some r)) (.int .i64 n) false).run Try.prog w1.drew = .ok (.agg #[.int .i64 p]) w1.drew ∧ (n ∈ L → ∃ i : Nat, p = (i : Int) ∧ i < L.length ∧ L.getD i 0 = n) := by
      obtain ⟨_, _, _, _, _, _, A, cap, m, bs, c, k1, k2, k3, k4, k5⟩ := hP
      have k4' : MapB w1.drew r m bs c := k4
      obtain ⟨p, e1, e2⟩ := look_at k4' k5 n false
      exact ⟨p, by simpa using e1, e2⟩
    obtain ⟨i, rfl, hi, hg⟩ := hpi (hpm.mem_iff.2 HN.out)
    have hpl := run_place (i : Int)
    have hb : w1.cell? ⟨g, 1, none⟩ = some (.map (some r)) ∧ g < w1.heap.size := by
      obtain ⟨_, _, _, _, _, _, A, cap, m, bs, c, k1, _⟩ := hP
      exact ⟨k1.cell 1, k1.lt⟩
    obtain ⟨c1, hg1⟩ := hb
    have HR := Lib.hid (remove_gen (pile_hok U w0 g r) (pile_hop U w0 g r) w1.drew L i (hP.grow (Fr.refl [] w1).drew) hi hH (fun _ _ => trivial))
    have HG := Lib.hid hg
    have HPM := Lib.hid hpm
    have HS := Lib.hid hs
    clear HH HQ hP hH hpm hs hg hpi
    go_wp2_with fail
    go_region_with (first
      | (go_at_call 50; go_must (
          refine HR.out.mono ?_
          rintro e w2 ⟨rfl, L', hR', hp', hH'⟩)))
    all_goals
      have e1 : fl 0 L i = n := HG.out
      rw [e1] at hp'
      obtain ⟨g1, g2⟩ := perm_drop HPM.out hp' HS.out
      have HF : Hid (QAt U w0 w2 g r (S.filter (fun y => y != n))) := ⟨L', hR', hH', g1, g2⟩
      clear hR' hp' hH' g1 g2 e1
      go_simp
      go_wp2
      go_ret
      exact ⟨rfl, HF.out⟩
  · have hd : decide (n ∈ S) = false := by simp [hn]
    have hp : S.filter (fun y => y != n) = S := List.filter_eq_self.2 fun y hy => by simp; exact fun e => hn (e ▸ hy)
    rw [hd] at HH ⊢
    rw [hp]
    clear hd hp hn
    go_enter Try.func35, Try.ntmps35
    go_wp2_with fail
    refine HH.out.mono ?_
    rintro e w1 ⟨rfl, hf1⟩
    go_wp2_with fail
    go_ret
    exact ⟨rfl, HQ.out.grow hf1⟩
set_option maxRecDepth 100000 in
theorem qpop_at (U : Nat → Prop) (w0 w : World) (g r : Nat) (S : List Int) (h : QAt U w0 w g r S) :
    Calls Try.prog 25 #[.pointer (some ⟨g, 0, none⟩)] w fun e w' => e = .returned (.tuple #[.int .i64 (S.headD 0), .bool (decide (0 < S.length))]) ∧ QAt U w0 w' g r S.tail := by
  have ht := top_at U w0 w g r S h
  obtain ⟨x, hx⟩ : ∃ x, x = S.headD 0 := ⟨_, rfl⟩
  rw [← hx] at ht ⊢
  have HQ := Lib.hid h
  have HT := Lib.hid ht
  have HX := Lib.hid hx
  clear h ht hx
  by_cases h0 : 0 < S.length
  · have hd : decide (0 < S.length) = true := by simp [h0]
    rw [hd] at HT ⊢
    have H0 := Lib.hid h0
    clear hd h0
    go_enter Try.func25, Try.ntmps25
    go_wp2_with fail
    refine HT.out.mono ?_
    rintro e w1 ⟨rfl, rfl⟩
    obtain ⟨L, hP, hH, hpm, hs⟩ := HQ.out
    have hg1 : g < w.heap.size := by
      obtain ⟨_, _, _, _, _, _, A, cap, m, bs, c, k1, _⟩ := hP
      exact k1.lt
    have hl0 : 0 < L.length := by rw [hpm.length_eq]; exact H0.out
    have HR := Lib.hid (pop_gen (pile_hok U w0 g r) (pile_hop U w0 g r) w L hP hl0 (hp_other ltI_ord hH (fun _ _ _ => rfl) hl0) (fun _ _ _ => trivial))
    have HTOP := Lib.hid (qtop hH hpm hs hl0)
    have HPM := Lib.hid hpm
    have HS := Lib.hid hs
    clear HT HQ hP hH hpm hs hl0
    go_wp2_with fail
    refine HR.out.mono ?_
    rintro e w2 ⟨rfl, L', hR', hp', hH'⟩
    have HF : Hid (QAt U w0 w2 g r S.tail) := by
      refine ⟨L', hR', hH', ?_, ?_⟩
      · have e1 : fl 0 L 0 = S.headD 0 := HTOP.out
        rw [e1] at hp'
        obtain ⟨y, S', rfl⟩ : ∃ y S', S = y :: S' := by
          cases S with
          | nil => exact absurd H0.out (by simp)
          | cons y S' => exact ⟨y, S', rfl⟩
        have := hp'.symm.trans HPM.out
        simpa using this
      · exact HS.out.sublist (List.tail_sublist S)
    clear hR' hp' hH'
    go_wp2_with fail
    go_ret2
    exact ⟨rfl, HF.out⟩
  · obtain rfl := List.eq_nil_of_length_eq_zero (by omega : S.length = 0)
    obtain rfl : x = 0 := HX.out
    go_enter Try.func25, Try.ntmps25
    go_wp2_with fail
    refine HT.out.mono ?_
    rintro e w1 ⟨rfl, rfl⟩
    go_wp2_with fail
    go_ret2
    exact ⟨rfl, HQ.out⟩
end Go.Proofs.Ytgmnjbnlfpopgaa
