import Derived.Test.YtgmnjbnlfpopgaaG2
namespace Go.Proofs.Dm
open Go.RowKit
section
variable {P : Program} {ops : Array Oper} {o : Oper} {a : Act} {w : World} {K : Act → World → Prop} {Q : Exit → Act → World → Prop} {E : Prop} {t kt e : TypeId} {r : Nat} {m : List (Int × Value)} {bs : List Nat} {c : Nat}
theorem MapB.ent_run (ht : P.underlying t = some (.map kt e)) (hk : P.underlying kt = some (.int .i64)) (h : MapB w r m bs c) (k : Int) (j : Nat) (hf : fidx m k = some j) (val : Value) :
    ∃ (v : Value) (s : Int) (w' : World), (Instr.mapEntry t (.map (some r)) (.int .i64 k)).run P w = .ok (.tuple #[v, .int .i64 s]) w ∧ (Instr.entryStore t (.map (some r)) (.int .i64 s) val).run P w = .ok () w' ∧ MapB w' r (m.set j (k, val)) bs c ∧ Fr [some r] w w' := by
  have hj := fidx_lt m k j hf
  obtain ⟨v, h1⟩ := run_mapEntry_B (P := P) h ht hk k j hf
  obtain ⟨w', h2, h3, h4⟩ := run_entryStore_B (P := P) (t := t) h j hj val
  rw [fidx_key m k j hj hf] at h3
  exact ⟨v, _, w', h1, h2, h3, h4⟩
end
end Go.Proofs.Dm
namespace Go.Proofs.Ytgmnjbnlfpopgaa
open Go.RowKit Go.Proofs.Dm
theorem PAt.store {U : Nat → Prop} {w0 w : World} {g r : Nat} {L : List Int} {A : Option Addr} {cap : Nat} {m : List (Int × Value)} {bs : List Nat} {c : Nat} (h1 : FrU U w0 w) (h2 : ¬ U g) (h3 : ¬ U r) (h4 : g ≠ r) (h5 : L.Nodup) (h6 : L.length ≤ 1000000)
    (k1 : Blk w g 61 #[.slice A L.length cap, .map (some r)]) (k2 : IRow w 3 A cap L) (k3 : bk A ≠ some g ∧ bk A ≠ some r ∧ ∀ j, bk A = some j → ¬ U j) (k4 : MapB w r m bs c) (k5 : Wh m L) : PAt U w0 w g r L :=
  ⟨h1, h2, h3, h4, h5, h6, A, cap, m, bs, c, k1, k2, k3, k4, k5⟩
theorem ints_sw (L : List Int) (i j : Nat) (_ : i < L.length) (_ : j < L.length) : ints (swl 0 L i j) = ((ints L).set i (.int .i64 (L.getD j 0))).set j (.int .i64 (L.getD i 0)) := by
  simp [ints, swl, List.map_set]
theorem irow_two {W : World} {b cap : Nat} {L : List Int} {i j : Nat} (hi : i < L.length) (hj : j < L.length) (h : IRow W 3 (some ⟨b, 0, none⟩) cap (swl 0 L i j)) :
    W.cell? ⟨b, i, none⟩ = some (.int .i64 (L.getD j 0)) ∧ W.cell? ⟨b, j, none⟩ = some (.int .i64 (L.getD i 0)) := by
  have key : ∀ k, k < L.length → W.cell? ⟨b, k, none⟩ = some (.int .i64 (sw (fun k => L.getD k 0) i j k)) := fun k hk => by
    have hk' : k < (swl 0 L i j).length := by rw [swl_len]; exact hk
    rw [World.ownsRow.cellAt h _ (by omega), ints_get _ _ hk', ← swl_get 0 L i j hi hj]
    simp [List.getD_eq_getElem?_getD, hk']
  exact ⟨by rw [key i hi, sw_left], by rw [key j hj, sw_right]⟩
set_option maxRecDepth 100000 in
set_option maxHeartbeats 1600000 in
theorem pswap_at (U : Nat → Prop) (w0 w : World) (g r : Nat) (L : List Int) (h : PAt U w0 w g r L) (i j : Nat) (hi : i < L.length) (hj : j < L.length) :
    Calls Try.prog 98 #[.pointer (some ⟨g, 0, none⟩), .int .i64 i, .int .i64 j] w fun e w' => e = .returned (.tuple #[]) ∧ PAt U w0 w' g r (swl 0 L i j) := by
  obtain ⟨h1, h2, h3, h4, h5, h6, A, cap, m, bs, c, k1, k2, k3, k4, k5⟩ := h
  obtain ⟨b, rfl⟩ := orow_some k2 (ints_ne hi)
  obtain ⟨k31, k32, k33⟩ := k3
  have hbU : ¬ U b := k33 b rfl
  have hbg : b ≠ g := by simpa [bk] using k31
  have hbr : b ≠ r := by simpa [bk] using k32
  have c0 : w.cell? ⟨g, 0, none⟩ = some (.slice (some ⟨b, 0, none⟩) L.length cap) := k1.cell 0
  have r1 : w.cell? ⟨b, i, none⟩ = some (.int .i64 (L.getD i 0)) := by rw [World.ownsRow.cellAt k2 _ (by omega), ints_get _ _ hi]; simp [List.getD_eq_getElem?_getD, hi]
  have r2 : w.cell? ⟨b, j, none⟩ = some (.int .i64 (L.getD j 0)) := by rw [World.ownsRow.cellAt k2 _ (by omega), ints_get _ _ hj]; simp [List.getD_eq_getElem?_getD, hj]
  have f1 : w.frozen? ⟨b, i, none⟩ = false := World.ownsRow.frozenAt k2 _
  have f2 : w.frozen? ⟨b, j, none⟩ = false := World.ownsRow.frozenAt k2 _
  obtain ⟨ja, ha, ea⟩ := k5.1 i hi
  obtain ⟨jb, hb, eb⟩ := k5.1 j hj
  have hwh := wh_swap k5 h5 hi hj ha hb
  have hnd : (swl 0 L i j).Nodup := (swl_perm 0 L i j hi hj).nodup_iff.2 h5
  obtain ⟨x, hx⟩ : ∃ x, x = L.getD i 0 := ⟨_, rfl⟩
  obtain ⟨y, hy⟩ : ∃ y, y = L.getD j 0 := ⟨_, rfl⟩
  have hsw := ints_sw L i j hi hj
  have hir : ∀ W, IRow W 3 (some ⟨b, 0, none⟩) cap (swl 0 L i j) → W.cell? ⟨b, i, none⟩ = some (.int .i64 (L.getD j 0)) ∧ W.cell? ⟨b, j, none⟩ = some (.int .i64 (L.getD i 0)) := fun W hW => irow_two hi hj hW
  rw [← hx] at r1 ha ea hwh hsw hir
  rw [← hy] at r2 hb eb hwh hsw hir
  have hgl := k1.lt
  have hbl : b < w.heap.size := k2.lt rfl
  -- the world behind the two stores
  have HW : Hid (∀ W, W = ((w.setCell ⟨b, i, none⟩ (.int .i64 y)).setCell ⟨b, j, none⟩ (.int .i64 x)).drew → Blk W g 61 #[.slice (some ⟨b, 0, none⟩) L.length cap, .map (some r)] ∧ IRow W 3 (some ⟨b, 0, none⟩) cap (swl 0 L i j) ∧ MapB W r m bs c ∧ FrU U w0 W) := by
    show ∀ _, _
    rintro W rfl
    have hF : Fr [some b] w ((w.setCell ⟨b, i, none⟩ (.int .i64 y)).setCell ⟨b, j, none⟩ (.int .i64 x)).drew := (((Fr.refl _ w).setB (g := b) (by simp) i _).setB (g := b) (by simp) j _).drew
    refine ⟨k1.fr hF (by simpa using Ne.symm hbg), ?_, k4.fr hF (by simpa using Ne.symm hbr), h1.seq hF (by intro k hk; simp at hk; subst hk; exact hbU)⟩
    unfold IRow
    rw [swl_len, hsw]
    exact ORow.fr (World.ownsRow.stored (World.ownsRow.stored k2 i (.int .i64 y)).1 j (.int .i64 x)).1 ((Fr.refl [] _).drew) (.inr List.not_mem_nil)
  have HWH := Lib.hid hwh
  have HA := Lib.hid ha
  have HB := Lib.hid hb
  have HEA := Lib.hid ea
  have HEB := Lib.hid eb
  have HND := Lib.hid hnd
  clear hwh ha hb ea eb hnd hx hy hsw k1 k2 k33 k31 k32 k4 k5 h1 h5
  have e2 : (w.setCell ⟨b, i, none⟩ (.int .i64 y)).cell? ⟨b, j, none⟩ = some (.int .i64 y) := by
    by_cases e : i = j
    · subst e
      exact World.cell?_setCell_same _ _ _ r1
    · rw [World.cell?_setCell_other _ _ _ _ (by intro h; simp only [Addr.mk.injEq] at h; omega)]
      exact r2
  have e3 : (w.setCell ⟨b, i, none⟩ (.int .i64 y)).frozen? ⟨b, j, none⟩ = false := by simpa using f2
  have HR : Hid (∀ W, IRow W 3 (some ⟨b, 0, none⟩) cap (swl 0 L i j) → W.cell? ⟨b, i, none⟩ = some (.int .i64 y) ∧ W.cell? ⟨b, j, none⟩ = some (.int .i64 x)) := hir
  clear hir
  go_enter Try.func98, Try.ntmps98
  go_wp2_with fail
  go_region
  go_wp2_with fail
  obtain ⟨q1, q2, q3, q4⟩ := HW.out _ rfl
  obtain ⟨q5, q6⟩ := HR.out _ q2
  generalize (((w.setCell ⟨b, i, none⟩ (.int .i64 y)).setCell ⟨b, j, none⟩ (.int .i64 x)).drew) = W at q1 q2 q3 q4 q5 q6 ⊢
  have c0' : W.cell? ⟨g, 0, none⟩ = some (.slice (some ⟨b, 0, none⟩) L.length cap) := q1.cell 0
  have c1' : W.cell? ⟨g, 1, none⟩ = some (.map (some r)) := q1.cell 1
  have hgl' := q1.lt
  have hmb : MapB W.drew r m bs c := q3
  obtain ⟨v1, s1, w2, hE1, hS1, hm2, hf2⟩ := MapB.ent_run (P := Try.prog) Try.underlying57 Try.underlying3 hmb y jb HB.out (.agg #[.int .i64 i])
  obtain ⟨v2, s2, w3, hE2, hS2, hm3, hf3⟩ := MapB.ent_run (P := Try.prog) Try.underlying57 Try.underlying3 hm2 x ja (by obtain ⟨u, hu⟩ := fidx_some m y jb HB.out; rw [fidx_set m jb y u _ hu]; exact HA.out) (.agg #[.int .i64 j])
  have hFr : Fr [some r] W w3 := (Fr.refl _ W).drew.trans (hf2.trans hf3)
  have HFIN : Hid (PAt U w0 w3 g r (swl 0 L i j)) :=
    PAt.store (q4.seq hFr (by intro k hk; simp at hk; subst hk; exact h3)) h2 h3 h4 HND.out (by rw [swl_len]; exact h6) (by rw [swl_len]; exact q1.fr hFr (by simpa using h4)) (q2.fr hFr (.inr (by simpa [bk] using hbr))) ⟨by simpa [bk] using hbg, by simpa [bk] using hbr, by intro k hk; simp [bk] at hk; subst hk; exact hbU⟩ hm3 HWH.out
  clear c0 r1 r2 f1 f2 e2 e3 hgl hbl HW HR q1 q2 q3 q4 hm2 hm3 hmb hf2 hf3 hFr
  go_region
  go_wp2
  go_end0
  exact ⟨rfl, HFIN.out⟩
end Go.Proofs.Ytgmnjbnlfpopgaa
