import Derived.Test.YtgmnjbnlfpopgaaG3
namespace Go.Proofs.Dm
open Go.RowKit
section
variable {P : Program} (w : World) {ops : Array Oper} {rest : List Oper} {o : Oper} {a : Act} {Q : Exit → Act → World → Prop} {r : Nat} {m : List (Int × Value)} {bs : List Nat} {c : Nat}
theorem wpList_mdelB (hg : o.guard = none) (mo x : Operand) (t kt : TypeId) (hop : o.op = Op.call { callee := Callee.builtin Builtin.delete, args := #[mo, x], argTypes := #[t, kt] }) (e : TypeId) (ht : P.underlying t = some (.map kt e)) (hk : P.underlying kt = some (.int .i64))
    (k : Int) (j : Nat) (hm : a.eval mo = .map (some r)) (hx : a.eval x = .int .i64 k) (hmap : MapB w r m bs c) (hf : fidx m k = some j)
    (hK : ∀ w', MapB w' r (m.eraseIdx j) (bs.eraseIdx j) c → Fr [some r] w w' → wpList P ops Q rest (a.put o.dst (.tuple #[])) w') : wpList P ops Q (o :: rest) a w := by
  refine wpList_plain hg fun K' hK' => ?_
  obtain ⟨w', hrun, r1, r2⟩ := run_delete_B (P := P) hmap ht hk k j hf o.type
  unfold Oper.wp
  simp [execOp, hop, resolve, invoke, builtin, hm, hx, hrun, Result.andThen]
  exact hK' _ _ (hK w' r1 r2)
end
end Go.Proofs.Dm
namespace Go.Proofs.Ytgmnjbnlfpopgaa
open Go.RowKit Go.Proofs.Dm

set_option maxRecDepth 100000 in
set_option maxHeartbeats 1600000 in
theorem ppop_at (U : Nat → Prop) (w0 w : World) (g r : Nat) (L : List Int) (x : Int) (h : PAt U w0 w g r (L ++ [x])) :
    Calls Try.prog 96 #[.pointer (some ⟨g, 0, none⟩)] w fun e w' => e = .returned (.iface 3 (.int .i64 x)) ∧ PAt U w0 w' g r L := by
  obtain ⟨h1, h2, h3, h4, h5, h6, A, cap, m, bs, c, k1, k2, k3, k4, k5⟩ := h
  have hll : (L ++ [x]).length = L.length + 1 := by simp
  obtain ⟨b, rfl⟩ := orow_some k2 (ints_ne (i := L.length) (by omega))
  obtain ⟨k31, k32, k33⟩ := k3
  have hbU : ¬ U b := k33 b rfl
  have hbg : b ≠ g := by simpa [bk] using k31
  have hbr : b ≠ r := by simpa [bk] using k32
  have hcap : L.length ≤ cap := by have := ORow.cap k2; omega
  have c0 : w.cell? ⟨g, 0, none⟩ = some (.slice (some ⟨b, 0, none⟩) (L.length + 1) cap) := by rw [← hll]; exact k1.cell 0
  have c1 : w.cell? ⟨g, 1, none⟩ = some (.map (some r)) := k1.cell 1
  have f0 := k1.frozen 0
  have r1 : w.cell? ⟨b, L.length, none⟩ = some (.int .i64 x) := by rw [World.ownsRow.cellAt k2 _ (by omega), ints_get _ _ (by omega)]; simp
  have hgl := k1.lt
  have hbl : b < w.heap.size := k2.lt rfl
  obtain ⟨a, ha, hwh⟩ := wh_pop k5 h5
  have hF1 : Fr [some g] w (w.setCell ⟨g, 0, none⟩ (.slice (some ⟨b, 0, none⟩) L.length cap)) := (Fr.refl _ w).setB (g := g) (by simp) 0 _
  have hm1 : MapB (w.setCell ⟨g, 0, none⟩ (.slice (some ⟨b, 0, none⟩) L.length cap)) r m bs c := k4.fr hF1 (by simpa using Ne.symm h4)
  have hk1 : Blk (w.setCell ⟨g, 0, none⟩ (.slice (some ⟨b, 0, none⟩) L.length cap)) g 61 #[.slice (some ⟨b, 0, none⟩) L.length cap, .map (some r)] := by
    have := k1.set_ 0 (.slice (some ⟨b, 0, none⟩) L.length cap)
    simpa using this
  have hk2 : IRow (w.setCell ⟨g, 0, none⟩ (.slice (some ⟨b, 0, none⟩) L.length cap)) 3 (some ⟨b, 0, none⟩) cap L := by
    have h8 := ORow.front k2 L.length (by omega)
    have e : (ints (L ++ [x])).take (L.length * 1) = ints L := by rw [ints_app, Nat.mul_one, List.take_append_of_le_length (by simp [ints]), List.take_of_length_le (by simp [ints])]
    rw [e] at h8
    exact h8.fr hF1 (.inr (by simpa [bk] using hbg))
  have HFIN : Hid (∀ w', MapB w' r (m.eraseIdx a) (bs.eraseIdx a) c → Fr [some r] (w.setCell ⟨g, 0, none⟩ (.slice (some ⟨b, 0, none⟩) L.length cap)) w' → PAt U w0 w' g r L) := by
    show ∀ _, _
    intro w' hm hf
    refine PAt.store ((h1.seq hF1 (by intro k hk; simp at hk; subst hk; exact h2)).seq hf (by intro k hk; simp at hk; subst hk; exact h3)) h2 h3 h4 (List.nodup_append.1 h5).1 (by omega) (hk1.fr hf (by simpa using h4)) (hk2.fr hf (.inr (by simpa [bk] using hbr))) ⟨by simpa [bk] using hbg, by simpa [bk] using hbr, by intro k hk; simp [bk] at hk; subst hk; exact hbU⟩ hm hwh
  have c1' : (w.setCell ⟨g, 0, none⟩ (.slice (some ⟨b, 0, none⟩) L.length cap)).cell? ⟨g, 1, none⟩ = some (.map (some r)) := hk1.cell 1
  have hi : ((L.length : Int) + 1 - 1) = (L.length : Int) := by omega
  have hl6 : L.length ≤ 1000000 := by omega
  clear hk1 hk2 hF1 k1 k2 k31 k32 k33 k4 k5 h1 h5 h6 hll hwh
  go_enter Try.func96, Try.ntmps96
  go_wp2_with (first | (refine wpList_mdelB _ rfl (.tmp 30) (.tmp 31) 57 3 rfl 70 Try.underlying57 Try.underlying3 x a rfl rfl hm1 ha ?_; intro w2 hm2 hf2))
  go_ret
  exact ⟨rfl, HFIN.out _ hm2 hf2⟩

theorem assert3 (v : Value) (w : World) : (Instr.typeAssert (.iface 3 v) 20 3 false).run Try.prog w = .ok v w := by kernel_rfl
set_option maxRecDepth 100000 in
set_option maxHeartbeats 1600000 in
theorem ppush_at (U : Nat → Prop) (w0 w : World) (g r : Nat) (L : List Int) (n : Int) (h : PAt U w0 w g r L) (hn : n ∉ L) (hl : L.length < 1000000) :
    Calls Try.prog 97 #[.pointer (some ⟨g, 0, none⟩), .iface 3 (.int .i64 n)] w fun e w' => e = .returned (.tuple #[]) ∧ PAt U w0 w' g r (L ++ [n]) := by
  obtain ⟨h1, h2, h3, h4, h5, h6, A, cap, m, bs, c, k1, k2, k3, k4, k5⟩ := h
  obtain ⟨k31, k32, k33⟩ := k3
  have c0 : w.cell? ⟨g, 0, none⟩ = some (.slice A L.length cap) := k1.cell 0
  have c1 : w.cell? ⟨g, 1, none⟩ = some (.map (some r)) := k1.cell 1
  have hgl := k1.lt
  have hm0 : MapB w.drew r m bs c := k4
  obtain ⟨w1, hrun, hm1, hf1⟩ := run_mapUpdate_B (P := Try.prog) hm0 Try.underlying57 Try.underlying3 n (.agg #[.int .i64 L.length]) (k5.2.1 n hn)
  have hF1 : Fr [some r] w w1 := (Fr.refl _ w).drew.trans hf1
  have q1 := k1.fr hF1 (by simpa using h4)
  have q2 := k2.fr hF1 (.inr (by simpa using k32))
  have hU1 := h1.seq hF1 (by intro k hk; simp at hk; subst hk; exact h3)
  have d0 : w1.cell? ⟨g, 0, none⟩ = some (.slice A L.length cap) := q1.cell 0
  have hgl1 := q1.lt
  have hta := assert3 (.int .i64 n)
  have hnd : (L ++ [n]).Nodup := by
    refine List.nodup_append.2 ⟨h5, by simp, fun x hx y hy e => ?_⟩
    simp at hy; subst hy; exact hn (e ▸ hx)
  have HWH := Lib.hid (wh_push k5 hn)
  have HND := Lib.hid hnd
  have HA := Lib.hid k33
  have HU := Lib.hid hU1
  have HM := Lib.hid hm1
  have HR := Lib.hid (hm1.toI.lt)
  clear hm0 hm1 hf1 hF1 k1 k2 k4 k5 h1 h5 hU1 hnd hn k33
  go_enter Try.func97, Try.ntmps97
  go_wp2_with fail
  go_region
  go_wp2_with (first | (at_builtin; (
    refine wpList_app _ rfl (.tmp 22) (.tmp 24) 22 3 rfl (.int .i64 0) 1 8 Try.underlying22 info3 rfl (by decide) A cap L.length (ints L) rfl (q2.fr (Fr.alloc (Fr.refl [] w1) _) (.inr List.not_mem_nil)) _ 1 1 (ints [n]) rfl rfl (sl_new w1 _ 3) (ints_one _) (by simp only [maxLen]; omega) (by omega) ?_
    intro A3 c3 w3 hr3 hg3 hb3
    have hg3' : Fr [bk A] w1 w3 := ((Fr.refl [bk A] w1).alloc _).trans hg3
    have p1 := q1.fr hg3' (by simpa using Ne.symm k31)
    have e0 : w3.cell? ⟨g, 0, none⟩ = some (.slice A L.length cap) := p1.cell 0
    have e1 := p1.frozen 0)))
  go_end0
  have s1 := hg3'.size
  have hb4 : ∀ j, bk A3 = some j → j ≠ g ∧ j ≠ r ∧ ¬ U j := by
    intro j hj
    rcases hb3 with hb | hb
    · rw [hb] at hj
      exact ⟨fun e => k31 (e ▸ hj), fun e => k32 (e ▸ hj), HA.out j hj⟩
    · rw [hb] at hj
      injection hj with hj
      simp at hj
      have := HR.out
      exact ⟨by omega, by omega, fun hu => by have := HU.out.dom j hu; have := HU.out.size; omega⟩
  have hFs : Fr [some g] w3 (w3.setCell ⟨g, 0, none⟩ (.slice A3 (L.length + 1) c3)) := (Fr.refl _ w3).setB (g := g) (by simp) 0 _
  refine ⟨rfl, PAt.store (cap := c3) (A := A3) ((HU.out.seq hg3' (by intro k hk; simp at hk; exact HA.out k hk.symm)).seq hFs (by intro k hk; simp at hk; subst hk; exact h2)) h2 h3 h4 HND.out (by simp; omega) ?_ ?_ ⟨fun e => (hb4 g e).1 rfl, fun e => (hb4 r e).2.1 rfl, fun j hj => (hb4 j hj).2.2⟩ ((HM.out.fr hg3' (by simpa using Ne.symm k32)).fr hFs (by simpa using Ne.symm h4)) HWH.out⟩
  · have := p1.set_ 0 (.slice A3 (L.length + 1) c3)
    simpa using this
  · unfold IRow
    rw [ints_app, List.length_append]
    exact ORow.fr hr3 hFs (.inr (by simpa using fun e => (hb4 g e).1 rfl))
end Go.Proofs.Ytgmnjbnlfpopgaa
