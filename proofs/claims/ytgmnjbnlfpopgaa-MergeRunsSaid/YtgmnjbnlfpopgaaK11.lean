import Derived.Test.YtgmnjbnlfpopgaaK10
namespace Go.Proofs.Ytgmnjbnlfpopgaa
open Go.RowKit Go.Proofs.Dm

theorem sl_add {w : World} {ad : Addr} {l : List Int} (h : Sl w (some ad) (ints l)) (k : Nat) (hk : k < l.length) : w.cell? (ad.add k) = some (.int .i64 (l.getD k 0)) := by
  obtain ⟨a, he, hc⟩ := sl_ints h hk
  injection he with he
  subst he
  exact hc
set_option maxRecDepth 100000 in
set_option maxHeartbeats 800000 in
theorem closure_any (nF : FuncId) (CF : Array Value) (bf bl : Nat) (ad : Addr) (c : Nat) (l : List Int) (x y : Nat) (w : World) (sg : Int) (hx : x < l.length) (hy : y < l.length)
    (hrun : ∀ args w, (callFunc nF args).run Try.prog w = .ok (.enter nF args) w) (hcm : ∀ m, Calls Try.prog nF (#[.int .i64 (l.getD x 0), .int .i64 (l.getD y 0)] ++ CF) (w.drewN m) fun e w' => e = .returned (.int .i64 sg) ∧ ∃ k, w' = (w.drewN m).drewN k)
    (hf : w.cell? ⟨bf, 0, none⟩ = some (.func (.func nF) #[] CF)) (hl : w.cell? ⟨bl, 0, none⟩ = some (.slice (some ad) l.length c)) (hs : Sl w (some ad) (ints l)) :
    Calls Try.prog 43 #[.int .i64 x, .int .i64 y, .pointer (some ⟨bf, 0, none⟩), .pointer (some ⟨bl, 0, none⟩)] w fun e w' => e = .returned (.int .i64 sg) ∧ ∃ m, w' = w.drewN m := by
  have hcx := sl_add hs x hx
  have hcy := sl_add hs y hy
  obtain ⟨u, hu⟩ : ∃ u, u = l.getD x 0 := ⟨_, rfl⟩
  obtain ⟨v, hv⟩ : ∃ v, v = l.getD y 0 := ⟨_, rfl⟩
  rw [← hu] at hcx hcm
  rw [← hv] at hcy hcm
  have p1 : (x : Int) < (l.length : Int) := by omega
  have p2 : (y : Int) < (l.length : Int) := by omega
  clear hu hv hs
  go_enter Try.func43, Try.ntmps43
  go_wp2_with fail
  go_quiet ((exact Calls.quiet_of (hcm _)))
  clear hcm hrun
  go_wp2_with fail
  go_ret
  exact ⟨rfl, _, rfl⟩

/-- The closure compares places by what stands there. -/
theorem cmp_perm {F : Value} {U : Nat → Prop} {w : World} {dom : Int → Prop} {key : Int → Int} (hF : CmpOK F U w dom key) (bf bl : Nat) (A : Option Addr) (c : Nat) (l : List Int) (hbf : Blk w bf 26 #[F]) (hbl : Blk w bl 22 #[.slice A l.length c]) (hs : Sl w A (ints l)) (hUf : U bf) (hUl : U bl) (hUA : ∀ j, bk A = some j → U j) (hd : ∀ x ∈ l, dom x) :
    CmpOK (.func (.func 43) #[] #[.pointer (some ⟨bf, 0, none⟩), .pointer (some ⟨bl, 0, none⟩)]) U w (fun i => 0 ≤ i ∧ i < l.length) (fun i => key (l.getD i.toNat 0)) := by
  obtain ⟨n, C, rfl, hrun, hcmp⟩ := hF
  refine ⟨43, _, rfl, fun _ _ => by kernel_rfl, fun a b w' ha hb hf => ?_⟩
  obtain ⟨x, rfl⟩ : ∃ x : Nat, a = (x : Int) := ⟨a.toNat, by omega⟩
  obtain ⟨y, rfl⟩ : ∃ y : Nat, b = (y : Int) := ⟨b.toNat, by omega⟩
  have hx : x < l.length := by omega
  have hy : y < l.length := by omega
  obtain ⟨ad, rfl, _⟩ := sl_ints hs hx
  have e1 : w'.cell? ⟨bf, 0, none⟩ = some (.func (.func n) #[] C) := by rw [World.cell?_of_block (w := w) (hf.block bf hUf)]; exact hbf.cell 0
  have e2 : w'.cell? ⟨bl, 0, none⟩ = some (.slice (some ad) l.length c) := by rw [World.cell?_of_block (w := w) (hf.block bl hUl)]; exact hbl.cell 0
  have e3 := fru_sl hf hs hUA
  have mx : dom (l.getD x 0) := hd _ (by rw [List.getD_eq_getElem?_getD, List.getElem?_eq_getElem hx]; exact List.getElem_mem hx)
  have my : dom (l.getD y 0) := hd _ (by rw [List.getD_eq_getElem?_getD, List.getElem?_eq_getElem hy]; exact List.getElem_mem hy)
  exact closure_any n C bf bl ad c l x y w' _ hx hy hrun (fun m => hcmp _ _ _ mx my (hf.trans ((Fr.refl [] w').drewN m))) e1 e2 e3

def idx (n : Nat) : List Int := (List.range n).map fun i : Nat => (i : Int)
theorem idx_len (n : Nat) : (idx n).length = n := by simp [idx]
theorem idx_get (n i : Nat) (h : i < n) : (idx n)[i]? = some (i : Int) := by simp [idx, h]
/-- The first q places are written. -/
def idxAt (n q : Nat) : List Int := (List.range n).map fun i : Nat => if i < q then (i : Int) else 0
theorem idxAt_zero (n : Nat) : idxAt n 0 = List.replicate n 0 := by
  apply List.ext_getElem
  · simp [idxAt]
  · intro i h1 h2; simp [idxAt]
theorem idxAt_next (n q : Nat) (h : q < n) : (idxAt n q).set q (q : Int) = idxAt n (q + 1) := by
  apply List.ext_getElem
  · simp [idxAt]
  · intro i h1 h2
    rw [List.getElem_set]
    simp only [idxAt, List.getElem_map, List.getElem_range]
    by_cases e : q = i
    · subst e; simp
    · rw [if_neg e]
      by_cases h3 : i < q
      · rw [if_pos h3, if_pos (by omega)]
      · rw [if_neg h3, if_neg (by omega)]
theorem idxAt_end (n : Nat) : idxAt n n = idx n := by
  unfold idxAt idx
  apply List.map_congr_left
  intro i hi
  rw [if_pos (List.mem_range.1 hi)]
theorem idx_up (n : Nat) : (idx n).Pairwise (· < ·) := by
  unfold idx
  rw [List.pairwise_map]
  exact List.pairwise_lt_range.imp fun h => by omega

set_option maxRecDepth 100000 in
set_option maxHeartbeats 1600000 in
theorem perm_any (F : Value) (A : Option Addr) (c : Nat) (l : List Int) (w : World) (dom : Int → Prop) (key : Int → Int) (hF : CmpOK F (· < w.heap.size) w dom key) (hs : Sl w A (ints l)) (hA : ∀ j, bk A = some j → j < w.heap.size) (hn : l.length ≤ 10000) (hd : ∀ x ∈ l, dom x) :
    Calls Try.prog 20 #[.slice A l.length c, F] w (RowAns w (srt (fun i => key (l.getD i.toNat 0)) (idx l.length))) := by
  obtain ⟨W2, hW2⟩ : ∃ W2, W2 = (w.alloc (.cells #[.slice A l.length c] 22)).alloc (.cells #[F] 26) := ⟨_, rfl⟩
  have hf2 : Fr [] w W2 := by rw [hW2]; exact ((Fr.refl [] w).alloc _).alloc _
  have hbl : Blk W2 w.heap.size 22 #[.slice A l.length c] := by rw [hW2]; exact (Blk.new w 22 _).alloc _
  have hbf : Blk W2 (w.heap.size + 1) 26 #[F] := by
    rw [hW2]
    have := Blk.new (w.alloc (.cells #[.slice A l.length c] 22)) 26 #[F]
    simpa using this
  have hsz2 : W2.heap.size = w.heap.size + 2 := by rw [hW2]; simp
  obtain ⟨o, ho⟩ : ∃ o, o = srt (fun i => key (l.getD i.toNat 0)) (idx l.length) := ⟨_, rfl⟩
  rw [← ho]
  have HO := Lib.hid ho
  have HF := Lib.hid hF
  have HD := Lib.hid hd
  have HSZ := Lib.hid hsz2
  have HAA := Lib.hid hA
  have c0 : W2.cell? ⟨w.heap.size, 0, none⟩ = some (.slice A l.length c) := hbl.cell 0
  have hgl := hbl.lt
  obtain ⟨nF, CF, rfl, _, _⟩ := hF
  clear ho hd hsz2 hA
  go_enter Try.func20, Try.ntmps20
  go_upto_region 2 with (first | (at_make; go_must (
    rw [← hW2]
    clear hW2
    refine wpList_makeB _ rfl _ _ 22 3 rfl (.int .i64 0) 8 Try.underlying22 info3 rfl (l.length : Int) l.length rfl rfl rfl (by omega) (by simp only [maxLen]; omega) ?_
    intro w3 hB3 hf3)))
  have hg2 : W2.heap.size < w3.heap.size := hB3.lt
  have hB4 : Blk w3 W2.heap.size 3 (ints (idxAt l.length 0)).toArray := by
    rw [idxAt_zero]
    have : ints (List.replicate l.length 0) = List.replicate l.length (.int .i64 0) := by simp [ints]
    rw [this]; exact hB3
  clear hB3 c0 hgl
  go_wp2_with fail
  go_loopw [12] (fun iv wr => ∃ q : Nat, iv = .int .i64 q ∧ q ≤ l.length ∧ Blk wr W2.heap.size 3 (ints (idxAt l.length q)).toArray ∧ Fr [] W2 wr) (fun iv _ => l.length - (intOf iv).toNat)
  case atStart => exact ⟨0, rfl, Nat.zero_le _, hB4, hf3⟩
  case round =>
    obtain ⟨q, rfl, hq, hB, hF⟩ := hrel
    clear hB4 hf3 hg2
    by_cases hlt : q < l.length
    · have hc : wr.cell? ⟨W2.heap.size, q, none⟩ = some (.int .i64 ((idxAt l.length q).getD q 0)) := by
        rw [hB.cell q]
        have : q < (idxAt l.length q).length := by simp [idxAt, hlt]
        simp [ints, List.getD_eq_getElem?_getD, this]
      have hfz := hB.frozen q
      obtain ⟨z, hz⟩ : ∃ z, z = (idxAt l.length q).getD q 0 := ⟨_, rfl⟩
      rw [← hz] at hc
      clear hz hs
      go_wp2_with fail
      go_roundw
      case rel =>
        refine ⟨q + 1, by go_num, by omega, ?_, hF.setB (g := W2.heap.size) (fun h => absurd h (Nat.lt_irrefl _)) q _⟩
        have h1 := hB.set_ q (.int .i64 q)
        rw [← idxAt_next l.length q hlt]
        have e : (ints ((idxAt l.length q).set q (q : Int))).toArray = (ints (idxAt l.length q)).toArray.setIfInBounds q (.int .i64 q) := by
          simp [ints, List.map_set]
        rw [e]
        exact h1
      case measure => simp [intOf]; omega
    · obtain rfl : q = l.length := by omega
      rw [idxAt_end] at hB
      have hFw := hf2.trans hF
      have hbl2 := hbl.fr hF (by simp)
      have hbf2 := hbf.fr hF (by simp)
      have hl1 := hbl2.lt
      have hl2 := hbf2.lt
      have hcmp := cmp_perm (cmp_re HF.out (FrU.of_fr hFw) (U' := (· < wr.heap.size)) (fun k hk => Nat.lt_of_lt_of_le hk hFw.size)) (w.heap.size + 1) w.heap.size A c l hbf2 hbl2 (hs.fr hFw (.inr List.not_mem_nil)) hl2 hl1 (fun j hj => Nat.lt_of_lt_of_le (HAA.out j hj) hFw.size) HD.out
      have hsl : Sl wr (some ⟨W2.heap.size, 0, none⟩) (ints (idx l.length)) := by
        have := blk_sl hB l.length
        rwa [List.take_of_length_le (by simp [ints, idx])] at this
      have hsort := sort_any _ (some ⟨W2.heap.size, 0, none⟩) l.length (idx l.length) wr _ _ hcmp hsl (by rw [idx_len]; exact Nat.le_refl _) (by rw [idx_len]; omega) (fun x hx => by
        obtain ⟨i, hi, rfl⟩ := List.mem_map.1 hx
        have := List.mem_range.1 hi
        exact ⟨by omega, by omega⟩)
      rw [idx_len, ← HO.out] at hsort
      have HSO := Lib.hid hsort
      have HFW := Lib.hid hFw
      clear hsort hcmp hsl hB hbl2 hbf2 hF hs hbl hbf hFw hf2
      go_wp2_with fail
      refine HSO.out.mono ?_
      rintro e w5 ⟨A5, c5, rfl, hr5, hf5, hA5⟩
      go_wp2_with fail
      go_ret
      exact rowAns_up ⟨A5, c5, rfl, hr5, hf5, hA5⟩ HFW.out
end Go.Proofs.Ytgmnjbnlfpopgaa
