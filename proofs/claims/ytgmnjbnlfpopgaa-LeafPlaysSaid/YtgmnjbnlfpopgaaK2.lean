import Derived.Test.YtgmnjbnlfpopgaaK1
namespace Go.Proofs.Ytgmnjbnlfpopgaa
open Go.RowKit Go.Proofs.Dm

/-- What a call keeps safe: all that was there, and a row of its own. -/
def UB (w : World) (A : Option Addr) (k : Nat) : Prop := k < w.heap.size ∨ bk A = some k
theorem cmp_re {F : Value} {U U' : Nat → Prop} {w w' : World} {dom : Int → Prop} {key : Int → Int} (h : CmpOK F U w dom key) (hf : FrU U w w') (hU : ∀ k, U k → U' k) : CmpOK F U' w' dom key := by
  obtain ⟨n, C, h1, h2, h3⟩ := h
  refine ⟨n, C, h1, h2, fun a b w2 ha hb hf2 => h3 a b w2 ha hb ⟨hf2.os.trans hf.os, hf2.tape.trans hf.tape, hf2.output.trans hf.output, Nat.le_trans hf.size hf2.size, hf.dom, fun k hk => (hf2.block k (hU k hk)).trans (hf.block k hk)⟩⟩
theorem RAt.re {U U' : Nat → Prop} {w0 w w' : World} {g : Nat} {F : Value} {L : List Rn} (h : RAt U w0 w g F L) {S : List (Option Nat)} (hf : Fr S w w') (hS : ∀ i, some i ∈ S → U i) (hU : ∀ k, U' k → k < w'.heap.size ∧ (U k ∨ w.heap.size ≤ k))
    (hE : ∀ e ∈ L, Sl w' e.A (ints e.xs) ∧ ∀ j, bk e.A = some j → U' j) : RAt U' w' w' g F L := by
  obtain ⟨h1, h2, ⟨A, cap, h3, h4, h5, h6⟩, h7⟩ := h
  have hg : g < w.heap.size := h3.lt
  refine ⟨FrU.refl U' w' (fun k hk => (hU k hk).1), fun hu => ?_, ⟨A, cap, h3.fr hf (fun h => h2 (hS _ h)), h4.fr hf ?_, h5, fun j hj hu => ?_⟩, hE⟩
  · rcases (hU g hu).2 with h | h
    · exact h2 h
    · omega
  · cases hb : bk A with
    | none => exact .inl rfl
    | some j => exact .inr fun h => h6 j hb (hS _ h)
  · have hj' := h4.lt hj
    rcases (hU j hu).2 with h | h
    · exact h6 j hj h
    · omega
def slen : Value → Nat
  | .slice _ n _ => n
  | _ => 0
/-- A run that lies in what was there. -/
def EOK (w : World) (dom : Int → Prop) (e : Rn) : Prop := Sl w e.A (ints e.xs) ∧ (∀ j, bk e.A = some j → j < w.heap.size) ∧ e.xs.length ≤ e.c ∧ ∀ x ∈ e.xs, dom x
/-- What comes of rows that are gone through: a row of its own. -/
def RowAns (w : World) (out : List Int) (e : Ending) (w' : World) : Prop := ∃ A c, e = .returned (.slice A out.length c) ∧ IRow w' 3 A c out ∧ Fr [] w w' ∧ ∀ j, bk A = some j → w.heap.size ≤ j
theorem rowAns_end {w w' : World} {l out : List Int} {A : Option Addr} {c : Nat} (h : out = l) (hr : IRow w' 3 A c out) (hf : Fr [] w w') (hA : ∀ j, bk A = some j → w.heap.size ≤ j) : RowAns w l (.returned (.slice A out.length c)) w' := by
  subst h
  exact ⟨A, c, rfl, hr, hf, hA⟩
theorem FrU.toFr {U : Nat → Prop} {w0 w : World} (h : FrU U w0 w) : ∃ S, Fr S w0 w ∧ ∀ k, U k → some k ∉ S := by
  classical
  refine ⟨((List.range w0.heap.size).filter fun k => decide (¬ U k)).map some, ⟨h.os, h.tape, h.output, h.size, fun k hk hn => ?_⟩, fun k hU hm => ?_⟩
  · have hU : U k := by
      by_cases hU : U k
      · exact hU
      · exact absurd (List.mem_map.2 ⟨k, by simp [hk, hU], rfl⟩) hn
    exact h.block k hU
  · obtain ⟨j, hj, he⟩ := List.mem_map.1 hm
    injection he with he
    subst he
    simp [hU] at hj
theorem _root_.Go.Proofs.Dm.IRow.fru {U : Nat → Prop} {w0 w : World} {A : Option Addr} {c : Nat} {xs : List Int} (hr : IRow w0 3 A c xs) (h : FrU U w0 w) (hU : ∀ j, bk A = some j → U j) : IRow w 3 A c xs := by
  obtain ⟨S, hf, hS⟩ := FrU.toFr h
  refine hr.fr hf ?_
  cases hb : bk A with
  | none => exact .inl rfl
  | some j => exact .inr (hS j (hU j hb))
theorem fru_fr {U : Nat → Prop} {base w w' : World} (hb : Fr [] base w) (h : FrU U w w') (hU : ∀ k, k < base.heap.size → U k) : Fr [] base w' :=
  ⟨h.os.trans hb.os, h.tape.trans hb.tape, h.output.trans hb.output, Nat.le_trans hb.size h.size, fun k hk _ => (h.block k (hU k hk)).trans (hb.block k hk (by simp))⟩
theorem tail_sl {w : World} {ax : Addr} {x : Int} {xs : List Int} (h : Sl w (some ax) (ints (x :: xs))) : Sl w (some ⟨ax.block, ax.off + 1, none⟩) (ints xs) := by
  rcases h with h | ⟨ad, he, hc⟩
  · simp [ints] at h
  · injection he with he
    subst he
    refine .inr ⟨_, rfl, fun j u hu => ?_⟩
    have h1 : (⟨ax.block, ax.off + 1, none⟩ : Addr).add j = ax.add (j + 1) := by
      unfold Addr.add
      by_cases hj : j = 0
      · subst hj; simp
      · simp [hj]; omega
    rw [h1]
    exact hc (j + 1) u (by simpa [ints] using hu)
theorem top_next {w w2 : World} {g b cap : Nat} {F : Value} {L : List Rn} {e : Rn} {dom : Int → Prop} {A1 : Option Addr} {c1 : Nat} {out : List Int} (A' : Option Addr) (c' : Nat) (xs : List Int)
    (h3 : Blk w2 g 75 #[.slice (some ⟨b, 0, none⟩) (L.length + 1) cap, F]) (h4 : ORow w2 77 2 (some ⟨b, 0, none⟩) cap (L.length + 1) (rcells (e :: L))) (hF : Fr [] w w2) (hr : IRow w2 3 A1 c1 out)
    (hA : ∀ j, bk A1 = some j → w.heap.size ≤ j ∧ j ≠ g ∧ j ≠ b) (hb : w.heap.size ≤ b) (hg : w.heap.size ≤ g) (hgb : g ≠ b) (he : EOK w dom ⟨A', c', xs, e.which⟩) (hL : ∀ a ∈ L, EOK w dom a) (hsm : L.length + 1 ≤ 1000000) :
    RR (UB w A1) (w2.setCell ⟨b, 0, none⟩ (.slice A' xs.length c')) g F dom (w2.setCell ⟨b, 0, none⟩ (.slice A' xs.length c')) (⟨A', c', xs, e.which⟩ :: L) ∧ IRow (w2.setCell ⟨b, 0, none⟩ (.slice A' xs.length c')) 3 A1 c1 out ∧ Fr [] w (w2.setCell ⟨b, 0, none⟩ (.slice A' xs.length c')) := by
  have hFb : Fr [some b] w2 (w2.setCell ⟨b, 0, none⟩ (.slice A' xs.length c')) := (Fr.refl _ w2).setB (g := b) (by simp) 0 _
  have hF2 : Fr [] w (w2.setCell ⟨b, 0, none⟩ (.slice A' xs.length c')) := hF.seq hFb (by intro y hy; simp at hy; subst hy; exact .inr (.inr ⟨_, hb, rfl⟩))
  have hr2 := hr.fr hFb (by
    cases hbk : bk A1 with
    | none => exact .inl rfl
    | some j => exact .inr (by have := (hA j hbk).2.2; simpa using this))
  have hUb : ¬ UB w A1 b := fun h => by
    rcases h with h | h
    · omega
    · exact (hA b h).2.2 rfl
  have hUg : ¬ UB w A1 g := fun h => by
    rcases h with h | h
    · omega
    · exact (hA g h).2.1 rfl
  have hall : ∀ a ∈ (⟨A', c', xs, e.which⟩ :: L : List Rn), EOK w dom a := by
    intro a ha
    rcases List.mem_cons.1 ha with rfl | ha
    · exact he
    · exact hL a ha
  refine ⟨⟨RAt.store (cap := cap) (FrU.refl _ _ ?_) hUg hUb hgb ?_ ?_ ?_, fun a ha => (hall a ha).2.2.2, by simpa using hsm⟩, hr2, hF2⟩
  · intro k hk
    rcases hk with hk | hk
    · exact Nat.lt_of_lt_of_le hk hF2.size
    · exact hr2.lt hk
  · have := h3.far (p := ⟨b, 0, none⟩) hgb (.slice A' xs.length c')
    simpa using this
  · have := (World.ownsRow.stored h4 0 (.slice A' xs.length c')).1
    exact this
  · intro a ha
    exact ⟨(hall a ha).1.fr hF2 (.inr List.not_mem_nil), fun j hj => .inl ((hall a ha).2.1 j hj)⟩
/-- Behind a call that keeps what is kept safe. -/
theorem first_next {w w3 w4 : World} {g : Nat} {F : Value} {dom : Int → Prop} {A1 : Option Addr} {c1 : Nat} {out : List Int} {L : List Rn} (hR : RR (UB w A1) w3 g F dom w4 L) (hr : IRow w3 3 A1 c1 out) (hF : Fr [] w w3) (hL : ∀ a ∈ L, EOK w dom a) :
    RR (UB w A1) w4 g F dom w4 L ∧ IRow w4 3 A1 c1 out ∧ Fr [] w w4 := by
  have hf := hR.1.1
  have hF4 := fru_fr hF hf (fun k hk => .inl hk)
  exact ⟨⟨hR.1.re (Fr.refl [] w4) (by simp) (fun k hk => ⟨Nat.lt_of_lt_of_le (hf.dom k hk) hf.size, .inl hk⟩) (fun a ha => ⟨(hL a ha).1.fr hF4 (.inr List.not_mem_nil), fun j hj => .inl ((hL a ha).2.1 j hj)⟩), hR.2⟩, hr.fru hf (fun j hj => .inr hj), hF4⟩
theorem rw_get (rws : List Rw) (i : Nat) (h : i < rws.length) : (rws.map Rw.cell)[i]? = some (.slice rws[i].A rws[i].xs.length rws[i].c) := by simp [h, Rw.cell]

set_option maxRecDepth 100000 in
set_option maxHeartbeats 6400000 in
theorem first_any (F : Value) (A : Option Addr) (c : Nat) (rws : List Rw) (most : Int) (w : World) (dom : Int → Prop) (key : Int → Int) (hF : CmpOK F (· < w.heap.size) w dom key) (hs : Sl w A (rws.map Rw.cell)) (hn : rws.length ≤ 100000)
    (hr : ∀ r ∈ rws, Sl w r.A (ints r.xs) ∧ (∀ j, bk r.A = some j → j < w.heap.size) ∧ r.xs.length ≤ r.c ∧ (∀ x ∈ r.xs, dom x) ∧ Sd key r.xs) (hall : (rws.map (·.xs)).flatten.length ≤ 1000000) :
    Calls Try.prog 40 #[F, .slice A rws.length c, .int .i64 most] w (RowAns w ((srt key (rws.map (·.xs)).flatten).take most.toNat)) := by
  obtain ⟨W1, hW1⟩ : ∃ W1, W1 = w.alloc (.cells #[.slice none 0 0, F] 75) := ⟨_, rfl⟩
  have hf1 : Fr [] w W1 := by rw [hW1]; exact (Fr.refl [] w).alloc _
  have hB1 : Blk W1 w.heap.size 75 #[.slice none 0 0, F] := by rw [hW1]; exact Blk.new w 75 _
  have hlen1 : (rws.map Rw.cell).length = rws.length := by simp
  have hst : RR (· < w.heap.size) w w.heap.size F dom W1 [] := ⟨⟨FrU.of_fr hf1, Nat.lt_irrefl _, ⟨none, 0, hB1, ORow.nil_ _ _ _, by simp [bk], by simp [bk]⟩, by simp⟩, by simp, by simp⟩
  have hF' := hF
  obtain ⟨nF, CF, rfl, hrF, hcF⟩ := hF'
  have HF := Lib.hid hF
  have HRW := Lib.hid hr
  have HALL := Lib.hid hall
  clear hF hrF hcF hr hall hB1 hf1 hlen1
  go_enter Try.func40, Try.ntmps40
  go_wp2_with fail
  rw [← hW1]
  go_loopw [17] (fun iv wr => ∃ (q : Nat) (L : List Rn), iv = .int .i64 q ∧ q ≤ rws.length ∧ RR (· < w.heap.size) w w.heap.size (.func (.func nF) #[] CF) dom wr L ∧ Hid (L.Perm (runsOf rws q)) ∧ Hid (Hp (rlt key) (fl rn0 L) L.length)) (fun iv _ => rws.length - (intOf iv).toNat)
  case atStart => exact ⟨0, [], rfl, Nat.zero_le _, hst, List.Perm.refl _, fun k _ hk => by simp at hk⟩
  case round =>
    obtain ⟨q, L, rfl, hq, hR, HP, HH⟩ := hrel
    have hF0 : Fr [] w wr := hR.1.1.fr
    have hokL : ∀ e ∈ L, EOK w dom e ∧ e.xs ≠ [] := by
      intro e he
      obtain ⟨i, r, _, hri, hrx, rfl⟩ := (runsOf_mem rws q).1 e (HP.out.mem_iff.1 he)
      have hm := HRW.out r (List.mem_of_getElem? hri)
      exact ⟨⟨hm.1, hm.2.1, hm.2.2.1, hm.2.2.2.1⟩, hrx⟩
    have hLl : L.length ≤ q := by rw [HP.out.length_eq]; exact runsOf_len rws q
    have HO := Lib.hid hokL
    clear hokL hst
    by_cases hlt : q < rws.length
    · obtain ⟨ad, rfl, _, hcell⟩ := (hs.fr hF0 (.inr List.not_mem_nil)).at_ (rw_get rws q hlt)
      obtain ⟨r, hrq⟩ : ∃ r, r = rws[q] := ⟨_, rfl⟩
      rw [← hrq] at hcell
      have hm := HRW.out r (hrq ▸ List.getElem_mem hlt)
      have hq1 : runsOf rws (q + 1) = runsOf rws q ++ (if r.xs = [] then [] else [r.run q]) := by
        rw [hrq]
        show runsOf rws q ++ _ = _
        rw [List.getElem?_eq_getElem hlt]
      obtain ⟨Ar, cr, xr⟩ := r
      simp only at hcell hm hq1
      have HM := Lib.hid hm
      have HQ := Lib.hid hq1
      clear hm hq1 hrq hF0 hs
      cases xr with
      | nil =>
        go_wp2_with fail
        go_roundw
        case rel => exact ⟨q + 1, L, by go_num, by omega, hR, by show List.Perm _ _; rw [HQ.out]; simpa using HP.out, HH⟩
        case measure => simp [intOf]; omega
      | cons x xr =>
        have hpush := push_gen (runs_hok (· < w.heap.size) w w.heap.size (.func (.func nF) #[] CF) dom key HF.out) (runs_hop (· < w.heap.size) w w.heap.size (.func (.func nF) #[] CF) dom) wr L (Rw.run ⟨Ar, cr, x :: xr⟩ q) hR (by omega) ⟨⟨HM.out.1, HM.out.2.1⟩, HM.out.2.2.2.1⟩ HH.out (fun y hy => by
          rcases List.mem_append.1 hy with hy | hy
          · exact (HO.out y hy).2
          · simp at hy; subst hy; simp [Full, Rw.run])
        simp only [rval, Rw.run] at hpush
        have HPU := Lib.hid hpush
        clear hpush hR
        go_wp2_with fail
        refine HPU.out.mono ?_
        rintro ee w1 ⟨rfl, L', hR', hp', hh', _⟩
        have HP' := Lib.hid hp'
        have HH' := Lib.hid hh'
        clear hp' hh' HPU
        go_wp2_with fail
        go_roundw
        case rel =>
          have hl' : L'.length = L.length + 1 := by rw [HP'.out.length_eq]; simp
          refine ⟨q + 1, L', by go_num, by omega, hR', ?_, by rw [hl']; exact HH'⟩
          show List.Perm _ _
          rw [HQ.out]
          simp only [List.cons_ne_nil, if_false]
          exact HP'.out.trans (HP.out.append_right _)
        case measure => simp [intOf]; omega
    · obtain rfl : q = rws.length := by omega
      obtain ⟨all, hall⟩ : ∃ all, all = (rws.map (·.xs)).flatten := ⟨_, rfl⟩
      have hal : all.length ≤ 1000000 := by rw [hall]; exact HALL.out
      have hst0 : St0 L (rws.map (·.xs)) := st0_perm (runsOf_st rws) HP.out
      have hsd0 : ∀ r ∈ rws.map (·.xs), Sd key r := by
        intro r hr
        obtain ⟨a, ha, rfl⟩ := List.mem_map.1 hr
        exact (HRW.out a ha).2.2.2.2
      have hR2 : RR (UB w none) wr w.heap.size (.func (.func nF) #[] CF) dom wr L := ⟨hR.1.re (Fr.refl [] wr) (by simp) (by
          intro k hk
          rcases hk with hk | hk
          · exact ⟨Nat.lt_of_lt_of_le hk hF0.size, .inl hk⟩
          · cases hk) (fun e he => ⟨((HO.out e he).1.1).fr hF0 (.inr List.not_mem_nil), fun j hj => .inl ((HO.out e he).1.2.1 j hj)⟩), hR.2⟩
      have ho0 : [] ++ srt key (rws.map (·.xs)).flatten = srt key all := by rw [hall]; rfl
      have HAL := Lib.hid hall
      have HST := Lib.hid hst0
      have HSD := Lib.hid hsd0
      have HO0 := Lib.hid ho0
      clear hall hst0 hsd0 ho0 HALL hR HP
      go_wp2_with fail
      go_loopw [10] (fun ov wr => ∃ (L : List Rn) (rs : List (List Int)) (out : List Int) (Ao : Option Addr) (co : Nat), ov = .slice Ao out.length co ∧ IRow wr 3 Ao co out ∧ Hid (∀ j, bk Ao = some j → w.heap.size ≤ j) ∧ RR (UB w Ao) wr w.heap.size (.func (.func nF) #[] CF) dom wr L ∧ Fr [] w wr ∧ Hid (St0 L rs) ∧ Hid (∀ e ∈ L, EOK w dom e ∧ e.xs ≠ []) ∧ Hid (∀ r ∈ rs, Sd key r) ∧ Hid (out ++ srt key rs.flatten = srt key all) ∧ Hid (Hp (rlt key) (fl rn0 L) L.length) ∧ out.length ≤ most.toNat) (fun ov _ => all.length - slen ov)
      case atStart => exact ⟨L, rws.map (·.xs), [], none, 0, rfl, IRow.nil_ _ _, (fun j hj => by cases hj), hR2, hF0, HST, HO, HSD, HO0, HH, by simp⟩
      case round =>
        clear hR2 HST HSD HO0 HO HH hF0 hLl hs hlt
        clear L
        obtain ⟨L, rs, out, Ao, co, rfl, hrow, HA, hR, hF, HST, HO, HSD, HOUT, HH, hmo⟩ := hrel
        have hlo : out.length ≤ all.length := by
          have := congrArg List.length HOUT.out
          rw [List.length_append, srt_len, srt_len] at this
          omega
        cases L with
        | nil =>
          have hfin : out = (srt key all).take most.toNat := by
            have h := HOUT.out
            rw [st0_none HST.out, srt_nil, List.append_nil] at h
            rw [← h, List.take_of_length_le hmo]
          have HFIN := Lib.hid hfin
          clear hfin
          go_wp2_with fail
          refine (len_at _ wr wr w.heap.size _ [] hR.1).mono ?_
          rintro ee w1 ⟨rfl, rfl⟩
          go_wp2_with fail
          go_ret
          exact rowAns_end (by rw [← HAL.out]; exact HFIN.out) hrow hF HA.out
        | cons e L =>
          have hl : (e :: L).length = L.length + 1 := rfl
          by_cases hm : (out.length : Int) < most
          · obtain ⟨⟨he1, he2, he3, he4⟩, he5⟩ := HO.out e (List.mem_cons_self ..)
            obtain ⟨Ae, ce, exs, we⟩ := e
            simp only at he1 he2 he3 he4 he5
            cases exs with
            | nil => exact absurd rfl he5
            | cons x xs =>
            simp only [List.length_cons] at he3
            obtain ⟨⟨h1, h2, ⟨Al, cap, h3, h4, h5, h6⟩, h7⟩, hdom, hsm⟩ := hR
            obtain ⟨b, rfl⟩ := orow_some h4 (by simp [rcells, Rn.cells])
            have hRR : RR (UB w Ao) wr w.heap.size (.func (.func nF) #[] CF) dom wr (⟨Ae, ce, x :: xs, we⟩ :: L) := ⟨⟨h1, h2, ⟨_, cap, h3, h4, h5, h6⟩, h7⟩, hdom, hsm⟩
            have hbU : ¬ UB w Ao b := h6 b rfl
            have hgb : w.heap.size ≠ b := by simpa [bk] using h5
            obtain ⟨ax, rfl, hcx⟩ := sl_head (he1.fr hF (.inr List.not_mem_nil)) he5
            simp only [List.headD_cons] at hcx
            have hbl : b < wr.heap.size := h4.lt rfl
            have hgl := h3.lt
            have c0 : wr.cell? ⟨w.heap.size, 0, none⟩ = some (.slice (some ⟨b, 0, none⟩) (L.length + 1) cap) := h3.cell 0
            have r1 : wr.cell? ⟨b, 0, none⟩ = some (.slice (some ax) (xs.length + 1) ce) := by rw [World.ownsRow.cellAt h4 0 (by simp)]; rfl
            have hsz : ∀ k, (UB w Ao) k → k < wr.heap.size := h1.dom
            have hAog : bk Ao ≠ some w.heap.size := fun h => h2 (.inr h)
            have hAob : bk Ao ≠ some b := fun h => hbU (.inr h)
            have hNb : w.heap.size ≤ b := by
              rcases Nat.lt_or_ge b w.heap.size with h | h
              · exact absurd (.inl h) hbU
              · exact h
            have HX := Lib.hid he1
            have HX2 := Lib.hid he2
            have HX4 := Lib.hid he4
            clear he1 he2 he4 he5 h1 h6 h7 hdom h5
            have hlo2 : out.length < all.length := by
              have h := congrArg List.length (st_out (x := x) (xs := xs) HST.out HSD.out rfl HH.out HOUT.out)
              simp [srt_len] at h
              omega
            go_wp2_with fail
            refine (len_at _ wr wr w.heap.size _ _ hRR.1).mono ?_
            rintro ee w1 ⟨rfl, rfl⟩
            rw [hl]
            cases xs with
            | nil =>
              simp only [List.length_nil] at he3 r1
              by_cases hce : ce = 1
              · subst hce
                clear hRR
                go_wp2_with (first | (at_builtin; go_must (
                  refine wpList_app _ rfl _ _ 22 3 rfl (.int .i64 0) 1 8 Try.underlying22 info3 rfl (by decide) Ao co out.length (ints out) rfl (hrow.fr (Fr.alloc (Fr.refl [] wr) _) (.inr List.not_mem_nil)) _ 1 1 (ints [x]) rfl rfl (sl_new wr _ 3) (ints_one _) (by simp only [maxLen]; omega) (by omega) ?_
                  intro A1 c1 w2 hr2 hg2 hb2
                  have hg3 : Fr [bk Ao] wr w2 := ((Fr.refl [bk Ao] wr).alloc _).trans hg2
                  have h32 := h3.fr hg3 (by simpa using Ne.symm hAog)
                  have h42 := h4.fr hg3 (.inr (by show some b ∉ [bk Ao]; simpa using Ne.symm hAob))
                  have c02 : w2.cell? ⟨w.heap.size, 0, none⟩ = some (.slice (some ⟨b, 0, none⟩) (L.length + 1) cap) := h32.cell 0
                  have r12 : w2.cell? ⟨b, 0, none⟩ = some (.slice (some ax) (0 + 1) 1) := by rw [World.ownsRow.cellAt h42 0 (by simp)]; rfl
                  have f12 : w2.frozen? ⟨b, 0, none⟩ = false := World.ownsRow.frozenAt h42 0
                  have hbl2 : b < w2.heap.size := h42.lt rfl
                  have HA1 : Hid (∀ j, bk A1 = some j → w.heap.size ≤ j ∧ j ≠ w.heap.size ∧ j ≠ b) := by
                    show ∀ _, _
                    intro j hj
                    rcases hb2 with h | h
                    · rw [h] at hj
                      exact ⟨HA.out j hj, fun h => hAog (h ▸ hj), fun h => hAob (h ▸ hj)⟩
                    · rw [h] at hj; injection hj with hj; simp at hj; have := hF.size; omega
                  have hFw2 : Fr [] w w2 := hF.seq hg3 (by
                    intro y hy
                    simp at hy; subst hy
                    cases hbk : bk Ao with
                    | none => exact .inr (.inl rfl)
                    | some j => exact .inr (.inr ⟨j, HA.out j hbk, rfl⟩))
                  have hir : IRow w2 3 A1 c1 (out ++ [x]) := by simpa [IRow, ints] using hr2
                  clear c0 r1 hcx hr2 hg2 hb2 hg3)))
                obtain ⟨hR3, hr3, hF3⟩ := top_next (some ax) 0 [] h32 h42 hFw2 hir HA1.out hNb (Nat.le_refl _) hgb ⟨.inl rfl, HX2.out, Nat.zero_le _, fun y hy => by simp at hy⟩ (fun a ha => (HO.out a (List.mem_cons_of_mem _ ha)).1) (by simpa using hsm)
                have hpop := pop_gen (runs_hok _ _ w.heap.size (.func (.func nF) #[] CF) dom key (cmp_re HF.out (FrU.of_fr hF3) (fun k hk => .inl hk))) (runs_hop _ _ w.heap.size (.func (.func nF) #[] CF) dom) _ _ hR3 (by simp) (hp_other (rlt_ord key) HH.out (fun k _ hk0 => by cases k with | zero => exact absurd rfl hk0 | succ k => rfl) (by simp)) (fun k hk0 hk => by
                  cases k with
                  | zero => omega
                  | succ k =>
                    have hk' : k < L.length := by simpa using hk
                    show Full (L.getD k rn0)
                    rw [getD_el hk']
                    exact (HO.out _ (List.mem_cons_of_mem _ (List.getElem_mem hk'))).2)
                have HPO := Lib.hid hpop
                have HR3 := Lib.hid hr3
                have HF3 := Lib.hid hF3
                clear hpop hR3 hr3 hF3 h32 h42 hFw2 hir h3 h4
                refine HPO.out.mono ?_
                rintro ee w4 ⟨rfl, L', hR4, hp4, hh4⟩
                have hp4' : (⟨(some ax), 0, [], we⟩ :: L : List Rn).Perm (⟨(some ax), 0, [], we⟩ :: L') := hp4
                have hpL : L.Perm L' := List.Perm.cons_inv hp4'
                have hok4 : ∀ a ∈ L', EOK w dom a ∧ a.xs ≠ [] := fun a ha => HO.out a (List.mem_cons_of_mem _ (hpL.mem_iff.2 ha))
                obtain ⟨hR5, hr5, hF5⟩ := first_next hR4 HR3.out HF3.out (fun a ha => (hok4 a ha).1)
                have hst5 : St0 L' (rs.set we.toNat []) := st0_perm (st0_drop (st0_step HST.out (some ax) 0 []) rfl) hpL.symm
                have hsd5 := sd_set HSD.out (HST.out.mem _ (List.mem_cons_self ..)).2
                have hout5 := st_out HST.out HSD.out rfl HH.out HOUT.out
                have H1 := Lib.hid hok4
                have H2 := Lib.hid hst5
                have H3 := Lib.hid hsd5
                have H4 := Lib.hid hout5
                have H5 := Lib.hid hh4
                clear hp4 hp4' hpL hok4 hR4 hst5 hsd5 hout5 hh4 HPO
                go_wp2_with fail
                go_roundw
                case rel => exact ⟨L', _, out ++ [x], A1, c1, by simp, hr5, fun j hj => (HA1.out j hj).1, hR5, hF5, H2, H1, H3, H4, H5, by simp; omega⟩
                case measure => simp [slen]; omega
              · have hce2 : 1 < ce := by omega
                clear hRR
                go_wp2_with (first | (at_builtin; go_must (
                  refine wpList_app _ rfl _ _ 22 3 rfl (.int .i64 0) 1 8 Try.underlying22 info3 rfl (by decide) Ao co out.length (ints out) rfl (hrow.fr (Fr.alloc (Fr.refl [] wr) _) (.inr List.not_mem_nil)) _ 1 1 (ints [x]) rfl rfl (sl_new wr _ 3) (ints_one _) (by simp only [maxLen]; omega) (by omega) ?_
                  intro A1 c1 w2 hr2 hg2 hb2
                  have hg3 : Fr [bk Ao] wr w2 := ((Fr.refl [bk Ao] wr).alloc _).trans hg2
                  have h32 := h3.fr hg3 (by simpa using Ne.symm hAog)
                  have h42 := h4.fr hg3 (.inr (by show some b ∉ [bk Ao]; simpa using Ne.symm hAob))
                  have c02 : w2.cell? ⟨w.heap.size, 0, none⟩ = some (.slice (some ⟨b, 0, none⟩) (L.length + 1) cap) := h32.cell 0
                  have r12 : w2.cell? ⟨b, 0, none⟩ = some (.slice (some ax) (0 + 1) ce) := by rw [World.ownsRow.cellAt h42 0 (by simp)]; rfl
                  have f12 : w2.frozen? ⟨b, 0, none⟩ = false := World.ownsRow.frozenAt h42 0
                  have hbl2 : b < w2.heap.size := h42.lt rfl
                  have HA1 : Hid (∀ j, bk A1 = some j → w.heap.size ≤ j ∧ j ≠ w.heap.size ∧ j ≠ b) := by
                    show ∀ _, _
                    intro j hj
                    rcases hb2 with h | h
                    · rw [h] at hj
                      exact ⟨HA.out j hj, fun h => hAog (h ▸ hj), fun h => hAob (h ▸ hj)⟩
                    · rw [h] at hj; injection hj with hj; simp at hj; have := hF.size; omega
                  have hFw2 : Fr [] w w2 := hF.seq hg3 (by
                    intro y hy
                    simp at hy; subst hy
                    cases hbk : bk Ao with
                    | none => exact .inr (.inl rfl)
                    | some j => exact .inr (.inr ⟨j, HA.out j hbk, rfl⟩))
                  have hir : IRow w2 3 A1 c1 (out ++ [x]) := by simpa [IRow, ints] using hr2
                  clear c0 r1 hcx hr2 hg2 hb2 hg3)))
                obtain ⟨hR3, hr3, hF3⟩ := top_next (some ⟨ax.block, ax.off + 1, none⟩) (ce - 1) [] h32 h42 hFw2 hir HA1.out hNb (Nat.le_refl _) hgb ⟨.inl rfl, HX2.out, Nat.zero_le _, fun y hy => by simp at hy⟩ (fun a ha => (HO.out a (List.mem_cons_of_mem _ ha)).1) (by simpa using hsm)
                have hpop := pop_gen (runs_hok _ _ w.heap.size (.func (.func nF) #[] CF) dom key (cmp_re HF.out (FrU.of_fr hF3) (fun k hk => .inl hk))) (runs_hop _ _ w.heap.size (.func (.func nF) #[] CF) dom) _ _ hR3 (by simp) (hp_other (rlt_ord key) HH.out (fun k _ hk0 => by cases k with | zero => exact absurd rfl hk0 | succ k => rfl) (by simp)) (fun k hk0 hk => by
                  cases k with
                  | zero => omega
                  | succ k =>
                    have hk' : k < L.length := by simpa using hk
                    show Full (L.getD k rn0)
                    rw [getD_el hk']
                    exact (HO.out _ (List.mem_cons_of_mem _ (List.getElem_mem hk'))).2)
                have HPO := Lib.hid hpop
                have HR3 := Lib.hid hr3
                have HF3 := Lib.hid hF3
                clear hpop hR3 hr3 hF3 h32 h42 hFw2 hir h3 h4
                refine HPO.out.mono ?_
                rintro ee w4 ⟨rfl, L', hR4, hp4, hh4⟩
                have hp4' : (⟨(some ⟨ax.block, ax.off + 1, none⟩), (ce - 1), [], we⟩ :: L : List Rn).Perm (⟨(some ⟨ax.block, ax.off + 1, none⟩), (ce - 1), [], we⟩ :: L') := hp4
                have hpL : L.Perm L' := List.Perm.cons_inv hp4'
                have hok4 : ∀ a ∈ L', EOK w dom a ∧ a.xs ≠ [] := fun a ha => HO.out a (List.mem_cons_of_mem _ (hpL.mem_iff.2 ha))
                obtain ⟨hR5, hr5, hF5⟩ := first_next hR4 HR3.out HF3.out (fun a ha => (hok4 a ha).1)
                have hst5 : St0 L' (rs.set we.toNat []) := st0_perm (st0_drop (st0_step HST.out (some ⟨ax.block, ax.off + 1, none⟩) (ce - 1) []) rfl) hpL.symm
                have hsd5 := sd_set HSD.out (HST.out.mem _ (List.mem_cons_self ..)).2
                have hout5 := st_out HST.out HSD.out rfl HH.out HOUT.out
                have H1 := Lib.hid hok4
                have H2 := Lib.hid hst5
                have H3 := Lib.hid hsd5
                have H4 := Lib.hid hout5
                have H5 := Lib.hid hh4
                clear hp4 hp4' hpL hok4 hR4 hst5 hsd5 hout5 hh4 HPO
                go_wp2_with fail
                go_roundw
                case rel => exact ⟨L', _, out ++ [x], A1, c1, by simp, hr5, fun j hj => (HA1.out j hj).1, hR5, hF5, H2, H1, H3, H4, H5, by simp; omega⟩
                case measure => simp [slen]; omega
            | cons y ys =>
              simp only [List.length_cons] at he3 r1
              have hce : ¬ ce = 1 := by omega
              have hce2 : 1 < ce := by omega
              have HLE : Hid ((y :: ys).length ≤ ce - 1) := by show _ ≤ _; simp; omega
              clear hRR
              go_wp2_with (first | (at_builtin; go_must (
                refine wpList_app _ rfl _ _ 22 3 rfl (.int .i64 0) 1 8 Try.underlying22 info3 rfl (by decide) Ao co out.length (ints out) rfl (hrow.fr (Fr.alloc (Fr.refl [] wr) _) (.inr List.not_mem_nil)) _ 1 1 (ints [x]) rfl rfl (sl_new wr _ 3) (ints_one _) (by simp only [maxLen]; omega) (by omega) ?_
                intro A1 c1 w2 hr2 hg2 hb2
                have hg3 : Fr [bk Ao] wr w2 := ((Fr.refl [bk Ao] wr).alloc _).trans hg2
                have h32 := h3.fr hg3 (by simpa using Ne.symm hAog)
                have h42 := h4.fr hg3 (.inr (by show some b ∉ [bk Ao]; simpa using Ne.symm hAob))
                have c02 : w2.cell? ⟨w.heap.size, 0, none⟩ = some (.slice (some ⟨b, 0, none⟩) (L.length + 1) cap) := h32.cell 0
                have r12 : w2.cell? ⟨b, 0, none⟩ = some (.slice (some ax) (ys.length + 1 + 1) ce) := by rw [World.ownsRow.cellAt h42 0 (by simp)]; rfl
                have f12 : w2.frozen? ⟨b, 0, none⟩ = false := World.ownsRow.frozenAt h42 0
                have hbl2 : b < w2.heap.size := h42.lt rfl
                have HA1 : Hid (∀ j, bk A1 = some j → w.heap.size ≤ j ∧ j ≠ w.heap.size ∧ j ≠ b) := by
                  show ∀ _, _
                  intro j hj
                  rcases hb2 with h | h
                  · rw [h] at hj
                    exact ⟨HA.out j hj, fun h => hAog (h ▸ hj), fun h => hAob (h ▸ hj)⟩
                  · rw [h] at hj; injection hj with hj; simp at hj; have := hF.size; omega
                have hFw2 : Fr [] w w2 := hF.seq hg3 (by
                  intro y hy
                  simp at hy; subst hy
                  cases hbk : bk Ao with
                  | none => exact .inr (.inl rfl)
                  | some j => exact .inr (.inr ⟨j, HA.out j hbk, rfl⟩))
                have hir : IRow w2 3 A1 c1 (out ++ [x]) := by simpa [IRow, ints] using hr2
                clear c0 r1 hcx hr2 hg2 hb2 hg3)))
              obtain ⟨hR3, hr3, hF3⟩ := top_next (some ⟨ax.block, ax.off + 1, none⟩) (ce - 1) (y :: ys) h32 h42 hFw2 hir HA1.out hNb (Nat.le_refl _) hgb ⟨tail_sl HX.out, fun j hj => HX2.out j hj, HLE.out, fun y hy => HX4.out y (List.mem_cons_of_mem _ hy)⟩ (fun a ha => (HO.out a (List.mem_cons_of_mem _ ha)).1) (by simpa using hsm)
              have hfix := fix0_gen (runs_hok _ _ w.heap.size (.func (.func nF) #[] CF) dom key (cmp_re HF.out (FrU.of_fr hF3) (fun k hk => .inl hk))) _ _ hR3 (by simp) (hp_other (rlt_ord key) HH.out (fun k _ hk0 => by cases k with | zero => exact absurd rfl hk0 | succ k => rfl) (by simp)) (fun y hy => by
                rcases List.mem_cons.1 hy with rfl | hy
                · simp [Full]
                · exact (HO.out y (List.mem_cons_of_mem _ hy)).2)
              have HE2 : Hid (EOK w dom ⟨(some ⟨ax.block, ax.off + 1, none⟩), (ce - 1), (y :: ys), we⟩) := ⟨tail_sl HX.out, fun j hj => HX2.out j hj, HLE.out, fun y hy => HX4.out y (List.mem_cons_of_mem _ hy)⟩
              have HPO := Lib.hid hfix
              have HR3 := Lib.hid hr3
              have HF3 := Lib.hid hF3
              clear hfix hR3 hr3 hF3 h32 h42 hFw2 hir h3 h4
              refine HPO.out.mono ?_
              rintro ee w4 ⟨rfl, L', hR4, hp4, hh4, _⟩
              have hok4 : ∀ a ∈ L', EOK w dom a ∧ a.xs ≠ [] := fun a ha => by
                rcases List.mem_cons.1 (hp4.mem_iff.1 ha) with rfl | ha
                · exact ⟨HE2.out, by simp⟩
                · exact HO.out a (List.mem_cons_of_mem _ ha)
              obtain ⟨hR5, hr5, hF5⟩ := first_next hR4 HR3.out HF3.out (fun a ha => (hok4 a ha).1)
              have hst5 : St0 L' (rs.set we.toNat ((y :: ys))) := st0_perm (st0_step HST.out (some ⟨ax.block, ax.off + 1, none⟩) (ce - 1) ((y :: ys))) hp4
              have hsd5 := sd_set HSD.out (HST.out.mem _ (List.mem_cons_self ..)).2
              have hout5 := st_out HST.out HSD.out rfl HH.out HOUT.out
              have hh5 : Hp (rlt key) (fl rn0 L') L'.length := by rw [hp4.length_eq]; exact hh4
              have H1 := Lib.hid hok4
              have H2 := Lib.hid hst5
              have H3 := Lib.hid hsd5
              have H4 := Lib.hid hout5
              have H5 := Lib.hid hh5
              clear hp4 hok4 hR4 hst5 hsd5 hout5 hh4 hh5 HPO
              go_wp2_with fail
              go_roundw
              case rel => exact ⟨L', _, out ++ [x], A1, c1, by simp, hr5, fun j hj => (HA1.out j hj).1, hR5, hF5, H2, H1, H3, H4, H5, by simp; omega⟩
              case measure => simp [slen]; omega
          · have hfin : out = (srt key all).take most.toNat := take_of_append HOUT.out (by omega)
            have HFIN := Lib.hid hfin
            clear hfin
            go_wp2_with fail
            refine (len_at _ wr wr w.heap.size _ _ hR.1).mono ?_
            rintro ee w1 ⟨rfl, rfl⟩
            rw [hl]
            go_wp2_with fail
            go_ret
            exact rowAns_end (by rw [← HAL.out]; exact HFIN.out) hrow hF HA.out
end Go.Proofs.Ytgmnjbnlfpopgaa
