import Derived.Test.YtblafakafgediaaH43
namespace Go.Proofs.Ytblafakafgediaa
open Go.RowKit Go.Proofs.Dm

theorem sl_dc (w : World) (o : Obj) (us : Array Value) : Sl ((w.alloc o).alloc (.cells us TDc)) (some ⟨w.heap.size + 1, 0, none⟩) us.toList := by
  have := blk_sl (cs := us.toList) (Blk.new (w.alloc o) TDc us) us.toList.length
  rw [List.take_length] at this
  simpa using this
theorem col_dat (xs : List RD) (ps : List Pic) (h : xs.map RD.pic = ps) (j c : Nat) (hj : j < xs.length) : (colP ps c)[j]? = some ((datP xs (j : Int) (c : Int)).getD DC.none) := by
  subst h
  unfold colP datP
  rw [List.map_map, List.getElem?_map, if_pos ⟨by omega, by omega⟩, Int.toNat_natCast, Int.toNat_natCast, List.getElem?_eq_getElem hj]
  rfl
theorem wid_pic (xs : List RD) : dwidP xs = picWid (xs.map RD.pic) := by
  unfold dwidP picWid
  rw [List.map_map]
  rfl
theorem end_some (xs : List RD) (ps : List Pic) (h : xs.map RD.pic = ps) (c : Nat) (x : RD) (hx : xs[c]? = some x) : endAt ps c = x.e := by
  subst h
  unfold endAt
  rw [List.getElem?_map, hx]
  rfl
theorem end_none (xs : List RD) (ps : List Pic) (h : xs.map RD.pic = ps) (c : Nat) (hc : xs.length ≤ c) : endAt ps c = 0 := by
  subst h
  unfold endAt
  rw [List.getElem?_map, List.getElem?_eq_none hc]
  rfl
set_option maxRecDepth 100000 in
set_option maxHeartbeats 1600000 in
theorem dover_bad (E : List (Option Nat)) (w : World) (x : GD) (hx : GDAt x w) (h : x.m = 0 ∨ 40 < x.m) (h6 : x.m ≤ 100000) :
    Calls Try.prog 19 #[.agg #[.slice x.B x.m x.d, .bool x.t, .int .i64 x.e]] w (GDErr E w (overAll (x.rs.map RD.pic) x.t x.e) (overErr x.m)) := by
  obtain ⟨A, n, cc, xs, xt, xen⟩ := x
  have hm : n = xs.length := hx.2.1
  simp only at h h6 ⊢
  have HE : Hid (overErr n ≠ 0 ∧ overAll (xs.map RD.pic) xt xen = ([], false, 0)) := by
    have h1 : overErr n ≠ 0 := by unfold overErr; rcases h with h | h <;> (split <;> (try split) <;> omega)
    refine ⟨h1, ?_⟩
    unfold overAll
    rw [List.length_map, ← hm, if_neg h1]
  have HK : ∀ w', GDAt ⟨none, 0, 0, [], false, 0⟩ w' := fun w' => ⟨.inl rfl, rfl, fun y hy => by simp at hy⟩
  have HEND : Hid (∀ (er : Nat) w', Fr [] w w' → er = overErr n → GDErr E w (overAll (xs.map RD.pic) xt xen) (overErr n) (.returned (.tuple #[.agg #[.slice none 0 0, .bool false, .int .i64 0], .int .i64 (er : Nat)])) w') := by
    show ∀ _, _
    intro er w' hf he
    rw [he]
    exact ⟨⟨none, 0, 0, [], false, 0⟩, rfl, HE.out.2.symm, fun w'' _ => HK w'', hf⟩
  have HF : Hid (Fr [] w ((w.alloc (.cells #[.slice A n cc, .bool xt, .int .i64 xen] TD11)).alloc (.cells #[.slice none 0 0, .bool false, .int .i64 0] TD11))) := ((Fr.refl [] w).alloc _).alloc _
  by_cases h0 : n = 0
  · have h1 : (n : Int) = 0 := by omega
    have HER : Hid (9 = overErr n) := by show _ = _; rw [h0]; rfl
    clear h h0 h6 hm hx HK
    go_enter Try.func19, Try.ntmps19
    go_wp2_with fail
    refine bodyPost_ret (v := .tuple #[.agg #[.slice none 0 0, .bool false, .int .i64 0], .int .i64 9]) (by simp [results, Try.results19, go_sem, *]) rfl ?_
    exact HEND.out 9 _ HF.out HER.out
  · have h1 : ¬ (n : Int) = 0 := by omega
    have h2 : (40 : Int) < (n : Int) := by omega
    have HER : Hid (6 = overErr n) := by show _ = _; unfold overErr; rw [if_neg h0, if_pos (by omega)]
    clear h h0 h6 hm hx HK
    go_enter Try.func19, Try.ntmps19
    go_wp2_with fail
    refine bodyPost_ret (v := .tuple #[.agg #[.slice none 0 0, .bool false, .int .i64 0], .int .i64 6]) (by simp [results, Try.results19, go_sem, *]) rfl ?_
    exact HEND.out 6 _ HF.out HER.out
set_option maxRecDepth 100000 in
set_option maxHeartbeats 3200000 in
theorem dover_go (E : List (Option Nat)) (w : World) (x : GD) (hE : Old E w) (hx : GDAt x w) (h0 : x.m ≠ 0) (h40 : x.m ≤ 40) (h7 : ∀ r ∈ x.rs, r.m ≤ 100000) :
    Calls Try.prog 19 #[.agg #[.slice x.B x.m x.d, .bool x.t, .int .i64 x.e]] w (GDErr E w (overAll (x.rs.map RD.pic) x.t x.e) (overErr x.m)) := by
  have HWD : Hid (∀ w', Fr [] w w' → Calls Try.prog 46 #[.agg #[.slice x.B x.m x.d, .bool x.t, .int .i64 x.e]] w' fun en w'' => en = .returned (.int .i64 (dwidP x.rs : Nat)) ∧ Fr [] w' w'') := by
    show ∀ _, _
    intro w' hf
    exact dwidth_any w' x ⟨hx.1.fr hf (.inr List.not_mem_nil), hx.2.1, fun r hr => ⟨(hx.2.2 r hr).1.fr hf (.inr List.not_mem_nil), (hx.2.2 r hr).2⟩⟩ (by omega) (fun r hr => by have := h7 r hr; omega)
  have HAT : Hid (∀ w' (r c : Int), Fr [] w w' → Calls Try.prog 47 #[.agg #[.slice x.B x.m x.d, .bool x.t, .int .i64 x.e], .int .i64 r, .int .i64 c] w' (DAtAns x.rs r c w')) := by
    show ∀ _, _
    intro w' r c hf
    exact dat_any w' x r c ⟨hx.1.fr hf (.inr List.not_mem_nil), hx.2.1, fun r hr => ⟨(hx.2.2 r hr).1.fr hf (.inr List.not_mem_nil), (hx.2.2 r hr).2⟩⟩ (by omega) (fun r hr => by have := h7 r hr; omega)
  obtain ⟨A, n, cc, xs, xt, xen⟩ := x
  simp only at h0 h40 h7 HWD HAT ⊢
  have HA : Hid (Sl w A (rdc xs) ∧ n = xs.length ∧ (∀ r ∈ xs, RDAt r w)) := ⟨hx.1, hx.2.1, hx.2.2⟩
  obtain ⟨ps, hps⟩ : ∃ ps, xs.map RD.pic = ps := ⟨_, rfl⟩
  have HPS := Lib.hid hps
  obtain ⟨wid, hwid⟩ : ∃ wid, wid = dwidP xs := ⟨_, rfl⟩
  rw [← hwid] at HWD
  have HWID : Hid (wid = picWid ps) := by show _ = _; rw [hwid, wid_pic, hps]
  have HWL : Hid (wid ≤ 100000) := by
    show _ ≤ _
    rw [HWID.out]
    refine picWid_le ps 100000 fun r hr => ?_
    rw [← hps] at hr
    obtain ⟨y, hy, rfl⟩ := List.mem_map.1 hr
    have := h7 y hy
    rw [(hx.2.2 y hy).2] at this
    exact this
  rw [hps]
  have HN : Hid (n ≤ 40) := h40
  have HPE : Hid (overErr n = 0 ∧ overAll ps xt xen = (overP ps, xt, xen)) := by
    have h1 : overErr n = 0 := by unfold overErr; rw [if_neg h0, if_neg (by omega)]
    refine ⟨h1, ?_⟩
    unfold overAll
    have h2 : ps.length = n := by rw [← hps, List.length_map]; exact hx.2.1.symm
    rw [h2, if_pos h1]
  obtain ⟨W1, hW1⟩ : ∃ W1, W1 = (w.alloc (.cells #[.slice A n cc, .bool xt, .int .i64 xen] TD11)).alloc (.cells #[.slice none 0 0, .bool false, .int .i64 0] TD11) := ⟨_, rfl⟩
  obtain ⟨G, hG⟩ : ∃ G, G = w.heap.size := ⟨_, rfl⟩
  obtain ⟨L, hL⟩ : ∃ L, L = w.heap.size + 1 := ⟨_, rfl⟩
  have HW : Hid (Fr [] w W1 ∧ Blk W1 L TD11 #[.slice none 0 0, .bool false, .int .i64 0] ∧ Blk W1 G TD11 #[.slice A n cc, .bool xt, .int .i64 xen]) := by
    have b2 := Blk.new (w.alloc (.cells #[.slice A n cc, .bool xt, .int .i64 xen] TD11)) TD11 #[.slice none 0 0, .bool false, .int .i64 0]
    rw [World.size_alloc, ← hW1, ← hL] at b2
    exact ⟨by rw [hW1]; exact ((Fr.refl [] w).alloc _).alloc _, b2, by rw [hW1, hG]; exact (Blk.new w TD11 _).alloc _⟩
  have HLW : Hid (w.heap.size ≤ L) := by show _ ≤ _; omega
  have HOS : Hid (OV (some L :: E) W1 W1 (overP ps) 0 none 0 0 []) := ⟨ORow.nil_ _ _ _, rfl, rfl, fun y hy => by simp at hy, Fr.refl _ _, fun k hk => (by cases hk), Nat.zero_le _, fun k hk => by
    rcases List.mem_cons.1 hk with e | e
    · injection e with e; rw [e]; exact HW.out.2.1.lt
    · have := hE k e; have := HW.out.1.size; omega⟩
  have h0i : ¬ (n : Int) = 0 := by omega
  have h40i : ¬ (40 : Int) < (n : Int) := by omega
  have n6 : (n : Int) ≤ 40 := by omega
  have w6 : (wid : Int) ≤ 100000 := by have := HWL.out; omega
  have HW1 := Lib.hid hW1
  have HGL : Hid (G = w.heap.size ∧ L = w.heap.size + 1) := ⟨hG, hL⟩
  clear hE hx h0 h40 h7 hps hwid hW1 hG hL
  go_enter Try.func19, Try.ntmps19
  go_wp2_with fail
  rw [← HW1.out, ← HGL.out.2, ← HGL.out.1]
  go_loopg [5, 4] wid (fun k iv lv wr => ∃ (c m d : Nat) (B : Option Addr) (ys : List RD), k + c = wid ∧ iv = .int .i64 c ∧ lv = .slice B m d ∧ Hid (OV (some L :: E) W1 wr (overP ps) c B d m ys))
  case atStart => exact ⟨0, 0, 0, none, [], rfl, rfl, rfl, HOS.out⟩
  case round =>
    clear HOS
    obtain ⟨c, m, d, B, ys, hkc, rfl, rfl, HD⟩ := hrel
    obtain ⟨wo, rfl⟩ : ∃ wo, wo = wr := ⟨_, rfl⟩
    have HFO : Hid (Fr [] w wo) := HW.out.1.trans HD.out.fr
    have HGB : Hid (Blk wo G TD11 #[.slice A n cc, .bool xt, .int .i64 xen]) := HW.out.2.2.fr HD.out.fr (by simp)
    have HLB : Hid (Blk wo L TD11 #[.slice none 0 0, .bool false, .int .i64 0]) := HW.out.2.1.fr HD.out.fr (by simp)
    have g0 : wo.cell? ⟨G, 0, none⟩ = some (.slice A n cc) := HGB.out.cell 0
    have g1 : wo.cell? ⟨G, 1, none⟩ = some (.bool xt) := HGB.out.cell 1
    have g2 : wo.cell? ⟨G, 2, none⟩ = some (.int .i64 xen) := HGB.out.cell 2
    by_cases hlt : c < wid
    · have HCL : Hid (c < picWid ps) := by show _ < _; rw [← HWID.out]; exact hlt
      have hc1 : (c : Int) < (wid : Int) := by omega
      go_wp2_with fail
      refine (HWD.out wo HFO.out).mono ?_
      rintro en w1 ⟨rfl, hf1⟩
      have HF1 := Lib.hid hf1
      have gb := HGB.out.fr hf1 (by simp)
      clear g0 g1 g2
      have g0 : w1.cell? ⟨G, 0, none⟩ = some (.slice A n cc) := gb.cell 0
      have g1 : w1.cell? ⟨G, 1, none⟩ = some (.bool xt) := gb.cell 1
      have g2 : w1.cell? ⟨G, 2, none⟩ = some (.int .i64 xen) := gb.cell 2
      have a0 : (w1.alloc (.cells #[.slice none 0 0, .int .i64 0, .bool false] TD8)).cell? ⟨G, 0, none⟩ = some (.slice A n cc) := (gb.alloc _).cell 0
      clear hf1 gb
      by_cases hcn : c < n
      · have hi : c < xs.length := by have := HA.out.2.1; omega
        obtain ⟨bx, rfl, e0, e1⟩ := sl_elem (f := RD.cells) (sz := 3) (fun _ => rfl) (HA.out.1) hi (by omega)
        obtain ⟨y, hy⟩ : ∃ y, y = xs[c] := ⟨_, rfl⟩
        rw [← hy] at e1
        have hxg : xs[c]? = some y := by rw [List.getElem?_eq_getElem hi, hy]
        obtain ⟨ee, hee⟩ : ∃ ee, ee = y.e := ⟨_, rfl⟩
        have HEE : Hid (endAt ps c = ee) := by show _ = _; rw [hee]; exact end_some xs ps HPS.out c y hxg
        have c1 : w.cell? ⟨(bx.add (c * 3)).block, (bx.add (c * 3)).off + 1, none⟩ = some (.int .i64 ee) := by rw [hee]; exact e1 0 _ rfl
        have c1a : (w1.alloc (.cells #[.slice none 0 0, .int .i64 0, .bool false] TD8)).cell? ⟨(bx.add (c * 3)).block, (bx.add (c * 3)).off + 1, none⟩ = some (.int .i64 ee) := by
          rw [((HFO.out.trans HF1.out).alloc _).cell (World.block_lt_of_cell? w _ c1) List.not_mem_nil]
          exact c1
        have a1 : (w1.alloc (.cells #[.slice none 0 0, .int .i64 ee, .bool false] TD8)).cell? ⟨G, 0, none⟩ = some (.slice (some bx) n cc) := ((HGB.out.fr HF1.out (by simp)).alloc _).cell 0
        have i0 : (0 : Int) ≤ (c : Int) := by omega
        have i1 : (c : Int) < (n : Int) := by omega
        clear e0 e1 hy hxg hee hi c1
        go_wp2_with fail
        obtain ⟨W2, hW2⟩ : ∃ W2, W2 = w1.alloc (.cells #[.slice none 0 0, .int .i64 ee, .bool false] TD8) := ⟨_, rfl⟩
        have HW2 : Hid (Fr [] wo W2 ∧ Blk W2 w1.heap.size TD8 #[.slice none 0 0, .int .i64 ee, .bool false]) := ⟨by rw [hW2]; exact HF1.out.alloc _, by rw [hW2]; exact Blk.new w1 TD8 _⟩
        rw [← hW2]
        obtain ⟨X, hX⟩ : ∃ X, X = w1.heap.size := ⟨_, rfl⟩
        rw [← hX] at HW2 ⊢
        have HXN : Hid (wo.heap.size ≤ X) := by show _ ≤ _; have := HF1.out.size; omega
        have HGX : Hid (G ≠ X) := by show _ ≠ _; have := HGB.out.lt; have := HXN.out; omega
        clear hW2 hX g0 g1 g2 a0 c1a a1
        have HST : Hid (XS W2 W2 X ee (colP ps c) 0 none 0 0) := ⟨HW2.out.2, ORow.nil_ _ _ _, rfl, Fr.refl _ _, HW2.out.2.lt, fun k hk => (by cases hk), Nat.zero_le _⟩
        have g0 : W2.cell? ⟨G, 0, none⟩ = some (.slice (some bx) n cc) := (HGB.out.fr HW2.out.1 (by simp)).cell 0
        go_wp2_with fail
        go_loopg [42] n (fun k iv wr => ∃ (j kk nn : Nat) (D : Option Addr), k + j = n ∧ iv = .int .i64 j ∧ Hid (XS W2 wr X ee (colP ps c) j D nn kk))
        case atStart => exact ⟨0, 0, 0, none, rfl, rfl, HST.out⟩
        case round =>
          clear HST g0
          obtain ⟨j, kk, nn, D, hkj, rfl, HX⟩ := hrel
          have HFX : Hid (Fr [] wo wr) := HW2.out.1.seq HX.out.fr fun z hz => by rw [List.mem_singleton] at hz; exact .inr (.inr ⟨X, HXN.out, hz⟩)
          have HFW : Hid (Fr [] w wr) := HFO.out.trans HFX.out
          by_cases hlt : j < n
          · have gb := HGB.out.fr HFX.out (by simp)
            have g0 : wr.cell? ⟨G, 0, none⟩ = some (.slice (some bx) n cc) := gb.cell 0
            have g1 : wr.cell? ⟨G, 1, none⟩ = some (.bool xt) := gb.cell 1
            have g2 : wr.cell? ⟨G, 2, none⟩ = some (.int .i64 xen) := gb.cell 2
            have i1 : (j : Int) < (n : Int) := by omega
            have i2 : (j : Int) ≤ 40 := by have := HN.out; omega
            clear gb
            go_wp2_with fail
            refine (HAT.out wr (j : Int) (c : Int) HFW.out).mono ?_
            rintro en w3 ⟨S, R, kp, rfl, hdat, hf3⟩
            obtain ⟨bb, hbb⟩ : ∃ bb, bb = (datP xs (j : Int) (c : Int)).isSome := ⟨_, rfl⟩
            rw [← hbb]
            have HXF : Hid ((colP ps c)[j]? = some ⟨S, R, kp⟩) := by
              show _ = _
              rw [← hdat]
              exact col_dat xs ps HPS.out j c (by have := HA.out.2.1; omega)
            have HX3 := Lib.hid (HX.out.fr0 hf3)
            have HF3 := Lib.hid hf3
            have t0 : w3.cell? ⟨X, 0, none⟩ = some (.slice D kk nn) := HX3.out.xb.cell 0
            have t0a : (w3.alloc (.cells #[.string ⟨S.toArray⟩, .string ⟨R.toArray⟩, .bool kp] TDc)).cell? ⟨X, 0, none⟩ = some (.slice D kk nn) := (HX3.out.xb.alloc _).cell 0
            have HN9 : Hid (kk ≤ 1000) := by show _ ≤ _; have := HX.out.ln; have := HN.out; omega
            clear hf3 hdat hbb g0 g1 g2
            go_wp2_with (at_builtin; go_must (
              refine wpList_app _ rfl _ _ 93 TDc rfl (Value.agg #[.string ⟨#[]⟩, .string ⟨#[]⟩, .bool false]) 3 40 Try.underlying93 infoDc rfl (by decide) D nn kk (dcc ((colP ps c).take j)) rfl (ORow.fr HX3.out.own (((Fr.refl [] w3).alloc _).alloc _) (.inr List.not_mem_nil)) _ 1 1 [.string ⟨S.toArray⟩, .string ⟨R.toArray⟩, .bool kp] rfl rfl (sl_dc w3 _ _) (by simp [Value.oneCell']) (by have := HN9.out; simp only [maxLen]; omega) (by have := HN9.out; omega) ?_
              intro D2 c2 w5 hr2 hg2 hb2
              have hx := HX3.out.step HXF.out (((Fr.refl [] w3).alloc _).alloc _) hr2 hg2 hb2
              have HX5 := Lib.hid hx.1
              have t05 : w5.cell? ⟨X, 0, none⟩ = some (.slice D kk nn) := hx.2.cell 0
              have z0 := hx.2.frozen 0
              have lt5 := hx.2.lt
              clear hr2 hg2 hb2 hx))
            go_roundg (n - (j + 1))
            case rel => exact ⟨j + 1, kk + 1, c2, D2, by omega, by go_num, HX5.out⟩
            case measure => omega
          · obtain rfl : j = n := by omega
            have hjc : j = (colP ps c).length := by unfold colP; rw [List.length_map, ← HPS.out, List.length_map]; exact HA.out.2.1
            have hXE : XS W2 wr X ee (colP ps c) (colP ps c).length D nn kk := by have := HX.out; rw [hjc] at this; exact this
            obtain ⟨hf2, hk2⟩ := hXE.row HD.out HW2.out.1 HXN.out
            have HROW : Hid (Fr [] wo wr ∧ Kp (bk B :: some L :: E) wr (RDAt ⟨D, kk, nn, colP ps c, ee, false⟩)) := ⟨hf2, hk2⟩
            have HYF : Hid ((overP ps)[c]? = some (RD.pic ⟨D, kk, nn, colP ps c, ee, false⟩)) := by show _ = _; rw [overP_at ps c HCL.out, HEE.out]; rfl
            have t0 : wr.cell? ⟨X, 0, none⟩ = some (.slice D kk nn) := HX.out.xb.cell 0
            have t1 : wr.cell? ⟨X, 1, none⟩ = some (.int .i64 ee) := HX.out.xb.cell 1
            have t2 : wr.cell? ⟨X, 2, none⟩ = some (.bool false) := HX.out.xb.cell 2
            have HM9 : Hid (m ≤ 1000000) := by show _ ≤ _; have := HD.out.len; have := HCL.out; have := HWID.out; have := HWL.out; omega
            clear hjc hXE hf2 hk2
            go_wp2_with (at_builtin; go_must (
              refine wpList_app _ rfl _ _ 33 TD8 rfl (Value.agg #[.slice none 0 0, .int .i64 0, .bool false]) 3 40 Try.underlying33 infoD8 rfl (by decide) B d m (rdc ys) rfl (ORow.fr HD.out.own (HROW.out.1.alloc _) (.inr List.not_mem_nil)) _ 1 1 [.slice D kk nn, .int .i64 ee, .bool false] rfl rfl (by exact blk_sl (Blk.new wr TD8 _) 3) (by simp [Value.oneCell']) (by have := HM9.out; simp only [maxLen]; omega) (by have := HM9.out; omega) ?_
              intro B2 d2 w5 hr2 hg2 hb2
              have hx := HD.out.step (x := ⟨D, kk, nn, colP ps c, ee, false⟩) HYF.out HROW.out.1 HROW.out.2 ((Fr.refl [] wr).alloc _) hr2 hg2 hb2
              have HX5 := Lib.hid hx
              clear hr2 hg2 hb2 hx))
            go_roundg (wid - (c + 1))
            case rel => exact ⟨c + 1, m + 1, d2, B2, _, by have := HCL.out; have := HWID.out; omega, by go_num, rfl, HX5.out⟩
            case measure => have := HCL.out; have := HWID.out; omega
      · have HEE : Hid (endAt ps c = 0) := end_none xs ps HPS.out c (by have := HA.out.2.1; omega)
        have i1 : ¬ (c : Int) < (n : Int) := by omega
        go_wp2_with fail
        obtain ⟨W2, hW2⟩ : ∃ W2, W2 = w1.alloc (.cells #[.slice none 0 0, .int .i64 0, .bool false] TD8) := ⟨_, rfl⟩
        have HW2 : Hid (Fr [] wo W2 ∧ Blk W2 w1.heap.size TD8 #[.slice none 0 0, .int .i64 0, .bool false]) := ⟨by rw [hW2]; exact HF1.out.alloc _, by rw [hW2]; exact Blk.new w1 TD8 _⟩
        rw [← hW2]
        obtain ⟨X, hX⟩ : ∃ X, X = w1.heap.size := ⟨_, rfl⟩
        rw [← hX] at HW2 ⊢
        have HXN : Hid (wo.heap.size ≤ X) := by show _ ≤ _; have := HF1.out.size; omega
        have HGX : Hid (G ≠ X) := by show _ ≠ _; have := HGB.out.lt; have := HXN.out; omega
        clear hW2 hX g0 g1 g2 a0
        have HST : Hid (XS W2 W2 X 0 (colP ps c) 0 none 0 0) := ⟨HW2.out.2, ORow.nil_ _ _ _, rfl, Fr.refl _ _, HW2.out.2.lt, fun k hk => (by cases hk), Nat.zero_le _⟩
        have g0 : W2.cell? ⟨G, 0, none⟩ = some (.slice A n cc) := (HGB.out.fr HW2.out.1 (by simp)).cell 0
        go_wp2_with fail
        go_loopg [42] n (fun k iv wr => ∃ (j kk nn : Nat) (D : Option Addr), k + j = n ∧ iv = .int .i64 j ∧ Hid (XS W2 wr X 0 (colP ps c) j D nn kk))
        case atStart => exact ⟨0, 0, 0, none, rfl, rfl, HST.out⟩
        case round =>
          clear HST g0
          obtain ⟨j, kk, nn, D, hkj, rfl, HX⟩ := hrel
          have HFX : Hid (Fr [] wo wr) := HW2.out.1.seq HX.out.fr fun z hz => by rw [List.mem_singleton] at hz; exact .inr (.inr ⟨X, HXN.out, hz⟩)
          have HFW : Hid (Fr [] w wr) := HFO.out.trans HFX.out
          by_cases hlt : j < n
          · have gb := HGB.out.fr HFX.out (by simp)
            have g0 : wr.cell? ⟨G, 0, none⟩ = some (.slice A n cc) := gb.cell 0
            have g1 : wr.cell? ⟨G, 1, none⟩ = some (.bool xt) := gb.cell 1
            have g2 : wr.cell? ⟨G, 2, none⟩ = some (.int .i64 xen) := gb.cell 2
            have i1 : (j : Int) < (n : Int) := by omega
            have i2 : (j : Int) ≤ 40 := by have := HN.out; omega
            clear gb
            go_wp2_with fail
            refine (HAT.out wr (j : Int) (c : Int) HFW.out).mono ?_
            rintro en w3 ⟨S, R, kp, rfl, hdat, hf3⟩
            obtain ⟨bb, hbb⟩ : ∃ bb, bb = (datP xs (j : Int) (c : Int)).isSome := ⟨_, rfl⟩
            rw [← hbb]
            have HXF : Hid ((colP ps c)[j]? = some ⟨S, R, kp⟩) := by
              show _ = _
              rw [← hdat]
              exact col_dat xs ps HPS.out j c (by have := HA.out.2.1; omega)
            have HX3 := Lib.hid (HX.out.fr0 hf3)
            have HF3 := Lib.hid hf3
            have t0 : w3.cell? ⟨X, 0, none⟩ = some (.slice D kk nn) := HX3.out.xb.cell 0
            have t0a : (w3.alloc (.cells #[.string ⟨S.toArray⟩, .string ⟨R.toArray⟩, .bool kp] TDc)).cell? ⟨X, 0, none⟩ = some (.slice D kk nn) := (HX3.out.xb.alloc _).cell 0
            have HN9 : Hid (kk ≤ 1000) := by show _ ≤ _; have := HX.out.ln; have := HN.out; omega
            clear hf3 hdat hbb g0 g1 g2
            go_wp2_with (at_builtin; go_must (
              refine wpList_app _ rfl _ _ 93 TDc rfl (Value.agg #[.string ⟨#[]⟩, .string ⟨#[]⟩, .bool false]) 3 40 Try.underlying93 infoDc rfl (by decide) D nn kk (dcc ((colP ps c).take j)) rfl (ORow.fr HX3.out.own (((Fr.refl [] w3).alloc _).alloc _) (.inr List.not_mem_nil)) _ 1 1 [.string ⟨S.toArray⟩, .string ⟨R.toArray⟩, .bool kp] rfl rfl (sl_dc w3 _ _) (by simp [Value.oneCell']) (by have := HN9.out; simp only [maxLen]; omega) (by have := HN9.out; omega) ?_
              intro D2 c2 w5 hr2 hg2 hb2
              have hx := HX3.out.step HXF.out (((Fr.refl [] w3).alloc _).alloc _) hr2 hg2 hb2
              have HX5 := Lib.hid hx.1
              have t05 : w5.cell? ⟨X, 0, none⟩ = some (.slice D kk nn) := hx.2.cell 0
              have z0 := hx.2.frozen 0
              have lt5 := hx.2.lt
              clear hr2 hg2 hb2 hx))
            go_roundg (n - (j + 1))
            case rel => exact ⟨j + 1, kk + 1, c2, D2, by omega, by go_num, HX5.out⟩
            case measure => omega
          · obtain rfl : j = n := by omega
            have hjc : j = (colP ps c).length := by unfold colP; rw [List.length_map, ← HPS.out, List.length_map]; exact HA.out.2.1
            have hXE : XS W2 wr X 0 (colP ps c) (colP ps c).length D nn kk := by have := HX.out; rw [hjc] at this; exact this
            obtain ⟨hf2, hk2⟩ := hXE.row HD.out HW2.out.1 HXN.out
            have HROW : Hid (Fr [] wo wr ∧ Kp (bk B :: some L :: E) wr (RDAt ⟨D, kk, nn, colP ps c, 0, false⟩)) := ⟨hf2, hk2⟩
            have HYF : Hid ((overP ps)[c]? = some (RD.pic ⟨D, kk, nn, colP ps c, 0, false⟩)) := by show _ = _; rw [overP_at ps c HCL.out, HEE.out]; rfl
            have t0 : wr.cell? ⟨X, 0, none⟩ = some (.slice D kk nn) := HX.out.xb.cell 0
            have t1 : wr.cell? ⟨X, 1, none⟩ = some (.int .i64 0) := HX.out.xb.cell 1
            have t2 : wr.cell? ⟨X, 2, none⟩ = some (.bool false) := HX.out.xb.cell 2
            have HM9 : Hid (m ≤ 1000000) := by show _ ≤ _; have := HD.out.len; have := HCL.out; have := HWID.out; have := HWL.out; omega
            clear hjc hXE hf2 hk2
            go_wp2_with (at_builtin; go_must (
              refine wpList_app _ rfl _ _ 33 TD8 rfl (Value.agg #[.slice none 0 0, .int .i64 0, .bool false]) 3 40 Try.underlying33 infoD8 rfl (by decide) B d m (rdc ys) rfl (ORow.fr HD.out.own (HROW.out.1.alloc _) (.inr List.not_mem_nil)) _ 1 1 [.slice D kk nn, .int .i64 0, .bool false] rfl rfl (by exact blk_sl (Blk.new wr TD8 _) 3) (by simp [Value.oneCell']) (by have := HM9.out; simp only [maxLen]; omega) (by have := HM9.out; omega) ?_
              intro B2 d2 w5 hr2 hg2 hb2
              have hx := HD.out.step (x := ⟨D, kk, nn, colP ps c, 0, false⟩) HYF.out HROW.out.1 HROW.out.2 ((Fr.refl [] wr).alloc _) hr2 hg2 hb2
              have HX5 := Lib.hid hx
              clear hr2 hg2 hb2 hx))
            go_roundg (wid - (c + 1))
            case rel => exact ⟨c + 1, m + 1, d2, B2, _, by have := HCL.out; have := HWID.out; omega, by go_num, rfl, HX5.out⟩
            case measure => have := HCL.out; have := HWID.out; omega
    · obtain rfl : c = wid := by omega
      go_wp2_with fail
      refine (HWD.out wo HFO.out).mono ?_
      rintro en w1 ⟨rfl, hf1⟩
      have HF1 := Lib.hid hf1
      have gb := HGB.out.fr hf1 (by simp)
      clear g0 g1 g2
      have g0 : w1.cell? ⟨G, 0, none⟩ = some (.slice A n cc) := gb.cell 0
      have g1 : w1.cell? ⟨G, 1, none⟩ = some (.bool xt) := gb.cell 1
      have g2 : w1.cell? ⟨G, 2, none⟩ = some (.int .i64 xen) := gb.cell 2
      clear hf1 gb
      go_wp2_with fail
      refine (dwith_any w1 A B n cc m d xt xen).mono ?_
      rintro en w2 ⟨rfl, hf2⟩
      have HF2 := Lib.hid (HF1.out.trans hf2)
      have lb := HLB.out.fr HF2.out (by simp)
      have l0 : w2.cell? ⟨L, 0, none⟩ = some (.slice none 0 0) := lb.cell 0
      have l1 : w2.cell? ⟨L, 1, none⟩ = some (.bool false) := lb.cell 1
      have l2 : w2.cell? ⟨L, 2, none⟩ = some (.int .i64 0) := lb.cell 2
      have z0 := lb.frozen 0
      have z1 := lb.frozen 1
      have z2 := lb.frozen 2
      have ll := lb.lt
      have HEND : Hid (∀ w', Fr [some L] w2 w' → GDErr E w (overAll ps xt xen) (overErr n) (.returned (.tuple #[.agg #[.slice B m d, .bool xt, .int .i64 xen], .int .i64 0])) w') := by
        show ∀ _, _
        intro w' hf
        have hd := HD.out
        rw [show c = (overP ps).length by rw [overP_len, HWID.out]] at hd
        obtain ⟨q1, q2⟩ := hd.fin (tl := xt) (eo := xen) HF2.out
        rw [HPE.out.1, HPE.out.2]
        refine ⟨⟨B, m, d, ys, xt, xen⟩, rfl, q1, (q2.fr (hf.weaken fun i _ h => by rw [List.mem_singleton] at h; rw [h]; exact List.mem_cons_self ..)).sub fun i hi => List.mem_cons_of_mem _ hi, ?_⟩
        exact (HFO.out.trans HF2.out).seq hf fun z hz => by rw [List.mem_singleton] at hz; exact .inr (.inr ⟨L, HLW.out, hz⟩)
      clear hf2 lb g0 g1 g2
      go_wp2_with fail
      refine bodyPost_ret (v := .tuple #[.agg #[.slice B m d, .bool xt, .int .i64 xen], .int .i64 0]) (by simp [results, Try.results19, go_sem, *]) rfl ?_
      exact HEND.out _ ((((Fr.refl [some L] w2).setB (fun _ => by simp) _ _).setB (fun _ => by simp) _ _).setB (fun _ => by simp) _ _)
end Go.Proofs.Ytblafakafgediaa
