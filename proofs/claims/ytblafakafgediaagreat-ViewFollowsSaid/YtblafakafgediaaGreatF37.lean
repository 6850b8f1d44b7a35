import Derived.Test.YtblafakafgediaaGreatF35
import Derived.Test.YtblafakafgediaaGreatF17
import Derived.Test.YtblafakafgediaaGreatF36
namespace Go.Proofs.YtblafakafgediaaGreat
open Go.RowKit Go.Proofs.Dm

def follT (xs:List RV) (R top h:Nat) (rh:Bool):Nat :=
  if xs.length = 0 ∨ rh = true then 0 else if R < top then R else if ((R:Nat):Int) ∈ (rowsP xs (min top xs.length) h).map (fun x => (x.1:Int)) then top else highP xs (R + 1) h R
set_option maxHeartbeats 800000 in
theorem grow_no (p:Option Addr) (xs:List RV) (tl:Bool) (eo:Int) (i:Nat) (w:World) (ht:TreeAt TN [] w p xs) (hi:xs.length ≤ i) (hn:xs.length ≤ 100000) :
    Calls Tryz.prog 62 #[.agg #[.pointer p,.bool tl,.int .i64 eo],.int .i64 (i:Nat)] w fun e w' => e = .returned (.tuple #[.agg #[.slice none 0 0,.int .i64 0,.bool false],.bool false]) ∧ Fr [] w w':=by
  have HC:Hid (∀ w',Fr [] w w' → Calls Tryz.prog 124 #[.agg #[.pointer p],.int .i64 (i:Nat)] w' fun e w'' => e = .returned (.tuple #[.agg #[.slice none 0 0,.int .i64 0,.bool false],.bool false]) ∧ Fr [] w' w''):=by
    show ∀ _,_
    intro w' hf
    exact at_no (E:=[]) p xs (i:Nat) w' (ht.fr0 hf) (by omega)
  obtain ⟨W1,hW1⟩:∃ W1,W1 = (w.alloc (.cells #[.pointer p,.bool tl,.int .i64 eo] TGr)).alloc (.cells #[.slice none 0 0,.int .i64 0,.bool false] TRow):=⟨_,rfl⟩
  have HW:Hid (Fr [] w W1 ∧ Blk W1 (w.heap.size + 1) TRow #[.slice none 0 0,.int .i64 0,.bool false]):=by
    have b2:=Blk.new (w.alloc (.cells #[.pointer p,.bool tl,.int .i64 eo] TGr)) TRow #[.slice none 0 0,.int .i64 0,.bool false]
    rw [World.size_alloc,← hW1] at b2
    exact ⟨by rw [hW1]; exact ((Fr.refl [] w).alloc _).alloc _,b2⟩
  have HW1:=Lib.hid hW1
  clear ht hi hn hW1
  go_enter Tryz.func62,Tryz.ntmps62
  go_wp2_with fail
  rw [← HW1.out]
  refine (HC.out _ HW.out.1).mono ?_
  rintro en w2 ⟨rfl,hf2⟩
  have hb:=HW.out.2.fr hf2 (by simp)
  have l0:w2.cell? ⟨w.heap.size + 1,0,none⟩ = some (.slice none 0 0):=hb.cell 0
  have l1:w2.cell? ⟨w.heap.size + 1,1,none⟩ = some (.int .i64 0):=hb.cell 1
  have l2:w2.cell? ⟨w.heap.size + 1,2,none⟩ = some (.bool false):=hb.cell 2
  have z0:=hb.frozen 0
  have z1:=hb.frozen 1
  have z2:=hb.frozen 2
  have ll:=hb.lt
  have HF:=Lib.hid (HW.out.1.trans hf2)
  clear hb hf2
  go_wp2_with fail
  refine bodyPost_ret (v:=.tuple #[.agg #[.slice none 0 0,.int .i64 0,.bool false],.bool false]) (by simp [results,Tryz.results62,go_sem, *]) rfl ?_
  have hx:w.heap.size + 1 < w.heap.size → some (w.heap.size + 1) ∈ ([]:List (Option Nat)):=fun h => absurd h (by omega)
  exact ⟨rfl,((HF.out.setB hx _ _).setB hx _ _).setB hx _ _⟩
set_option maxRecDepth 100000 in
set_option maxHeartbeats 3200000 in
theorem follow_any (w:World) (p:Option Addr) (tl:Bool) (eo pr0 pc0:Int) (xs:List RV) (n pr pc top left h wid t:Nat) (lf:Int) (r:RV) (ht:TreeAt TN [] w p xs) (hn:n = xs.length) (hn7:n ≤ 700) (hpc:pc ≤ 1000)
    (HSE:Hid (∀ w',Fr [] w w' → Calls Tryz.prog 15 #[.agg #[.pointer p,.bool tl,.int .i64 eo],.agg #[.int .i64 pr0,.int .i64 pc0]] w' fun en w'' => en = .returned (.agg #[.int .i64 (pr:Nat),.int .i64 (pc:Nat)]) ∧ Fr [] w' w''))
    (hro:(pr < n ∧ xs[pr]? = some r) ∨ (n = 0 ∧ r = RV.none)) (hpr:pr ≤ 1000) (hh:1 ≤ h) (hh6:h ≤ 1000000) (htop6:top ≤ 2 ^ 50) (hl6:left ≤ 2 ^ 50) (hw6:wid ≤ 1000000) (htt:t = follT xs pr top h r.h) (hlf:lf = max (min (left:Int) pc) ((pc:Int) - wid + 1)) :
    Calls Tryz.prog 16 #[.agg #[.int .i64 (top:Nat),.int .i64 (left:Nat),.int .i64 (h:Nat),.int .i64 (wid:Nat)],.agg #[.pointer p,.bool tl,.int .i64 eo],.agg #[.int .i64 pr0,.int .i64 pc0]] w fun en w' => en = .returned (.agg #[.int .i64 (t:Nat),.int .i64 lf,.int .i64 (h:Nat),.int .i64 (wid:Nat)]) ∧ Fr [] w w':=by
  have HRO:Hid (∀ w',Fr [] w w' → Calls Tryz.prog 62 #[.agg #[.pointer p,.bool tl,.int .i64 eo],.int .i64 (pr:Nat)] w' fun en w'' => ∃ ok,en = .returned (.tuple #[r.val,.bool ok]) ∧ Fr [] w' w''):=by
    show ∀ _,_
    intro w' hf
    rcases hro with ⟨h1,h2⟩ | ⟨h1,h2⟩
    · exact (grow_any p xs tl eo pr r w' (ht.fr0 hf) h2 (by omega)).mono fun e w'' h => ⟨_,h⟩
    · rw [h2]
      exact (grow_no p xs tl eo pr w' (ht.fr0 hf) (by omega) (by omega)).mono fun e w'' h => ⟨_,h⟩
  have HLN:Hid (∀ w',Fr [] w w' → Calls Tryz.prog 36 #[.agg #[.pointer p,.bool tl,.int .i64 eo]] w' fun en w'' => en = .returned (.int .i64 (n:Nat)) ∧ Fr [] w' w''):=by
    show ∀ _,_
    intro w' hf
    have:=glen_any [] p xs tl eo w' (ht.fr0 hf)
    rw [← hn] at this
    exact this
  have HRW:Hid (∀ w',Fr [] w w' → Calls Tryz.prog 18 #[.agg #[.int .i64 (top:Nat),.int .i64 (left:Nat),.int .i64 (h:Nat),.int .i64 (wid:Nat)],.agg #[.pointer p,.bool tl,.int .i64 eo]] w' (IntsAns w' (rowsP xs (min top n) h))):=by
    show ∀ _,_
    intro w' hf
    exact rows_any w' p tl eo xs n (min top n) h (top:Nat) left wid (ht.fr0 hf) hn hn7 (by unfold BegAt; omega) hh6
  have HRL:Hid ((rowsP xs (min top n) h).length ≤ 1000000):=by
    show _ ≤ _
    unfold rowsP
    rw [List.length_take]
    omega
  have HHI:Hid (pr < n → ∀ w',Fr [] w w' → Calls Tryz.prog 70 #[.agg #[.int .i64 (top:Nat),.int .i64 (left:Nat),.int .i64 (h:Nat),.int .i64 (wid:Nat)],.agg #[.pointer p,.bool tl,.int .i64 eo],.int .i64 (pr:Nat)] w' fun en w'' => en = .returned (.int .i64 (highP xs (pr + 1) h pr:Nat)) ∧ Fr [] w' w''):=by
    show _ → ∀ _,_
    intro hpn w' hf
    exact highest_any w' p tl eo xs n h pr (pr + 1) top left wid (ht.fr0 hf) hn hn7 hh6 hh rfl hpn
  have HRR:Hid (n = xs.length ∧ (n ≠ 0 → pr < n)):=⟨hn,fun h0 => by rcases hro with h | h; exact h.1; exact absurd h.1 h0⟩
  have HTT:=Lib.hid htt
  obtain ⟨W1,hW1⟩:∃ W1,W1 = (((w.alloc (.cells #[.int .i64 (top:Nat),.int .i64 (left:Nat),.int .i64 (h:Nat),.int .i64 (wid:Nat)] 40)).alloc (.cells #[.pointer p,.bool tl,.int .i64 eo] TGr)).alloc (.cells #[.int .i64 pr0,.int .i64 pc0] 45)).alloc (.cells #[.int .i64 0,.int .i64 0,.int .i64 0,.int .i64 0] 40):=⟨_,rfl⟩
  have HW:Hid (Fr [] w W1 ∧ Blk W1 w.heap.size 40 #[.int .i64 (top:Nat),.int .i64 (left:Nat),.int .i64 (h:Nat),.int .i64 (wid:Nat)] ∧ Blk W1 (w.heap.size + 1) TGr #[.pointer p,.bool tl,.int .i64 eo] ∧ Blk W1 (w.heap.size + 1 + 1) 45 #[.int .i64 pr0,.int .i64 pc0] ∧ Blk W1 (w.heap.size + 1 + 1 + 1) 40 #[.int .i64 0,.int .i64 0,.int .i64 0,.int .i64 0]):=by
    have b1:=Blk.new (w.alloc (.cells #[.int .i64 (top:Nat),.int .i64 (left:Nat),.int .i64 (h:Nat),.int .i64 (wid:Nat)] 40)) TGr #[.pointer p,.bool tl,.int .i64 eo]
    have b2:=Blk.new ((w.alloc (.cells #[.int .i64 (top:Nat),.int .i64 (left:Nat),.int .i64 (h:Nat),.int .i64 (wid:Nat)] 40)).alloc (.cells #[.pointer p,.bool tl,.int .i64 eo] TGr)) 45 #[.int .i64 pr0,.int .i64 pc0]
    have b3:=Blk.new (((w.alloc (.cells #[.int .i64 (top:Nat),.int .i64 (left:Nat),.int .i64 (h:Nat),.int .i64 (wid:Nat)] 40)).alloc (.cells #[.pointer p,.bool tl,.int .i64 eo] TGr)).alloc (.cells #[.int .i64 pr0,.int .i64 pc0] 45)) 40 #[.int .i64 0,.int .i64 0,.int .i64 0,.int .i64 0]
    have c1:=(b1.alloc (.cells #[.int .i64 pr0,.int .i64 pc0] 45)).alloc (.cells #[.int .i64 0,.int .i64 0,.int .i64 0,.int .i64 0] 40)
    have c2:=b2.alloc (.cells #[.int .i64 0,.int .i64 0,.int .i64 0,.int .i64 0] 40)
    simp only [World.size_alloc] at b3 c1 c2
    rw [← hW1] at b3 c1 c2
    exact ⟨by rw [hW1]; exact ((((Fr.refl [] w).alloc _).alloc _).alloc _).alloc _,by rw [hW1]; exact (((Blk.new w _ _).alloc _).alloc _).alloc _,c1,c2,b3⟩
  have HW1:=Lib.hid hW1
  have x5:IntKind.i64.wrap ((pc:Int) - (wid:Int)) = (pc:Int) - (wid:Int):=IntWalk.i64_in _ (by omega)
  have x6:IntKind.i64.wrap ((pc:Int) - (wid:Int) + 1) = (pc:Int) - (wid:Int) + 1:=IntWalk.i64_in _ (by omega)
  obtain ⟨rA,rn,rc,re,rh⟩:=r
  simp only [RV.val] at HRO
  simp only at HTT
  obtain ⟨VB,hVB⟩:∃ VB,VB = w.heap.size:=⟨_,rfl⟩
  obtain ⟨GB,hGB⟩:∃ GB,GB = w.heap.size + 1:=⟨_,rfl⟩
  obtain ⟨PB,hPB⟩:∃ PB,PB = w.heap.size + 1 + 1:=⟨_,rfl⟩
  obtain ⟨L,hL⟩:∃ L,L = w.heap.size + 1 + 1 + 1:=⟨_,rfl⟩
  have HNB:Hid (VB = w.heap.size ∧ GB = w.heap.size + 1 ∧ PB = w.heap.size + 1 + 1 ∧ L = w.heap.size + 1 + 1 + 1):=⟨hVB,hGB,hPB,hL⟩
  rw [← hL] at HW
  rw [← hPB] at HW
  rw [← hGB] at HW
  rw [← hVB] at HW
  have n1:¬ PB = VB:=by omega
  have n2:¬ PB = GB:=by omega
  have n3:¬ PB = L:=by omega
  have n4:¬ L = PB:=by omega
  have n5:¬ VB = PB:=by omega
  have n6:¬ VB = L:=by omega
  have n7:¬ L = VB:=by omega
  have n8:¬ GB = PB:=by omega
  clear ht hn hn7 hpc hro hpr hh hh6 htop6 hl6 hw6 htt hW1
  go_enter Tryz.func16,Tryz.ntmps16
  go_wp2_with fail
  rw [← HW1.out,← hL,← hPB,← hGB,← hVB]
  clear hL hPB hGB hVB
  refine (HSE.out W1 HW.out.1).mono ?_
  rintro en w2 ⟨rfl,hf2⟩
  have hp2:=HW.out.2.2.2.1.fr hf2 (by simp)
  have p0:w2.cell? ⟨PB,0,none⟩ = some (.int .i64 pr0):=hp2.cell 0
  have p1:w2.cell? ⟨PB,1,none⟩ = some (.int .i64 pc0):=hp2.cell 1
  have z0:=hp2.frozen 0
  have z1:=hp2.frozen 1
  have lp:=hp2.lt
  obtain ⟨W3,hW3⟩:∃ W3,W3 = (w2.setCell ⟨PB,0,none⟩ (.int .i64 (pr:Nat))).setCell ⟨PB,1,none⟩ (.int .i64 (pc:Nat)):=⟨_,rfl⟩
  have HB3:Hid (Fr [] w W3 ∧ Blk W3 VB 40 #[.int .i64 (top:Nat),.int .i64 (left:Nat),.int .i64 (h:Nat),.int .i64 (wid:Nat)] ∧ Blk W3 GB TGr #[.pointer p,.bool tl,.int .i64 eo] ∧ Blk W3 PB 45 #[.int .i64 (pr:Nat),.int .i64 (pc:Nat)] ∧ Blk W3 L 40 #[.int .i64 0,.int .i64 0,.int .i64 0,.int .i64 0]):=by
    rw [hW3]
    have hx:PB < w.heap.size → some PB ∈ ([]:List (Option Nat)):=fun h => absurd h (by have:=HNB.out; omega)
    refine ⟨((HW.out.1.trans hf2).setB hx _ _).setB hx _ _,((HW.out.2.1.fr hf2 (by simp)).far (fun e => n5 e) _).far (fun e => n5 e) _,((HW.out.2.2.1.fr hf2 (by simp)).far (fun e => n8 e) _).far (fun e => n8 e) _,?_,((HW.out.2.2.2.2.fr hf2 (by simp)).far (fun e => n4 e) _).far (fun e => n4 e) _⟩
    have:=(hp2.set_ 0 (.int .i64 (pr:Nat))).set_ 1 (.int .i64 (pc:Nat))
    simpa using this
  have HW3:=Lib.hid hW3
  have HCEL:Hid (∀ w',Fr [] W3 w' → w'.cell? ⟨VB,0,none⟩ = some (.int .i64 (top:Nat)) ∧ w'.cell? ⟨VB,1,none⟩ = some (.int .i64 (left:Nat)) ∧ w'.cell? ⟨VB,2,none⟩ = some (.int .i64 (h:Nat)) ∧ w'.cell? ⟨VB,3,none⟩ = some (.int .i64 (wid:Nat)) ∧ w'.cell? ⟨GB,0,none⟩ = some (.pointer p) ∧ w'.cell? ⟨GB,1,none⟩ = some (.bool tl) ∧ w'.cell? ⟨GB,2,none⟩ = some (.int .i64 eo) ∧ w'.cell? ⟨PB,0,none⟩ = some (.int .i64 (pr:Nat)) ∧ w'.cell? ⟨PB,1,none⟩ = some (.int .i64 (pc:Nat))):=by
    show ∀ _,_
    intro w' hf
    have h1:=HB3.out.2.1.fr hf (by simp)
    have h2:=HB3.out.2.2.1.fr hf (by simp)
    have h3:=HB3.out.2.2.2.1.fr hf (by simp)
    exact ⟨h1.cell 0,h1.cell 1,h1.cell 2,h1.cell 3,h2.cell 0,h2.cell 1,h2.cell 2,h3.cell 0,h3.cell 1⟩
  obtain ⟨a0,a1,a2,a3,g0,g1,g2,q0,q1⟩:=HCEL.out W3 (Fr.refl _ _)
  rw [hW3] at a0 a1 a2 a3 g0 g1 g2 q0 q1
  clear hp2 hf2 hW3
  go_wp2_with fail
  rw [← HW3.out]
  refine (HRO.out W3 HB3.out.1).mono ?_
  rintro en w4 ⟨ok,rfl,hf4⟩
  have HF4:=Lib.hid hf4
  clear a0 a1 a2 a3 g0 g1 g2 q0 q1 p0 p1 z0 z1 lp
  obtain ⟨a0,a1,a2,a3,g0,g1,g2,q0,q1⟩:=HCEL.out (w4.alloc (.cells #[.slice rA rn rc,.int .i64 re,.bool rh] TRow)) (hf4.alloc _)
  have HRB:Hid (∀ W,W = w4.alloc (.cells #[.slice rA rn rc,.int .i64 re,.bool rh] TRow) → Fr [] W3 W ∧ Blk W w4.heap.size TRow #[.slice rA rn rc,.int .i64 re,.bool rh]):=by
    show ∀ _,_
    rintro W rfl
    exact ⟨HF4.out.alloc _,Blk.new w4 _ _⟩
  clear hf4
  go_wp2_with fail
  obtain ⟨W5,hW5⟩:∃ W5,W5 = w4.alloc (.cells #[.slice rA rn rc,.int .i64 re,.bool rh] TRow):=⟨_,rfl⟩
  obtain ⟨k1,k2⟩:=HRB.out W5 hW5
  rw [← hW5]
  obtain ⟨RB,hRB⟩:∃ RB,RB = w4.heap.size:=⟨_,rfl⟩
  rw [← hRB] at k2 ⊢
  have HF5:=Lib.hid k1
  have HR5:=Lib.hid k2
  clear a0 a1 a2 a3 g0 g1 g2 q0 q1 hW5 hRB k1 k2 HRB
  refine (HLN.out W5 (HB3.out.1.trans HF5.out)).mono ?_
  rintro en w6 ⟨rfl,hf6⟩
  have HF6:Hid (Fr [] W3 w6):=HF5.out.trans hf6
  have r2:w6.cell? ⟨RB,2,none⟩ = some (.bool rh):=(HR5.out.fr hf6 (by simp)).cell 2
  have hxV:VB < w.heap.size → some VB ∈ ([]:List (Option Nat)):=fun h => absurd h (by have:=HNB.out; omega)
  have hxL:L < w.heap.size → some L ∈ ([]:List (Option Nat)):=fun h => absurd h (by have:=HNB.out; omega)
  have HX:Hid ((VB < w.heap.size → some VB ∈ ([]:List (Option Nat))) ∧ (L < w.heap.size → some L ∈ ([]:List (Option Nat)))):=⟨hxV,hxL⟩
  clear hf6 hxV hxL
  obtain ⟨a0,a1,a2,a3,g0,g1,g2,q0,q1⟩:=HCEL.out w6 HF6.out
  obtain ⟨H0,rfl⟩:∃ H0:Nat,H0 = h:=⟨_,rfl⟩
  have HLF:=Lib.hid hlf
  clear hlf
  by_cases hn0:n = 0
  · have x1:(n:Int) = 0:=by omega
    have x2:((n:Int) == 0) = true:=by rw [x1]; rfl
    have HT:Hid (t = 0):=by show _ = _; rw [HTT.out]; unfold follT; rw [if_pos (.inl (by rw [← HRR.out.1]; exact hn0))]
    clear hn0
    have hv:=HB3.out.2.1.fr HF6.out (by simp)
    have hl:=HB3.out.2.2.2.2.fr HF6.out (by simp)
    have z0:=hv.frozen 0
    have z1:=hv.frozen 1
    have lv:=hv.lt
    have l0:w6.cell? ⟨L,0,none⟩ = some (.int .i64 0):=hl.cell 0
    have l1:w6.cell? ⟨L,1,none⟩ = some (.int .i64 0):=hl.cell 1
    have l2:w6.cell? ⟨L,2,none⟩ = some (.int .i64 0):=hl.cell 2
    have l3:w6.cell? ⟨L,3,none⟩ = some (.int .i64 0):=hl.cell 3
    have y0:=hl.frozen 0
    have y1:=hl.frozen 1
    have y2:=hl.frozen 2
    have y3:=hl.frozen 3
    have ll:=hl.lt
    clear hv hl
    go_wp2_with fail
    all_goals (refine bodyPost_ret (v:=.agg #[.int .i64 0,.int .i64 lf,.int .i64 (H0:Nat),.int .i64 (wid:Nat)]) (by simp [results,Tryz.results16,go_sem, *] <;> (have:=HLF.out; omega)) rfl ?_)
    all_goals (rw [HT.out])
    all_goals exact ⟨rfl,((((((HB3.out.1.trans HF6.out).setB HX.out.1 _ _).setB HX.out.1 _ _).setB HX.out.2 _ _).setB HX.out.2 _ _).setB HX.out.2 _ _).setB HX.out.2 _ _⟩
  · have hpn:=HRR.out.2 hn0
    have HPN:=Lib.hid hpn
    have x1:¬ (n:Int) = 0:=by omega
    have x2:((n:Int) == 0) = false:=by simpa using x1
    have hn1:¬ xs.length = 0:=by have:=HRR.out.1; omega
    cases rh with
    | true =>
      have HT:Hid (t = 0):=by show _ = _; rw [HTT.out]; unfold follT; rw [if_pos (.inr rfl)]
      clear hn0 hn1 hpn
      have hv:=HB3.out.2.1.fr HF6.out (by simp)
      have hl:=HB3.out.2.2.2.2.fr HF6.out (by simp)
      have z0:=hv.frozen 0
      have z1:=hv.frozen 1
      have lv:=hv.lt
      have l0:w6.cell? ⟨L,0,none⟩ = some (.int .i64 0):=hl.cell 0
      have l1:w6.cell? ⟨L,1,none⟩ = some (.int .i64 0):=hl.cell 1
      have l2:w6.cell? ⟨L,2,none⟩ = some (.int .i64 0):=hl.cell 2
      have l3:w6.cell? ⟨L,3,none⟩ = some (.int .i64 0):=hl.cell 3
      have y0:=hl.frozen 0
      have y1:=hl.frozen 1
      have y2:=hl.frozen 2
      have y3:=hl.frozen 3
      have ll:=hl.lt
      clear hv hl
      go_wp2_with fail
      all_goals (refine bodyPost_ret (v:=.agg #[.int .i64 0,.int .i64 lf,.int .i64 (H0:Nat),.int .i64 (wid:Nat)]) (by simp [results,Tryz.results16,go_sem, *] <;> (have:=HLF.out; omega)) rfl ?_)
      all_goals (rw [HT.out])
      all_goals exact ⟨rfl,((((((HB3.out.1.trans HF6.out).setB HX.out.1 _ _).setB HX.out.1 _ _).setB HX.out.2 _ _).setB HX.out.2 _ _).setB HX.out.2 _ _).setB HX.out.2 _ _⟩
    | false =>
      by_cases hlt:pr < top
      · have x3:(pr:Int) < (top:Int):=by omega
        have HT:Hid (t = pr):=by show _ = _; rw [HTT.out]; unfold follT; rw [if_neg (by simp [hn1]),if_pos hlt]
        clear hn0 hn1 hpn hlt
        have hv:=HB3.out.2.1.fr HF6.out (by simp)
        have hl:=HB3.out.2.2.2.2.fr HF6.out (by simp)
        have z0:=hv.frozen 0
        have z1:=hv.frozen 1
        have lv:=hv.lt
        have l0:w6.cell? ⟨L,0,none⟩ = some (.int .i64 0):=hl.cell 0
        have l1:w6.cell? ⟨L,1,none⟩ = some (.int .i64 0):=hl.cell 1
        have l2:w6.cell? ⟨L,2,none⟩ = some (.int .i64 0):=hl.cell 2
        have l3:w6.cell? ⟨L,3,none⟩ = some (.int .i64 0):=hl.cell 3
        have y0:=hl.frozen 0
        have y1:=hl.frozen 1
        have y2:=hl.frozen 2
        have y3:=hl.frozen 3
        have ll:=hl.lt
        clear hv hl
        go_wp2_with fail
        all_goals (refine bodyPost_ret (v:=.agg #[.int .i64 (pr:Nat),.int .i64 lf,.int .i64 (H0:Nat),.int .i64 (wid:Nat)]) (by simp [results,Tryz.results16,go_sem, *] <;> (have:=HLF.out; omega)) rfl ?_)
        all_goals (rw [HT.out])
        all_goals exact ⟨rfl,((((((HB3.out.1.trans HF6.out).setB HX.out.1 _ _).setB HX.out.1 _ _).setB HX.out.2 _ _).setB HX.out.2 _ _).setB HX.out.2 _ _).setB HX.out.2 _ _⟩
      · have x3:¬ (pr:Int) < (top:Int):=by omega
        obtain ⟨B,hB⟩:∃ B,B = decide (((pr:Nat):Int) ∈ (rowsP xs (min top n) H0).map fun x => (x.1:Int)):=⟨_,rfl⟩
        have HTB:Hid (t = if B = true then top else highP xs (pr + 1) H0 pr):=by
          show _ = _
          rw [HTT.out,hB,HRR.out.1]
          unfold follT
          rw [if_neg (by simp [hn1]),if_neg hlt]
          simp only [decide_eq_true_eq]
        have HBD:=Lib.hid hB
        clear hn0 hn1 hpn hlt hB
        go_wp2_with fail
        go_region_held3 (fun w' => w'.cell? ⟨VB,0,none⟩ = some (.int .i64 (top:Nat)) ∧ w'.cell? ⟨VB,1,none⟩ = some (.int .i64 (left:Nat)) ∧ w'.cell? ⟨VB,2,none⟩ = some (.int .i64 (H0:Nat)) ∧ w'.cell? ⟨VB,3,none⟩ = some (.int .i64 (wid:Nat)) ∧ w'.cell? ⟨GB,0,none⟩ = some (.pointer p) ∧ w'.cell? ⟨GB,1,none⟩ = some (.bool tl) ∧ w'.cell? ⟨GB,2,none⟩ = some (.int .i64 eo) ∧ w'.cell? ⟨PB,0,none⟩ = some (.int .i64 (pr:Nat))) (go_keep) ((first
          | (go_at_call 18; go_must (
               refine (HRW.out _ ((HB3.out.1.trans HF6.out).drew)).mono ?_
               rintro e w7 ⟨C7,n7',c7,rfl,hn7',hs7,hf7⟩
               have HF7:Hid (Fr [] W3 w7):=HF6.out.drew.trans hf7
               have HS7:Hid (Sl w7 C7 (intsV ((rowsP xs (min top n) H0).map fun x => (x.1:Int))) ∧ n7' = ((rowsP xs (min top n) H0).map fun x => (x.1:Int)).length):=⟨by rw [← numI_ints]; exact hs7,by rw [List.length_map]; exact hn7'⟩
               have HR7:Hid (n7' ≤ 1000000):=by show _ ≤ _; rw [hn7']; exact HRL.out
               obtain ⟨b0,b1,b2,b3,b4,b5,b6,b7,b8⟩:=HCEL.out w7 HF7.out
               clear hn7' hs7 hf7))
          | (go_at_call 69; go_must (
               refine (containsI_any w7 C7 n7' c7 _ (pr:Nat) HS7.out.1 HS7.out.2 HR7.out).mono ?_
               rintro e w8 ⟨he8,hf8⟩
               rw [← HBD.out] at he8
               subst he8
               have HF8:Hid (Fr [] W3 w8):=HF7.out.trans hf8
               obtain ⟨d0,d1,d2,d3,d4,d5,d6,d7,d8⟩:=HCEL.out w8 HF8.out
               clear hf8))))
        all_goals clear a0 a1 a2 a3 g0 g1 g2 q0 q1 b0 b1 b2 b3 b4 b5 b6 b7 b8 r2
        all_goals cases B
        · have HT:Hid (t = highP xs (pr + 1) H0 pr):=HTB.out
          go_wp2_with fail
          refine (HHI.out HPN.out w8 (HB3.out.1.trans HF8.out)).mono ?_
          rintro en w9 ⟨rfl,hf9⟩
          have HF9:Hid (Fr [] W3 w9):=HF8.out.trans hf9
          clear d0 d1 d2 d3 d4 d5 d6 d7 d8 hf9
          obtain ⟨a0,a1,a2,a3,g0,g1,g2,q0,q1⟩:=HCEL.out w9 HF9.out
          have hv:=HB3.out.2.1.fr HF9.out (by simp)
          have hl:=HB3.out.2.2.2.2.fr HF9.out (by simp)
          have z0:=hv.frozen 0
          have z1:=hv.frozen 1
          have lv:=hv.lt
          have l0:w9.cell? ⟨L,0,none⟩ = some (.int .i64 0):=hl.cell 0
          have l1:w9.cell? ⟨L,1,none⟩ = some (.int .i64 0):=hl.cell 1
          have l2:w9.cell? ⟨L,2,none⟩ = some (.int .i64 0):=hl.cell 2
          have l3:w9.cell? ⟨L,3,none⟩ = some (.int .i64 0):=hl.cell 3
          have y0:=hl.frozen 0
          have y1:=hl.frozen 1
          have y2:=hl.frozen 2
          have y3:=hl.frozen 3
          have ll:=hl.lt
          clear hv hl
          go_wp2_with fail
          all_goals (refine bodyPost_ret (v:=.agg #[.int .i64 (highP xs (pr + 1) H0 pr:Nat),.int .i64 lf,.int .i64 (H0:Nat),.int .i64 (wid:Nat)]) (by simp [results,Tryz.results16,go_sem, *] <;> (have:=HLF.out; omega)) rfl ?_)
          all_goals (rw [HT.out])
          all_goals exact ⟨rfl,((((((HB3.out.1.trans HF9.out).setB HX.out.1 _ _).setB HX.out.1 _ _).setB HX.out.2 _ _).setB HX.out.2 _ _).setB HX.out.2 _ _).setB HX.out.2 _ _⟩
        · have HT:Hid (t = top):=HTB.out
          have hv:=HB3.out.2.1.fr HF8.out (by simp)
          have hl:=HB3.out.2.2.2.2.fr HF8.out (by simp)
          have z0:=hv.frozen 0
          have z1:=hv.frozen 1
          have lv:=hv.lt
          have l0:w8.cell? ⟨L,0,none⟩ = some (.int .i64 0):=hl.cell 0
          have l1:w8.cell? ⟨L,1,none⟩ = some (.int .i64 0):=hl.cell 1
          have l2:w8.cell? ⟨L,2,none⟩ = some (.int .i64 0):=hl.cell 2
          have l3:w8.cell? ⟨L,3,none⟩ = some (.int .i64 0):=hl.cell 3
          have y0:=hl.frozen 0
          have y1:=hl.frozen 1
          have y2:=hl.frozen 2
          have y3:=hl.frozen 3
          have ll:=hl.lt
          clear hv hl
          go_wp2_with fail
          all_goals (refine bodyPost_ret (v:=.agg #[.int .i64 (top:Nat),.int .i64 lf,.int .i64 (H0:Nat),.int .i64 (wid:Nat)]) (by simp [results,Tryz.results16,go_sem, *] <;> (have:=HLF.out; omega)) rfl ?_)
          all_goals (rw [HT.out])
          all_goals exact ⟨rfl,(((((HB3.out.1.trans HF8.out).setB HX.out.1 _ _).setB HX.out.2 _ _).setB HX.out.2 _ _).setB HX.out.2 _ _).setB HX.out.2 _ _⟩
end Go.Proofs.YtblafakafgediaaGreat
