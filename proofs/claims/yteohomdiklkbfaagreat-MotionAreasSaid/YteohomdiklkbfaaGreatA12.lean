import Derived.Test.YteohomdiklkbfaaGreatA09
import Derived.Deep.RegionLaw
import Derived.Deep.RegionHeld3
namespace Go.Proofs.YteohomdiklkbfaaGreat
open Go.RowKit Go.Proofs.Dm

set_option maxRecDepth 100000 in
set_option maxHeartbeats 1600000 in
theorem rowload_any (E:List (Option Nat)) (w:World) (N m d e:Nat) (B:Option Addr) (xs:List FV) (hE:Old E w) (hm:m = xs.length) (h40:m ≤ 40) (hB:Sl w B (fvc xs)) (hx:∀ x ∈ xs,FieldAt N x w) (hb:∀ x ∈ xs,x.f.a + x.f.n ≤ N ∧ x.f.places.length ≤ N) (hN:N ≤ 1000000) :
    Calls Tryz.prog 57 #[.agg #[.slice B m d,.int .i64 (e:Nat)]] w (RowAns E w N (xs.map FV.f) e):=by
  have h1:¬ (40:Int) < (m:Int):=by omega
  have h2:(m:Int) ≤ 40:=by omega
  have HMK:∀ W:World,(Instr.makeSlice 61 (.int .i64 (m:Int)) (.int .i64 (m:Int))).run Tryz.prog W = .ok (.slice (some ⟨W.heap.size,0,none⟩) m m) (W.alloc (.cells (cvc (List.replicate m CV.zero)).toArray TCl)):=run_makeCl m (by omega)
  obtain ⟨Z,hZ⟩:∃ Z,Z = (cvc (List.replicate m CV.zero)).toArray:=⟨_,rfl⟩
  rw [← hZ] at HMK
  have HZ:=Lib.hid hZ
  have HB:=Lib.hid hB
  have HX:=Lib.hid hx
  have HBD:=Lib.hid hb
  have HN:=Lib.hid hN
  have HM:=Lib.hid hm
  have HE:=Lib.hid hE
  have H40:=Lib.hid h40
  clear hZ hB hx hb hN hm hE h40
  go_enter Tryz.func57,Tryz.ntmps57
  go_wp2_with fail
  have HW:Hid (∀ W0,W0 = (w.alloc (.cells #[.slice B m d,.int .i64 (e:Nat)] TRw)).alloc (.cells #[.slice none 0 0,.int .i64 0,.bool false] TRow) → Fr [] w W0 ∧ Blk W0 w.heap.size TRw #[.slice B m d,.int .i64 (e:Nat)] ∧ Blk W0 (w.heap.size + 1) TRow #[.slice none 0 0,.int .i64 0,.bool false]):=by
    show ∀ _,_
    rintro W0 rfl
    have b1:=Blk.new (w.alloc (.cells #[.slice B m d,.int .i64 (e:Nat)] TRw)) TRow #[.slice none 0 0,.int .i64 0,.bool false]
    rw [show (w.alloc (.cells #[.slice B m d,.int .i64 (e:Nat)] TRw)).heap.size = w.heap.size + 1 by simp] at b1
    exact ⟨((Fr.refl [] w).alloc _).alloc _,(Blk.new w TRw _).alloc _,b1⟩
  obtain ⟨W0,hW0⟩:∃ W0,W0 = (w.alloc (.cells #[.slice B m d,.int .i64 (e:Nat)] TRw)).alloc (.cells #[.slice none 0 0,.int .i64 0,.bool false] TRow):=⟨_,rfl⟩
  have HW0:=Lib.hid (HW.out W0 hW0)
  rw [← hW0]
  obtain ⟨L,hL⟩:∃ L,L = w.heap.size + 1:=⟨_,rfl⟩
  obtain ⟨g,hg⟩:∃ g,g = w.heap.size:=⟨_,rfl⟩
  rw [← hL] at HW0 ⊢
  rw [← hg] at HW0 ⊢
  have HPG:Hid (g = w.heap.size ∧ L = g + 1):=⟨hg,by omega⟩
  clear hW0 hL hg HW
  have g0:W0.cell? ⟨g,0,none⟩ = some (.slice B m d):=HW0.out.2.1.cell 0
  have g1:W0.cell? ⟨g,1,none⟩ = some (.int .i64 (e:Nat)):=HW0.out.2.1.cell 1
  have gl:=HW0.out.2.1.lt
  have n1:=World.new_ne W0 _ g0
  go_region_held3 (fun w' => w'.cell? ⟨g,0,none⟩ = some (.slice B m d) ∧ w'.cell? ⟨g,1,none⟩ = some (.int .i64 (e:Nat))) (go_keep) (fail)
  all_goals
    first
      | (obtain ⟨W,hW⟩:∃ W,W = ((W0.alloc (.cells Z TCl)).alloc (.cells #[.slice (some ⟨W0.heap.size,0,none⟩) m m,.int .i64 (e:Nat),.bool false] TRow)).drew:=⟨_,rfl⟩
         rw [← hW]
         obtain ⟨T,hT⟩:∃ T,T = W0.heap.size + 1:=⟨_,rfl⟩
         obtain ⟨R,hR⟩:∃ R,R = W0.heap.size:=⟨_,rfl⟩
         have hRL:RL E w W N T R L m e xs 0 []:=RL.start HW0.out.1 HW0.out.2.2 (by have:=HPG.out; omega) HE.out HM.out HZ.out (.inl ⟨hW,hR,hT⟩)
         have hfw:Fr [] W0 W:=by rw [hW]; exact (((Fr.refl [] W0).alloc _).alloc _).drew
         rw [← hT,← hR])
      | (obtain ⟨W,hW⟩:∃ W,W = ((W0.alloc (.cells #[.slice (some ⟨W0.heap.size + 1,0,none⟩) m m,.int .i64 (e:Nat),.bool false] TRow)).alloc (.cells Z TCl)).drew:=⟨_,rfl⟩
         rw [← hW]
         obtain ⟨R,hR⟩:∃ R,R = W0.heap.size + 1:=⟨_,rfl⟩
         obtain ⟨T,hT⟩:∃ T,T = W0.heap.size:=⟨_,rfl⟩
         have hRL:RL E w W N T R L m e xs 0 []:=RL.start HW0.out.1 HW0.out.2.2 (by have:=HPG.out; omega) HE.out HM.out HZ.out (.inr ⟨hW,hR,hT⟩)
         have hfw:Fr [] W0 W:=by rw [hW]; exact (((Fr.refl [] W0).alloc _).alloc _).drew
         rw [← hR,← hT])
    clear hW hR hT
    obtain ⟨ad,had⟩:∃ ad:Addr,ad = ⟨R,0,none⟩:=⟨_,rfl⟩
    rw [← had]
    have HAD:=Lib.hid had
    have HRL:=Lib.hid hRL
    have gw:W.cell? ⟨g,0,none⟩ = some (.slice B m d):=(hfw.cell (p:=⟨g,0,none⟩) gl (by simp)).trans g0
    clear had hRL hfw n1 g0 g1 gl HMK
    go_wp2_with fail
    go_loopw [22] (fun iv wr => ∃ (j:Nat) (cs:List CV),iv = .int .i64 j ∧ j ≤ m ∧ Hid (RL E w wr N T R L m e xs j cs)) (fun iv _ => m - (intOf iv).toNat)
    case atStart => exact ⟨0,[],rfl,Nat.zero_le _,HRL.out⟩
    case round =>
      clear HRL gw
      obtain ⟨j,cs,rfl,hj,HRL⟩:=hrel
      by_cases hlt:j < m
      · have hjl:j < xs.length:=by rw [← HM.out]; exact hlt
        obtain ⟨bd,rfl,e0,e1⟩:=sl_elem (f:=FV.cells) (sz:=4) (fun _ => rfl) (HB.out.fr HRL.out.fr (.inr List.not_mem_nil)) hjl (by omega)
        obtain ⟨f,hf⟩:∃ f,f = xs[j]:=⟨_,rfl⟩
        rw [← hf] at e0 e1
        obtain ⟨mm,hmm⟩:∃ mm,mm = f.sp.length:=⟨_,rfl⟩
        obtain ⟨fa,hfa⟩:∃ fa,fa = f.f.a:=⟨_,rfl⟩
        obtain ⟨fn,hfn⟩:∃ fn,fn = f.f.n:=⟨_,rfl⟩
        obtain ⟨fk,hfk⟩:∃ fk,fk = f.f.kind:=⟨_,rfl⟩
        obtain ⟨fB,hfB⟩:∃ fB,fB = f.B:=⟨_,rfl⟩
        obtain ⟨fd,hfd⟩:∃ fd,fd = f.d:=⟨_,rfl⟩
        have c0:wr.cell? (bd.add (j * 4)) = some (.int .i64 (fa:Nat)):=by rw [hfa]; exact e0 _ rfl
        have c1:wr.cell? ⟨(bd.add (j * 4)).block,(bd.add (j * 4)).off + 1,none⟩ = some (.int .i64 (fn:Nat)):=by rw [hfn]; exact e1 0 _ rfl
        have c2:wr.cell? ⟨(bd.add (j * 4)).block,(bd.add (j * 4)).off + 2,none⟩ = some (.int .i64 (fk:Nat)):=by rw [hfk]; exact e1 1 _ rfl
        have c3:wr.cell? ⟨(bd.add (j * 4)).block,(bd.add (j * 4)).off + 3,none⟩ = some (.slice fB mm fd):=by rw [hmm,hfB,hfd]; exact e1 2 _ rfl
        have HF:Hid (xs[j]? = some f ∧ fa = f.f.a ∧ fn = f.f.n):=⟨by rw [List.getElem?_eq_getElem hjl,hf],hfa,hfn⟩
        have HC:Hid (∀ w',Fr [] wr w' → Calls Tryz.prog 99 #[.agg #[.int .i64 (fa:Nat),.int .i64 (fn:Nat),.int .i64 (fk:Nat),.slice fB mm fd]] w' (CellAns w' N f.f.places fa fn)):=by
          show ∀ _,_
          intro w' hf'
          have hfx:=HX.out f (by rw [hf]; exact List.getElem_mem hjl)
          have hfb:=HBD.out f (by rw [hf]; exact List.getElem_mem hjl)
          have:=cellload_any w' N fa fn fk mm fd fB f.sp (by rw [hfB]; exact (hfx.1.fr HRL.out.fr (.inr List.not_mem_nil)).fr hf' (.inr List.not_mem_nil)) hmm hfx.2.2.2 HN.out (by rw [hfx.2.2.1]; have:=HN.out; omega)
          rwa [hfx.2.2.1] at this
        have hj0:(0:Int) ≤ (j:Int):=by omega
        have hj1:(j:Int) < (m:Int):=by omega
        have hj2:(j:Int) ≤ 40:=by omega
        clear e0 e1 hf hmm hfa hfn hfk hfB hfd
        have HW1:Hid (∀ wa,wa = wr.alloc (.cells #[.int .i64 (fa:Nat),.int .i64 (fn:Nat),.int .i64 (fk:Nat),.slice fB mm fd] TFd) → Fr [] wr wa ∧ Blk wa wr.heap.size TFd #[.int .i64 (fa:Nat),.int .i64 (fn:Nat),.int .i64 (fk:Nat),.slice fB mm fd]):=by
          show ∀ _,_
          rintro wa rfl
          exact ⟨(Fr.refl [] wr).alloc _,Blk.new wr TFd _⟩
        go_wp2_with fail
        obtain ⟨wa,hwa⟩:∃ wa,wa = wr.alloc (.cells #[.int .i64 (fa:Nat),.int .i64 (fn:Nat),.int .i64 (fk:Nat),.slice fB mm fd] TFd):=⟨_,rfl⟩
        rw [← hwa]
        obtain ⟨k1,k2⟩:=HW1.out wa hwa
        have HWA:=Lib.hid k1
        have HRA:=Lib.hid (HRL.out.fr0 k1)
        have b0:wa.cell? ⟨wr.heap.size,0,none⟩ = some (.int .i64 (fa:Nat)):=k2.cell 0
        have b1:wa.cell? ⟨wr.heap.size,1,none⟩ = some (.int .i64 (fn:Nat)):=k2.cell 1
        have b2:wa.cell? ⟨wr.heap.size,2,none⟩ = some (.int .i64 (fk:Nat)):=k2.cell 2
        have b3:wa.cell? ⟨wr.heap.size,3,none⟩ = some (.slice fB mm fd):=k2.cell 3
        have t0:wa.cell? ⟨T,0,none⟩ = some (.slice (some ad) m m):=by rw [HAD.out]; exact HRA.out.tb.cell 0
        clear hwa k1 k2 HW1 c0 c1 c2 c3
        go_region_law (
          (refine step_call _ (by rfl) 99 #[.agg #[.int .i64 (fa:Nat),.int .i64 (fn:Nat),.int .i64 (fk:Nat),.slice fB mm fd]] (by go_simp) _ (HC.out _ (HWA.out.trans ((Fr.refl [] wa).drew))) (by rintro e w4 ⟨x,he,_⟩; exact ⟨_,he⟩) ?_
           intro v4 w4 hans
           obtain ⟨⟨xB,xm,xd,xsp,xq,xa,xn,xk⟩,hv4,x1,x2,x3,x4,x5,x6,x7,x8,x9,x10⟩:=hans
           injection hv4 with hv4
           subst hv4
           have y1:true = xk:=x1.symm
           have y2:fa = xa:=x2.symm
           have y3:fn = xn:=x3.symm
           subst y1 y2 y3
           simp only [CV.val]
           have HF4:Hid (Fr [] wa w4):=((Fr.refl [] wa).drew).trans x9
           have HR4:=Lib.hid (HRA.out.fr0 HF4.out)
           have t4:w4.cell? ⟨T,0,none⟩ = some (.slice (some ad) m m):=by rw [HAD.out]; exact HR4.out.tb.cell 0
           obtain ⟨o0,o1,o2,o3,o4,s0,s1,s2,s3,s4,z0,z1,z2,z3,z4,hbk,hfr⟩:=store5 HAD.out HR4.out.rb (cells_fit cs j m HR4.out.cl hlt) (.slice xB xm xd) (.int .i64 (xq:Nat)) (.int .i64 (fa:Nat)) (.int .i64 (fn:Nat)) (.bool true)
           have HXX:Hid (plc xsp = f.f.places ∧ xq = f.f.places.length ∧ xm = xsp.length ∧ ORow w4 TSp 2 xB xd xsp.length (spc xsp) ∧ (∀ y ∈ xsp,1 ≤ y.2 ∧ y.1 + y.2 ≤ N) ∧ ∀ k,bk xB = some k → wa.heap.size ≤ k):=⟨x4,x5,x6,x7,x8,fun k hk => by have:=x10 k hk; simpa using this⟩
           have HBK:=Lib.hid (store5_cells HAD.out hbk (List.length_take_of_le (by have:=cells_fit cs j m HR4.out.cl hlt; omega)))
           rw [cells_next cs xB xm xd xsp xq fa fn j m HR4.out.cl hlt] at hbk
           have HST:=Lib.hid (And.intro hbk hfr)
           clear x1 x2 x3 x4 x5 x6 x7 x8 x9 x10 hbk hfr))
        all_goals
          obtain ⟨W5,hW5⟩:∃ W5,W5 = (((((w4.setCell (ad.add (j * 5)) (.slice xB xm xd)).setCell ⟨(ad.add (j * 5)).block,(ad.add (j * 5)).off + 1,none⟩ (.int .i64 (xq:Nat))).setCell ⟨(ad.add (j * 5)).block,(ad.add (j * 5)).off + 2,none⟩ (.int .i64 (fa:Nat))).setCell ⟨(ad.add (j * 5)).block,(ad.add (j * 5)).off + 3,none⟩ (.int .i64 (fn:Nat))).setCell ⟨(ad.add (j * 5)).block,(ad.add (j * 5)).off + 4,none⟩ (.bool true)):=⟨_,rfl⟩
          rw [← hW5] at HST HBK ⊢
          clear hW5 s0 s1 s2 s3 s4 z0 z1 z2 z3 z4 t4 b0 b1 b2 b3 t0
          obtain ⟨r0,r1⟩:=HBK.out
          have tb5:=HR4.out.tb.fr HST.out.2 (fun e => by rw [List.mem_singleton] at e; injection e with e; exact HR4.out.tr e)
          have lb5:=HR4.out.res.fr HST.out.2 (fun e => by rw [List.mem_singleton] at e; injection e with e; exact HR4.out.rl e.symm)
          have t5:W5.cell? ⟨T,0,none⟩ = some (.slice (some ad) m m):=by rw [HAD.out]; exact tb5.cell 0
          have HLB:=Lib.hid lb5
          have HFW:Hid (Fr [] w W5):=by
            refine HR4.out.fr.seq HST.out.2 fun x hx => ?_
            rw [List.mem_singleton] at hx
            exact .inr (.inr ⟨R,HR4.out.rn,hx⟩)
          clear tb5 lb5
          by_cases hq:400 < xq
          · have hq1:(400:Int) < (xq:Int):=by omega
            have HBAD:Hid (∀ w',Fr [] w w' → RowAns E w N (xs.map FV.f) e (.returned (.tuple #[.agg #[.slice none 0 0,.int .i64 0,.bool false],.int .i64 7])) w'):=by
              show ∀ _,_
              intro w' hf
              exact HR4.out.bad H40.out HF.out.1 (by have:=HXX.out.2.1; omega) hf
            have HLL:Hid (w.heap.size ≤ L):=HR4.out.ln
            clear hq
            go_wp2_with fail
            refine (textlen_any W5 xB xm xd xq).mono ?_
            rintro ee w6 ⟨rfl,hf6⟩
            have l6:=HLB.out.fr hf6 (by simp)
            have HF6:=Lib.hid (HFW.out.trans hf6)
            have c0:w6.cell? ⟨L,0,none⟩ = some (.slice none 0 0):=l6.cell 0
            have c1:w6.cell? ⟨L,1,none⟩ = some (.int .i64 0):=l6.cell 1
            have c2:w6.cell? ⟨L,2,none⟩ = some (.bool false):=l6.cell 2
            have z0:=l6.frozen 0
            have z1:=l6.frozen 1
            have z2:=l6.frozen 2
            have ll:=l6.lt
            clear hf6 l6
            go_wp2_with fail
            refine bodyPost_ret (v:=.tuple #[.agg #[.slice none 0 0,.int .i64 0,.bool false],.int .i64 7]) (by simp [results,Tryz.results57,go_sem, *]) rfl ?_
            exact HBAD.out _ (((HF6.out.setB (fun h => absurd h (by have:=HLL.out; omega)) _ _).setB (fun h => absurd h (by have:=HLL.out; omega)) _ _).setB (fun h => absurd h (by have:=HLL.out; omega)) _ _)
          · have hq1:¬ (400:Int) < (xq:Int):=by omega
            have hq2:(xq:Int) ≤ 400:=by omega
            have HNX:Hid (RL E w W5 N T R L m e xs (j + 1) (cs ++ [⟨xB,xm,xd,xsp,xq,fa,fn,true⟩])):=by
              obtain ⟨g1,g2,g3⟩:=HF.out
              obtain ⟨p1,p2,p3,p4,p5,p6⟩:=HXX.out
              have hbd:=HBD.out f (List.mem_of_getElem? g1)
              have hs1:=HRA.out.tb.lt
              have hs2:=HRA.out.rb.lt
              have hs3:=HRA.out.res.lt
              refine HRA.out.step hlt g1 HF4.out rfl g2 g3 p1 p2 p3 p4 p5 (fun k hk => ?_) hbd.1 HST.out.2 HST.out.1 (by omega)
              have:=p6 k hk
              have:=HRA.out.rn
              omega
            clear hq
            go_wp2_with fail
            refine (textlen_any W5 xB xm xd xq).mono ?_
            rintro ee w6 ⟨rfl,hf6⟩
            have HN6:=Lib.hid (HNX.out.fr0 hf6)
            clear hf6
            go_wp2_with fail
            go_roundw
            case rel => exact ⟨j + 1,_,by go_num,by omega,HN6.out⟩
            case measure => simp [intOf]; omega
      · obtain rfl:j = m:=by omega
        have tb:=HRL.out.tb
        have lb:=HRL.out.res
        have t0:wr.cell? ⟨T,0,none⟩ = some (.slice (some ⟨R,0,none⟩) j j):=tb.cell 0
        have t1:wr.cell? ⟨T,1,none⟩ = some (.int .i64 (e:Nat)):=tb.cell 1
        have t2:wr.cell? ⟨T,2,none⟩ = some (.bool false):=tb.cell 2
        have c0:wr.cell? ⟨L,0,none⟩ = some (.slice none 0 0):=lb.cell 0
        have c1:wr.cell? ⟨L,1,none⟩ = some (.int .i64 0):=lb.cell 1
        have c2:wr.cell? ⟨L,2,none⟩ = some (.bool false):=lb.cell 2
        have z0:=lb.frozen 0
        have z1:=lb.frozen 1
        have z2:=lb.frozen 2
        have ll:=lb.lt
        have HEND:Hid (∀ w',Fr [some L] wr w' → RowAns E w N (xs.map FV.f) e (.returned (.tuple #[.agg #[.slice (some ⟨R,0,none⟩) j j,.int .i64 (e:Nat),.bool false],.int .i64 0])) w'):=by
          show ∀ _,_
          intro w' hf
          exact HRL.out.fin H40.out hf
        clear tb lb
        go_wp2_with fail
        refine bodyPost_ret (v:=.tuple #[.agg #[.slice (some ⟨R,0,none⟩) j j,.int .i64 (e:Nat),.bool false],.int .i64 0]) (by simp [results,Tryz.results57,go_sem, *]) rfl ?_
        exact HEND.out _ ((((Fr.refl [some L] wr).setB (fun _ => by simp) _ _).setB (fun _ => by simp) _ _).setB (fun _ => by simp) _ _)
end Go.Proofs.YteohomdiklkbfaaGreat
namespace Go.Proofs.YteohomdiklkbfaaGreat
open Go.RowKit Go.Proofs.Dm

set_option maxHeartbeats 800000 in
theorem rowhas_any (w:World) (A:Option Addr) (n c:Nat) (e i:Int) (h:Bool) :
    Calls Tryz.prog 128 #[.agg #[.slice A n c,.int .i64 e,.bool h],.int .i64 i] w fun en w' => en = .returned (.bool (decide (0 ≤ i ∧ i < (n:Int)))) ∧ Fr [] w w':=by
  by_cases h0:0 ≤ i
  · by_cases h1:i < (n:Int)
    · rw [show decide (0 ≤ i ∧ i < (n:Int)) = true from decide_eq_true ⟨h0,h1⟩]
      go_enter Tryz.func128,Tryz.ntmps128
      go_wp2_with fail
      go_ret
      exact ⟨rfl,(Fr.refl [] w).alloc _⟩
    · rw [show decide (0 ≤ i ∧ i < (n:Int)) = false from decide_eq_false fun h => h1 h.2]
      go_enter Tryz.func128,Tryz.ntmps128
      go_wp2_with fail
      go_ret
      exact ⟨rfl,(Fr.refl [] w).alloc _⟩
  · rw [show decide (0 ≤ i ∧ i < (n:Int)) = false from decide_eq_false fun h => h0 h.1]
    go_enter Tryz.func128,Tryz.ntmps128
    go_wp2_with fail
    go_ret
    exact ⟨rfl,(Fr.refl [] w).alloc _⟩
def atC (cs:List CV) (i:Int):Option CV:=if 0 ≤ i then cs[i.toNat]? else none
def RAtAns (cs:List CV) (i:Int) (w:World) (en:Ending) (w':World):Prop :=
  ∃ (B:Option Addr) (m d q a n:Nat) (k:Bool) (sp:List (Nat × Nat)),en = .returned (.tuple #[.agg #[.slice B m d,.int .i64 (q:Nat),.int .i64 (a:Nat),.int .i64 (n:Nat),.bool k],.bool (atC cs i).isSome]) ∧ (atC cs i).getD CV.zero = ⟨B,m,d,sp,q,a,n,k⟩ ∧ Fr [] w w'
set_option maxRecDepth 100000 in
set_option maxHeartbeats 1600000 in
theorem rowat_any (w:World) (A:Option Addr) (n c:Nat) (e i:Int) (h:Bool) (cs:List CV) (hA:Sl w A (cvc cs)) (hn:n = cs.length) (h6:n ≤ 1000000) :
    Calls Tryz.prog 112 #[.agg #[.slice A n c,.int .i64 e,.bool h],.int .i64 i] w (RAtAns cs i w):=by
  obtain ⟨W1,hW1⟩:∃ W1,W1 = (w.alloc (.cells #[.slice A n c,.int .i64 e,.bool h] TRow)).alloc (.cells #[.slice none 0 0,.int .i64 0,.int .i64 0,.int .i64 0,.bool false] TCl):=⟨_,rfl⟩
  have HW:Hid (Fr [] w W1 ∧ Blk W1 (w.heap.size + 1) TCl #[.slice none 0 0,.int .i64 0,.int .i64 0,.int .i64 0,.bool false] ∧ Blk W1 w.heap.size TRow #[.slice A n c,.int .i64 e,.bool h]):=by
    have b2:=Blk.new (w.alloc (.cells #[.slice A n c,.int .i64 e,.bool h] TRow)) TCl #[.slice none 0 0,.int .i64 0,.int .i64 0,.int .i64 0,.bool false]
    rw [World.size_alloc,← hW1] at b2
    exact ⟨by rw [hW1]; exact ((Fr.refl [] w).alloc _).alloc _,b2,by rw [hW1]; exact (Blk.new w TRow _).alloc _⟩
  have HW1:=Lib.hid hW1
  obtain ⟨hb,hhb⟩:∃ hb,hb = decide (0 ≤ i ∧ i < (n:Int)):=⟨_,rfl⟩
  have HH:Hid (∀ w',Calls Tryz.prog 128 #[.agg #[.slice A n c,.int .i64 e,.bool h],.int .i64 i] w' fun en w'' => en = .returned (.bool hb) ∧ Fr [] w' w''):=by
    show ∀ _,_
    intro w'
    rw [hhb]
    exact rowhas_any w' A n c e i h
  have HL:Hid (∀ (w':World) (u0 u1 u2 u3 u4:Value),Fr [] W1 w' → Fr [] w (((((w'.setCell ⟨w.heap.size + 1,0,none⟩ u0).setCell ⟨w.heap.size + 1,1,none⟩ u1).setCell ⟨w.heap.size + 1,2,none⟩ u2).setCell ⟨w.heap.size + 1,3,none⟩ u3).setCell ⟨w.heap.size + 1,4,none⟩ u4)):=by
    show ∀ _,_
    intro w' u0 u1 u2 u3 u4 hf
    have hx:w.heap.size + 1 < w.heap.size → some (w.heap.size + 1) ∈ ([]:List (Option Nat)):=fun h => absurd h (by omega)
    exact (((((HW.out.1.trans hf).setB hx _ _).setB hx _ _).setB hx _ _).setB hx _ _).setB hx _ _
  by_cases hi:0 ≤ i ∧ i < (n:Int)
  · obtain ⟨j,rfl⟩:∃ j:Nat,i = (j:Int):=⟨i.toNat,by omega⟩
    have hhb2:hb = true:=by rw [hhb]; exact decide_eq_true hi
    subst hhb2
    have hj:j < cs.length:=by omega
    obtain ⟨bx,rfl,e0,e1⟩:=sl_elem (f:=CV.cells) (sz:=5) (fun _ => rfl) hA hj (by omega)
    obtain ⟨x,hx⟩:∃ x,x = cs[j]:=⟨_,rfl⟩
    rw [← hx] at e0 e1
    have HD:Hid (atC cs (j:Int) = some x):=by
      show _ = _
      unfold atC
      rw [if_pos hi.1,Int.toNat_natCast,List.getElem?_eq_getElem hj,hx]
    obtain ⟨B,m,d,sp,q,a,k,kp⟩:=x
    have HXC:Hid (∀ w',Fr [] w w' → w'.cell? (bx.add (j * 5)) = some (.slice B m d) ∧ w'.cell? ⟨(bx.add (j * 5)).block,(bx.add (j * 5)).off + 1,none⟩ = some (.int .i64 (q:Nat)) ∧ w'.cell? ⟨(bx.add (j * 5)).block,(bx.add (j * 5)).off + 2,none⟩ = some (.int .i64 (a:Nat)) ∧ w'.cell? ⟨(bx.add (j * 5)).block,(bx.add (j * 5)).off + 3,none⟩ = some (.int .i64 (k:Nat)) ∧ w'.cell? ⟨(bx.add (j * 5)).block,(bx.add (j * 5)).off + 4,none⟩ = some (.bool kp)):=by
      show ∀ _,_
      intro w' hf
      have hkp:∀ p u,w.cell? p = some u → w'.cell? p = some u:=fun p u h => by
        rw [hf.cell (World.block_lt_of_cell? w p h) List.not_mem_nil]; exact h
      exact ⟨hkp _ _ (e0 _ rfl),hkp _ _ (e1 0 _ rfl),hkp _ _ (e1 1 _ rfl),hkp _ _ (e1 2 _ rfl),hkp _ _ (e1 3 _ rfl)⟩
    have r0:(0:Int) ≤ (j:Int):=hi.1
    have r1:(j:Int) < (n:Int):=hi.2
    clear e0 e1 hx hi hj hA hn h6 hhb hW1
    go_enter Tryz.func112,Tryz.ntmps112
    go_wp2_with fail
    rw [← HW1.out]
    refine (HH.out W1).mono ?_
    rintro en w2 ⟨rfl,hf2⟩
    have hb2:=HW.out.2.1.fr hf2 (by simp)
    have gb2:=HW.out.2.2.fr hf2 (by simp)
    have g0:w2.cell? ⟨w.heap.size,0,none⟩ = some (.slice (some bx) n c):=gb2.cell 0
    obtain ⟨d0,d1,d2,d3,d4⟩:=HXC.out w2 (HW.out.1.trans hf2)
    have l0:w2.cell? ⟨w.heap.size + 1,0,none⟩ = some (.slice none 0 0):=hb2.cell 0
    have l1:w2.cell? ⟨w.heap.size + 1,1,none⟩ = some (.int .i64 0):=hb2.cell 1
    have l2:w2.cell? ⟨w.heap.size + 1,2,none⟩ = some (.int .i64 0):=hb2.cell 2
    have l3:w2.cell? ⟨w.heap.size + 1,3,none⟩ = some (.int .i64 0):=hb2.cell 3
    have l4:w2.cell? ⟨w.heap.size + 1,4,none⟩ = some (.bool false):=hb2.cell 4
    have z0:=hb2.frozen 0
    have z1:=hb2.frozen 1
    have z2:=hb2.frozen 2
    have z3:=hb2.frozen 3
    have z4:=hb2.frozen 4
    have ll:=hb2.lt
    have HF2:=Lib.hid hf2
    clear hb2 gb2 hf2
    go_wp2_with fail
    refine bodyPost_ret (v:=.tuple #[.agg #[.slice B m d,.int .i64 (q:Nat),.int .i64 (a:Nat),.int .i64 (k:Nat),.bool kp],.bool true]) (by simp [results,Tryz.results112,go_sem, *]) rfl ?_
    exact ⟨B,m,d,q,a,k,kp,sp,by rw [HD.out]; rfl,by rw [HD.out]; rfl,HL.out _ _ _ _ _ _ HF2.out⟩
  · have hhb2:hb = false:=by rw [hhb]; exact decide_eq_false hi
    subst hhb2
    have HD:Hid (atC cs i = none):=by
      show _ = _
      unfold atC
      split
      · rw [List.getElem?_eq_none (by omega)]
      · rfl
    clear hi hA hn h6 hhb hW1
    go_enter Tryz.func112,Tryz.ntmps112
    go_wp2_with fail
    rw [← HW1.out]
    refine (HH.out W1).mono ?_
    rintro en w2 ⟨rfl,hf2⟩
    have hb2:=HW.out.2.1.fr hf2 (by simp)
    have l0:w2.cell? ⟨w.heap.size + 1,0,none⟩ = some (.slice none 0 0):=hb2.cell 0
    have l1:w2.cell? ⟨w.heap.size + 1,1,none⟩ = some (.int .i64 0):=hb2.cell 1
    have l2:w2.cell? ⟨w.heap.size + 1,2,none⟩ = some (.int .i64 0):=hb2.cell 2
    have l3:w2.cell? ⟨w.heap.size + 1,3,none⟩ = some (.int .i64 0):=hb2.cell 3
    have l4:w2.cell? ⟨w.heap.size + 1,4,none⟩ = some (.bool false):=hb2.cell 4
    have z0:=hb2.frozen 0
    have z1:=hb2.frozen 1
    have z2:=hb2.frozen 2
    have z3:=hb2.frozen 3
    have z4:=hb2.frozen 4
    have ll:=hb2.lt
    have HF2:=Lib.hid hf2
    clear hb2 hf2
    go_wp2_with fail
    refine bodyPost_ret (v:=.tuple #[.agg #[.slice none 0 0,.int .i64 0,.int .i64 0,.int .i64 0,.bool false],.bool false]) (by simp [results,Tryz.results112,go_sem, *]) rfl ?_
    exact ⟨none,0,0,0,0,0,false,[],by rw [HD.out]; rfl,by rw [HD.out]; rfl,HL.out _ _ _ _ _ _ HF2.out⟩
end Go.Proofs.YteohomdiklkbfaaGreat
