import Derived.Test.YteohomdiklkbfaaGreatA50
import Derived.Test.YteohomdiklkbfaaGreatA51
namespace Go.Proofs.YteohomdiklkbfaaGreat
open Go.RowKit Go.Proofs.Dm

theorem areaV_ex (b:Bool) (a1 c1 a2 c2:Int) (m:Nat):∃ A0 A1 A2 A3:Int,areaV b a1 c1 a2 c2 m = #[.int .i64 A0,.int .i64 A1,.int .i64 A2,.int .i64 A3]:=by
  cases b <;> exact ⟨_,_,_,_,rfl⟩
def AreasP (w:World) (GV DV:Value) (pr pc qr qc v A0 A1 A2 A3:Int):Prop:=∀ w',Fr [] w w' →
  (Calls Tryz.prog 10 #[GV,.agg #[.int .i64 pr,.int .i64 pc],.agg #[.int .i64 qr,.int .i64 qc],.int .i64 v] w' fun en w'' => en = .returned (.agg #[.int .i64 A0,.int .i64 A1,.int .i64 A2,.int .i64 A3]) ∧ Fr [] w' w'') ∧
  (Calls Tryz.prog 12 #[DV,.agg #[.int .i64 pr,.int .i64 pc],.agg #[.int .i64 qr,.int .i64 qc],.int .i64 v] w' fun en w'' => en = .returned (.agg #[.int .i64 A0,.int .i64 A1,.int .i64 A2,.int .i64 A3]) ∧ Fr [] w' w'')
theorem HG.areas {s:List UInt8} {g:Nat} {p:Option Addr} {tl:Bool} {eo:Int} {rs:List RW} {x:GD} {w:World} (h:HG [] s g p tl eo rs x w) (pr pc qr qc v:Int) :
    ∃ A0 A1 A2 A3:Int,AreasP w (.agg #[.pointer p,.bool tl,.int .i64 eo]) (.agg #[.slice x.B x.m x.d,.bool x.t,.int .i64 x.e]) pr pc qr qc v A0 A1 A2 A3:=by
  have hx:=h.xn
  have hw:=h.wids
  have hxm:x.m = (rs.map Prod.fst).length:=by rw [h.xl.1,hx.1]
  have hl:∀ w1,Fr [] w w1 → ∀ v,Fr [] w1 v → Calls Tryz.prog 27 #[.agg #[.pointer p,.bool tl,.int .i64 eo]] v fun en w'' => en = .returned (.int .i64 ((rs.map Prod.fst).length:Nat)) ∧ Fr [] v w'':=fun w1 h1 v hv => glen_any [] p (rs.map Prod.fst) tl eo v ((h.fr0 h1).fr0 hv).tr0
  by_cases h0:(rs.map Prod.fst).length = 0
  · refine ⟨0,0,0,0,fun w' hf => ⟨area_none w' p tl eo pr pc qr qc v _ (hl w' hf) h0,darea_none w' x.B x.m x.d x.t x.e pr pc qr qc v (hxm.trans h0)⟩⟩
  · obtain ⟨R1,C1,s1⟩:=sett_ex (rs.map Prod.fst) pr pc
    obtain ⟨R2,C2,s2⟩:=sett_ex (rs.map Prod.fst) qr qc
    obtain ⟨A0,A1,A2,A3,hA⟩:=areaV_ex (rowsV v) (R1:Nat) (C1:Nat) (R2:Nat) (C2:Nat) (widthP (rs.map Prod.fst))
    have b1:=s1.set_.le
    have b2:=s2.set_.le
    have b3:=s1.col
    have b4:=s2.col
    have hb:0 ≤ (R1:Int) ∧ (R1:Int) ≤ 1000 ∧ 0 ≤ (R2:Int) ∧ (R2:Int) ≤ 1000 ∧ 0 ≤ (C1:Int) ∧ (C1:Int) ≤ 1000 ∧ 0 ≤ (C2:Int) ∧ (C2:Int) ≤ 1000:=⟨by omega,by omega,by omega,by omega,by omega,by omega,by omega,by omega⟩
    refine ⟨A0,A1,A2,A3,fun w' hf => ⟨?_,?_⟩⟩
    · have:=area_some w' p tl eo pr pc qr qc v R1 C1 R2 C2 (rs.map Prod.fst).length (widthP (rs.map Prod.fst)) (hl w' hf)
        (fun v hv => gwidth_any v p tl eo (rs.map Prod.fst).length (rs.map Prod.fst) ((h.fr0 hf).fr0 hv).tr0 rfl (by omega) (fun r hr => by have:=hw.1 r hr; omega))
        (fun v hv => ((h.fr0 hf).fr0 hv).settle s1) (fun v hv => ((h.fr0 hf).fr0 hv).settle s2) hb (by omega)
      rw [hA] at this
      exact this
    · have:=darea_some w' x.B x.m x.d x.t x.e pr pc qr qc v R1 C1 R2 C2 (widthP (rs.map Prod.fst))
        (fun v hv => by
          have hd:=((h.fr0 hf).fr0 hv).dgr
          have h1:=dwidth_any v x hd.gd (by have:=hd.n4; omega) (fun r hr => by have:=hd.r4 r hr; omega)
          rw [hd.wid] at h1
          exact h1)
        (fun v hv => dsettle_any v x (rs.map Prod.fst) pr pc R1 C1 ((h.fr0 hf).fr0 hv).dgr s1 hw.2) (fun v hv => dsettle_any v x (rs.map Prod.fst) qr qc R2 C2 ((h.fr0 hf).fr0 hv).dgr s2 hw.2) hb (by omega)
      rw [hA] at this
      exact this
set_option maxRecDepth 100000 in
set_option maxHeartbeats 6400000 in
theorem motionAreas_any (w:World) (s0:List UInt8) (m pr pc qr qc v:Int) :
    Calls Tryz.prog 3 #[.string ⟨s0.toArray⟩,.int .u64 m,.agg #[.int .i64 pr,.int .i64 pc,.int .i64 qr,.int .i64 qc,.int .i64 v]] w fun e w' => e = .returned (.bool true) ∧ Fr [] w w':=by
  go_enter Tryz.func3,Tryz.ntmps3
  obtain ⟨W1,hW1⟩:∃ Wx,Wx = (w.alloc (.cells #[.int .i64 pr,.int .i64 pc,.int .i64 qr,.int .i64 qc,.int .i64 v] 26)):=⟨_,rfl⟩
  obtain ⟨B1,hB1⟩:∃ Bx,Bx = w.heap.size:=⟨_,rfl⟩
  have HNB1:Hid (w.heap.size ≤ B1):=by
    show _ ≤ _
    omega
  have HS1:Hid (Fr [] w W1 ∧ Blk W1 B1 26 #[.int .i64 pr,.int .i64 pc,.int .i64 qr,.int .i64 qc,.int .i64 v]):=by
    have mB1:=Blk.new w 26 #[.int .i64 pr,.int .i64 pc,.int .i64 qr,.int .i64 qc,.int .i64 v]
    rw [← hB1] at mB1
    rw [hW1]
    exact ⟨((Fr.refl [] w).alloc _),mB1⟩
  go_wp2_with fail
  try rw [← hW1]
  try rw [← hB1]
  clear hW1 hB1
  refine (hide_any W1 s0 m).mono ?_
  rintro en w1 ⟨g,p,tl,eo,s,rs,⟨zB,zm,zd,zrs,zt,ze⟩,ok,rfl,hg,hf1⟩
  simp only
  have HG2:=Lib.hid hg
  clear hg
  have HS2:Hid (Fr [] w w1 ∧ Blk w1 B1 26 #[.int .i64 pr,.int .i64 pc,.int .i64 qr,.int .i64 qc,.int .i64 v]):=⟨HS1.out.1.trans hf1,HS1.out.2.fr hf1 (by simp)⟩
  clear hf1
  have HFH:=Lib.hid HS2.out.1
  have HS00:Hid (Fr [] w1 w1 ∧ Blk w1 B1 26 #[.int .i64 pr,.int .i64 pc,.int .i64 qr,.int .i64 qc,.int .i64 v]):=⟨Fr.refl _ _,HS2.out.2⟩
  cases ok with
  | false =>
    obtain ⟨W3,hW3⟩:∃ Wx,Wx = ((w1.alloc (.cells #[.pointer p,.bool tl,.int .i64 eo] 31)).alloc (.cells #[.slice zB zm zd,.bool zt,.int .i64 ze] 35)):=⟨_,rfl⟩
    obtain ⟨B2,hB2⟩:∃ Bx,Bx = w1.heap.size:=⟨_,rfl⟩
    obtain ⟨B3,hB3⟩:∃ Bx,Bx = w1.heap.size + 1:=⟨_,rfl⟩
    have HNB2:Hid (w1.heap.size ≤ B2 ∧ B2 ≠ B1):=by
      have h0:=HS00.out.1.size
      have:=HS00.out.2.lt
      exact ⟨by omega,by omega⟩
    have HNB3:Hid (w1.heap.size ≤ B3 ∧ B3 ≠ B1 ∧ B3 ≠ B2):=by
      have h0:=HS00.out.1.size
      have:=HS00.out.2.lt
      exact ⟨by omega,by omega,by omega⟩
    have HS3:Hid (Fr [] w1 W3 ∧ Blk W3 B1 26 #[.int .i64 pr,.int .i64 pc,.int .i64 qr,.int .i64 qc,.int .i64 v] ∧ Blk W3 B2 31 #[.pointer p,.bool tl,.int .i64 eo] ∧ Blk W3 B3 35 #[.slice zB zm zd,.bool zt,.int .i64 ze]):=by
      have mB1:=HS00.out.2
      replace mB1:=mB1.alloc (.cells #[.pointer p,.bool tl,.int .i64 eo] 31)
      replace mB1:=mB1.alloc (.cells #[.slice zB zm zd,.bool zt,.int .i64 ze] 35)
      have mB2:=Blk.new w1 31 #[.pointer p,.bool tl,.int .i64 eo]
      rw [← hB2] at mB2
      replace mB2:=mB2.alloc (.cells #[.slice zB zm zd,.bool zt,.int .i64 ze] 35)
      have mB3:=Blk.new (w1.alloc (.cells #[.pointer p,.bool tl,.int .i64 eo] 31)) 35 #[.slice zB zm zd,.bool zt,.int .i64 ze]
      simp only [World.size_alloc,World.size_setCell] at mB3
      rw [← hB3] at mB3
      rw [hW3]
      exact ⟨((HS00.out.1.alloc _).alloc _),mB1,mB2,mB3⟩
    go_wp2_with fail
    try rw [← hW3]
    try rw [← hB3]
    try rw [← hB2]
    clear hW3 hB2 hB3
    refine (awake26_yes W3).mono ?_
    rintro en w2 ⟨rfl,hf2⟩
    have HS4:Hid (Fr [] w1 w2 ∧ Blk w2 B1 26 #[.int .i64 pr,.int .i64 pc,.int .i64 qr,.int .i64 qc,.int .i64 v] ∧ Blk w2 B2 31 #[.pointer p,.bool tl,.int .i64 eo] ∧ Blk w2 B3 35 #[.slice zB zm zd,.bool zt,.int .i64 ze]):=⟨HS3.out.1.trans hf2,HS3.out.2.1.fr hf2 (by simp),HS3.out.2.2.1.fr hf2 (by simp),HS3.out.2.2.2.fr hf2 (by simp)⟩
    clear hf2
    go_wp2_with fail
    go_ret
    exact ⟨rfl,HFH.out.trans HS4.out.1⟩
  | true =>
    obtain ⟨W3,hW3⟩:∃ Wx,Wx = ((w1.alloc (.cells #[.pointer p,.bool tl,.int .i64 eo] 31)).alloc (.cells #[.slice zB zm zd,.bool zt,.int .i64 ze] 35)):=⟨_,rfl⟩
    obtain ⟨B2,hB2⟩:∃ Bx,Bx = w1.heap.size:=⟨_,rfl⟩
    obtain ⟨B3,hB3⟩:∃ Bx,Bx = w1.heap.size + 1:=⟨_,rfl⟩
    have HNB2:Hid (w1.heap.size ≤ B2 ∧ B2 ≠ B1):=by
      have h0:=HS00.out.1.size
      have:=HS00.out.2.lt
      exact ⟨by omega,by omega⟩
    have HNB3:Hid (w1.heap.size ≤ B3 ∧ B3 ≠ B1 ∧ B3 ≠ B2):=by
      have h0:=HS00.out.1.size
      have:=HS00.out.2.lt
      exact ⟨by omega,by omega,by omega⟩
    have HS3:Hid (Fr [] w1 W3 ∧ Blk W3 B1 26 #[.int .i64 pr,.int .i64 pc,.int .i64 qr,.int .i64 qc,.int .i64 v] ∧ Blk W3 B2 31 #[.pointer p,.bool tl,.int .i64 eo] ∧ Blk W3 B3 35 #[.slice zB zm zd,.bool zt,.int .i64 ze]):=by
      have mB1:=HS00.out.2
      replace mB1:=mB1.alloc (.cells #[.pointer p,.bool tl,.int .i64 eo] 31)
      replace mB1:=mB1.alloc (.cells #[.slice zB zm zd,.bool zt,.int .i64 ze] 35)
      have mB2:=Blk.new w1 31 #[.pointer p,.bool tl,.int .i64 eo]
      rw [← hB2] at mB2
      replace mB2:=mB2.alloc (.cells #[.slice zB zm zd,.bool zt,.int .i64 ze] 35)
      have mB3:=Blk.new (w1.alloc (.cells #[.pointer p,.bool tl,.int .i64 eo] 31)) 35 #[.slice zB zm zd,.bool zt,.int .i64 ze]
      simp only [World.size_alloc,World.size_setCell] at mB3
      rw [← hB3] at mB3
      rw [hW3]
      exact ⟨((HS00.out.1.alloc _).alloc _),mB1,mB2,mB3⟩
    have fc1:((w1.alloc (.cells #[.pointer p,.bool tl,.int .i64 eo] 31)).alloc (.cells #[.slice zB zm zd,.bool zt,.int .i64 ze] 35)).cell? ⟨B1,0,none⟩ = some (.int .i64 pr):=((HS00.out.2.alloc _).alloc _).cell 0
    have fc2:((w1.alloc (.cells #[.pointer p,.bool tl,.int .i64 eo] 31)).alloc (.cells #[.slice zB zm zd,.bool zt,.int .i64 ze] 35)).cell? ⟨B1,1,none⟩ = some (.int .i64 pc):=((HS00.out.2.alloc _).alloc _).cell 1
    go_wp2_with fail
    try rw [← hW3]
    try rw [← hB3]
    try rw [← hB2]
    clear fc1 fc2 hW3 hB2 hB3
    refine (small26_any W3 pr pc).mono ?_
    rintro en w2 ⟨rfl,hf2⟩
    obtain ⟨sp,hsp⟩:∃ b,b = decide (SmallP pr pc):=⟨_,rfl⟩
    rw [← hsp]
    clear hsp
    have HS4:Hid (Fr [] w1 w2 ∧ Blk w2 B1 26 #[.int .i64 pr,.int .i64 pc,.int .i64 qr,.int .i64 qc,.int .i64 v] ∧ Blk w2 B2 31 #[.pointer p,.bool tl,.int .i64 eo] ∧ Blk w2 B3 35 #[.slice zB zm zd,.bool zt,.int .i64 ze]):=⟨HS3.out.1.trans hf2,HS3.out.2.1.fr hf2 (by simp),HS3.out.2.2.1.fr hf2 (by simp),HS3.out.2.2.2.fr hf2 (by simp)⟩
    clear hf2
    cases sp with
    | false =>
      go_wp2_with fail
      refine (awake26_yes w2).mono ?_
      rintro en w3 ⟨rfl,hf3⟩
      have HS6:Hid (Fr [] w1 w3 ∧ Blk w3 B1 26 #[.int .i64 pr,.int .i64 pc,.int .i64 qr,.int .i64 qc,.int .i64 v] ∧ Blk w3 B2 31 #[.pointer p,.bool tl,.int .i64 eo] ∧ Blk w3 B3 35 #[.slice zB zm zd,.bool zt,.int .i64 ze]):=⟨HS4.out.1.trans hf3,HS4.out.2.1.fr hf3 (by simp),HS4.out.2.2.1.fr hf3 (by simp),HS4.out.2.2.2.fr hf3 (by simp)⟩
      clear hf3
      go_wp2_with fail
      go_ret
      exact ⟨rfl,HFH.out.trans HS6.out.1⟩
    | true =>
      have fc1:w2.cell? ⟨B1,2,none⟩ = some (.int .i64 qr):=HS4.out.2.1.cell 2
      have fc2:w2.cell? ⟨B1,3,none⟩ = some (.int .i64 qc):=HS4.out.2.1.cell 3
      go_wp2_with fail
      clear fc1 fc2
      refine (small26_any w2 qr qc).mono ?_
      rintro en w3 ⟨rfl,hf3⟩
      obtain ⟨sq,hsq⟩:∃ b,b = decide (SmallP qr qc):=⟨_,rfl⟩
      rw [← hsq]
      clear hsq
      have HS6:Hid (Fr [] w1 w3 ∧ Blk w3 B1 26 #[.int .i64 pr,.int .i64 pc,.int .i64 qr,.int .i64 qc,.int .i64 v] ∧ Blk w3 B2 31 #[.pointer p,.bool tl,.int .i64 eo] ∧ Blk w3 B3 35 #[.slice zB zm zd,.bool zt,.int .i64 ze]):=⟨HS4.out.1.trans hf3,HS4.out.2.1.fr hf3 (by simp),HS4.out.2.2.1.fr hf3 (by simp),HS4.out.2.2.2.fr hf3 (by simp)⟩
      clear hf3
      cases sq with
      | false =>
        go_wp2_with fail
        refine (awake26_yes w3).mono ?_
        rintro en w4 ⟨rfl,hf4⟩
        have HS8:Hid (Fr [] w1 w4 ∧ Blk w4 B1 26 #[.int .i64 pr,.int .i64 pc,.int .i64 qr,.int .i64 qc,.int .i64 v] ∧ Blk w4 B2 31 #[.pointer p,.bool tl,.int .i64 eo] ∧ Blk w4 B3 35 #[.slice zB zm zd,.bool zt,.int .i64 ze]):=⟨HS6.out.1.trans hf4,HS6.out.2.1.fr hf4 (by simp),HS6.out.2.2.1.fr hf4 (by simp),HS6.out.2.2.2.fr hf4 (by simp)⟩
        clear hf4
        go_wp2_with fail
        go_ret
        exact ⟨rfl,HFH.out.trans HS8.out.1⟩
      | true =>
        obtain ⟨A0,A1,A2,A3,hA⟩:=HG2.out.areas pr pc qr qc v
        have HA:=Lib.hid hA
        obtain ⟨rb,hrb⟩:∃ rb,rb = rowsV v:=⟨_,rfl⟩
        obtain ⟨kv,hkv⟩:∃ kv:Int,kv = cond rb 1 0:=⟨_,rfl⟩
        have hk1:(kv == 1) = rb:=by rw [hkv]; cases rb <;> rfl
        have HKV:Hid (∀ w',(Calls Tryz.prog 13 #[.int .i64 v] w' fun en w'' => en = .returned (.int .i64 kv) ∧ Fr [] w' w'') ∧ (Calls Tryz.prog 14 #[.int .i64 v] w' fun en w'' => en = .returned (.bool rb) ∧ Fr [] w' w'')):=by
          show ∀ _,_
          intro w'
          rw [hkv,hrb]
          exact ⟨kind_any w' v,byrows_any w' v⟩
        clear hA hrb hkv
        go_wp2_with fail
        have HC8:Hid (∀ w',Fr [] w3 w' → (w'.cell? ⟨B2,0,none⟩ = some (.pointer p) ∧ w'.cell? ⟨B2,1,none⟩ = some (.bool tl) ∧ w'.cell? ⟨B2,2,none⟩ = some (.int .i64 eo)) ∧ (w'.cell? ⟨B1,0,none⟩ = some (.int .i64 pr) ∧ w'.cell? ⟨B1,1,none⟩ = some (.int .i64 pc) ∧ w'.cell? ⟨B1,2,none⟩ = some (.int .i64 qr) ∧ w'.cell? ⟨B1,3,none⟩ = some (.int .i64 qc) ∧ w'.cell? ⟨B1,4,none⟩ = some (.int .i64 v))):=by
          show ∀ _,_
          intro w' hf
          have h0:=HS6.out.2.2.1.fr hf (by simp)
          have h1:=HS6.out.2.1.fr hf (by simp)
          exact ⟨⟨h0.cell 0,h0.cell 1,h0.cell 2⟩,⟨h1.cell 0,h1.cell 1,h1.cell 2,h1.cell 3,h1.cell 4⟩⟩
        obtain ⟨F,hF⟩:∃ F:World → Nat → Value → Prop,F = (fun (wW:World) (i:Nat) (vV:Value) => match i with | 0 => vV = .agg #[.pointer p,.bool tl,.int .i64 eo] | 1 => vV = .pointer (some ⟨B1,0,none⟩) | 2 => vV = .agg #[.int .i64 pr,.int .i64 pc] | 3 => vV = .agg #[.int .i64 pr,.int .i64 pc] | 4 => vV = .pointer (some ⟨B1,2,none⟩) | 5 => vV = .agg #[.int .i64 qr,.int .i64 qc] | 6 => vV = .agg #[.int .i64 qr,.int .i64 qc] | 7 => vV = .pointer (some ⟨B1,4,none⟩) | 8 => vV = .int .i64 v | 9 => vV = .agg #[.int .i64 A0,.int .i64 A1,.int .i64 A2,.int .i64 A3] | 10 => ∃ B:Nat,w3.heap.size ≤ B ∧ vV = .pointer (some ⟨B,0,none⟩) ∧ Blk wW B 41 #[.int .i64 0,.int .i64 0,.int .i64 0,.int .i64 0] | _ => True):=⟨_,rfl⟩
        obtain ⟨G,hG⟩:∃ G:(Nat → Value) → World → Prop,G = (fun u w => ∃ (B:Nat) (wq:World),u 10 = .pointer (some ⟨B,0,none⟩) ∧ w3.heap.size ≤ B ∧ Fr [] w3 wq ∧ Blk wq B 41 #[.int .i64 0,.int .i64 0,.int .i64 0,.int .i64 0] ∧ w = ((((wq.setCell ⟨B,0,none⟩ (.int .i64 A0)).setCell ⟨B,1,none⟩ (.int .i64 A1)).setCell ⟨B,2,none⟩ (.int .i64 A2)).setCell ⟨B,3,none⟩ (.int .i64 A3))):=⟨_,rfl⟩
        have HM:Hid (∀ w1 w2:World,Fr [] w1 w2 → ∀ j x,F w1 j x → F w2 j x):=by
          show ∀ _,_
          intro w1 w2 hf j x h
          subst hF
          match j,h with
          | 0,h => exact h
          | 1,h => exact h
          | 2,h => exact h
          | 3,h => exact h
          | 4,h => exact h
          | 5,h => exact h
          | 6,h => exact h
          | 7,h => exact h
          | 8,h => exact h
          | 9,h => exact h
          | 10,⟨B,h1,h2,h3⟩ => exact ⟨B,h1,h2,h3.fr hf (by simp)⟩
          | n + 11,h => trivial
        have HFG:=Lib.hid (And.intro hF hG)
        clear hF hG
        refine wp_region_invc (by kernel_rfl) (fun f a w' => ∃ u:Nat → Value,a = { tmps:=#[.string ⟨s0.toArray⟩,.int .u64 m,.agg #[.int .i64 pr,.int .i64 pc,.int .i64 qr,.int .i64 qc,.int .i64 v],undef,undef,.pointer (some ⟨B1,0,none⟩),.bool false,.pointer (some ⟨B2,0,none⟩),.pointer (some ⟨g,0,none⟩),.pointer (some ⟨B3,0,none⟩),.bool true,u 10,.tuple #[.agg #[.pointer p,.bool tl,.int .i64 eo],.pointer (some ⟨g,0,none⟩),.agg #[.slice zB zm zd,.bool zt,.int .i64 ze],.bool true],.string ⟨s0.toArray⟩,.int .u64 m,.tuple #[.agg #[.pointer p,.bool tl,.int .i64 eo],.pointer (some ⟨g,0,none⟩),.agg #[.slice zB zm zd,.bool zt,.int .i64 ze],.bool true],.agg #[.pointer p,.bool tl,.int .i64 eo],.pointer (some ⟨g,0,none⟩),.agg #[.slice zB zm zd,.bool zt,.int .i64 ze],.bool true,.bool true,.bool false,.bool false,.pointer (some ⟨B1,0,none⟩),.agg #[.int .i64 pr,.int .i64 pc],.bool true,.bool false,.bool false,.bool false,.pointer (some ⟨B1,2,none⟩),.agg #[.int .i64 qr,.int .i64 qc],.bool true,.bool false,.bool false,undef,undef,undef,undef,undef,u 0,u 1,u 2,u 3,u 4,u 5,u 6,u 7,u 8,u 9,undef,undef,undef,undef,undef,undef,undef,undef,undef,undef,undef,undef,undef,undef,undef,undef,undef,undef,undef,undef,undef,undef,undef,undef,undef,undef,undef,undef,undef,undef,undef],defers:=[] } ∧ Hid (RInv F G w3 11 f u w')) (by kernel_rfl) ?_ ?_ ?_
        · exact ⟨fun _ => undef,rfl,RInv.start _⟩
        · simp only [EachOp]
          refine ⟨?_,?_,?_,?_,?_,?_,?_,?_,?_,?_,?_,?_,trivial⟩
          all_goals rintro f a w' hfi hdep hcl ⟨u,rfl,HI⟩ K hK
          · have hL:f 11 = false:=by
              cases g11:f 11 with
              | false => rfl
              | true =>
                have g0:=hcl 11 _ rfl g11 ⟨0,.phase⟩ (by simp) rfl
                exact Bool.noConfusion (g0.symm.trans hfi)
            obtain ⟨⟨q1_0,q1_1,q1_2⟩,⟨q2_0,q2_1,q2_2,q2_3,q2_4⟩⟩:=HC8.out w' (HI.out.a hL).1
            go_simp
            exact hK _ _ ⟨updU u 0 (.agg #[.pointer p,.bool tl,.int .i64 eo]),rfl,HI.out.val hL (by decide) (by rw [HFG.out.1]; exact rfl)⟩
          · have hL:f 11 = false:=by
              cases g11:f 11 with
              | false => rfl
              | true =>
                have g1:=hcl 11 _ rfl g11 ⟨1,.phase⟩ (by simp) rfl
                exact Bool.noConfusion (g1.symm.trans hfi)
            go_simp
            exact hK _ _ ⟨updU u 1 (.pointer (some ⟨B1,0,none⟩)),rfl,HI.out.val hL (by decide) (by rw [HFG.out.1]; exact rfl)⟩
          · have hL:f 11 = false:=by
              cases g11:f 11 with
              | false => rfl
              | true =>
                have g2:=hcl 11 _ rfl g11 ⟨2,.phase⟩ (by simp) rfl
                exact Bool.noConfusion (g2.symm.trans hfi)
            have e1:u 1 = .pointer (some ⟨B1,0,none⟩):=HI.out.get HFG.out.1 hL (i:=1) (hdep ⟨1,.data⟩ (by simp) rfl)
            obtain ⟨⟨q1_0,q1_1,q1_2⟩,⟨q2_0,q2_1,q2_2,q2_3,q2_4⟩⟩:=HC8.out w' (HI.out.a hL).1
            go_simp
            exact hK _ _ ⟨updU u 2 (.agg #[.int .i64 pr,.int .i64 pc]),(by simp [updU,e1] <;> (repeat' apply And.intro) <;> rfl),HI.out.val hL (by decide) (by rw [HFG.out.1]; exact rfl)⟩
          · have hL:f 11 = false:=by
              cases g11:f 11 with
              | false => rfl
              | true =>
                have g3:=hcl 11 _ rfl g11 ⟨3,.phase⟩ (by simp) rfl
                exact Bool.noConfusion (g3.symm.trans hfi)
            have e2:u 2 = .agg #[.int .i64 pr,.int .i64 pc]:=HI.out.get HFG.out.1 hL (i:=2) (hdep ⟨2,.data⟩ (by simp) rfl)
            refine step_call _ (by rfl) 11 #[.agg #[.int .i64 pr,.int .i64 pc]] (by go_simp) _ (mine26_any w' pr pc) (by rintro e w' ⟨he,_⟩; exact ⟨_,he⟩) ?_
            rintro v4 w4 ⟨hv4,hf4⟩
            injection hv4 with hv4
            subst hv4
            try go_simp
            exact hK _ _ ⟨updU u 3 (.agg #[.int .i64 pr,.int .i64 pc]),(by simp [updU,e2] <;> (repeat' apply And.intro) <;> rfl),HI.out.call hL (by decide) (HM.out _ _ hf4) hf4 (by rw [HFG.out.1]; exact rfl)⟩
          · have hL:f 11 = false:=by
              cases g11:f 11 with
              | false => rfl
              | true =>
                have g4:=hcl 11 _ rfl g11 ⟨4,.phase⟩ (by simp) rfl
                exact Bool.noConfusion (g4.symm.trans hfi)
            go_simp
            exact hK _ _ ⟨updU u 4 (.pointer (some ⟨B1,2,none⟩)),rfl,HI.out.val hL (by decide) (by rw [HFG.out.1]; exact rfl)⟩
          · have hL:f 11 = false:=by
              cases g11:f 11 with
              | false => rfl
              | true =>
                have g5:=hcl 11 _ rfl g11 ⟨5,.phase⟩ (by simp) rfl
                exact Bool.noConfusion (g5.symm.trans hfi)
            have e4:u 4 = .pointer (some ⟨B1,2,none⟩):=HI.out.get HFG.out.1 hL (i:=4) (hdep ⟨4,.data⟩ (by simp) rfl)
            obtain ⟨⟨q1_0,q1_1,q1_2⟩,⟨q2_0,q2_1,q2_2,q2_3,q2_4⟩⟩:=HC8.out w' (HI.out.a hL).1
            go_simp
            exact hK _ _ ⟨updU u 5 (.agg #[.int .i64 qr,.int .i64 qc]),(by simp [updU,e4] <;> (repeat' apply And.intro) <;> rfl),HI.out.val hL (by decide) (by rw [HFG.out.1]; exact rfl)⟩
          · have hL:f 11 = false:=by
              cases g11:f 11 with
              | false => rfl
              | true =>
                have g6:=hcl 11 _ rfl g11 ⟨6,.phase⟩ (by simp) rfl
                exact Bool.noConfusion (g6.symm.trans hfi)
            have e5:u 5 = .agg #[.int .i64 qr,.int .i64 qc]:=HI.out.get HFG.out.1 hL (i:=5) (hdep ⟨5,.data⟩ (by simp) rfl)
            refine step_call _ (by rfl) 11 #[.agg #[.int .i64 qr,.int .i64 qc]] (by go_simp) _ (mine26_any w' qr qc) (by rintro e w' ⟨he,_⟩; exact ⟨_,he⟩) ?_
            rintro v4 w4 ⟨hv4,hf4⟩
            injection hv4 with hv4
            subst hv4
            try go_simp
            exact hK _ _ ⟨updU u 6 (.agg #[.int .i64 qr,.int .i64 qc]),(by simp [updU,e5] <;> (repeat' apply And.intro) <;> rfl),HI.out.call hL (by decide) (HM.out _ _ hf4) hf4 (by rw [HFG.out.1]; exact rfl)⟩
          · have hL:f 11 = false:=by
              cases g11:f 11 with
              | false => rfl
              | true =>
                have g7:=hcl 11 _ rfl g11 ⟨7,.phase⟩ (by simp) rfl
                exact Bool.noConfusion (g7.symm.trans hfi)
            go_simp
            exact hK _ _ ⟨updU u 7 (.pointer (some ⟨B1,4,none⟩)),rfl,HI.out.val hL (by decide) (by rw [HFG.out.1]; exact rfl)⟩
          · have hL:f 11 = false:=by
              cases g11:f 11 with
              | false => rfl
              | true =>
                have g8:=hcl 11 _ rfl g11 ⟨8,.phase⟩ (by simp) rfl
                exact Bool.noConfusion (g8.symm.trans hfi)
            have e7:u 7 = .pointer (some ⟨B1,4,none⟩):=HI.out.get HFG.out.1 hL (i:=7) (hdep ⟨7,.data⟩ (by simp) rfl)
            obtain ⟨⟨q1_0,q1_1,q1_2⟩,⟨q2_0,q2_1,q2_2,q2_3,q2_4⟩⟩:=HC8.out w' (HI.out.a hL).1
            go_simp
            exact hK _ _ ⟨updU u 8 (.int .i64 v),(by simp [updU,e7] <;> (repeat' apply And.intro) <;> rfl),HI.out.val hL (by decide) (by rw [HFG.out.1]; exact rfl)⟩
          · have hL:f 11 = false:=by
              cases g11:f 11 with
              | false => rfl
              | true =>
                have g9:=hcl 11 _ rfl g11 ⟨9,.data⟩ (by simp) rfl
                exact Bool.noConfusion (g9.symm.trans hfi)
            have e0:u 0 = .agg #[.pointer p,.bool tl,.int .i64 eo]:=HI.out.get HFG.out.1 hL (i:=0) (hdep ⟨0,.data⟩ (by simp) rfl)
            have e3:u 3 = .agg #[.int .i64 pr,.int .i64 pc]:=HI.out.get HFG.out.1 hL (i:=3) (hdep ⟨3,.data⟩ (by simp) rfl)
            have e6:u 6 = .agg #[.int .i64 qr,.int .i64 qc]:=HI.out.get HFG.out.1 hL (i:=6) (hdep ⟨6,.data⟩ (by simp) rfl)
            have e8:u 8 = .int .i64 v:=HI.out.get HFG.out.1 hL (i:=8) (hdep ⟨8,.data⟩ (by simp) rfl)
            refine step_call _ (by rfl) 10 #[.agg #[.pointer p,.bool tl,.int .i64 eo],.agg #[.int .i64 pr,.int .i64 pc],.agg #[.int .i64 qr,.int .i64 qc],.int .i64 v] (by go_simp) _ ((HA.out _ (HS6.out.1.trans (HI.out.a hL).1)).1) (by rintro e w' ⟨he,_⟩; exact ⟨_,he⟩) ?_
            rintro v4 w4 ⟨hv4,hf4⟩
            injection hv4 with hv4
            subst hv4
            try go_simp
            exact hK _ _ ⟨updU u 9 (.agg #[.int .i64 A0,.int .i64 A1,.int .i64 A2,.int .i64 A3]),(by simp [updU,e0,e3,e6,e8] <;> (repeat' apply And.intro) <;> rfl),HI.out.call hL (by decide) (HM.out _ _ hf4) hf4 (by rw [HFG.out.1]; exact rfl)⟩
          · have hL:f 11 = false:=by
              cases g11:f 11 with
              | false => rfl
              | true =>
                have g10:=hcl 11 _ rfl g11 ⟨10,.data⟩ (by simp) rfl
                exact Bool.noConfusion (g10.symm.trans hfi)
            have hz:=(HI.out.a hL).1.size
            go_simp
            exact hK _ _ ⟨updU u 10 (.pointer (some ⟨w'.heap.size,0,none⟩)),rfl,HI.out.call hL (by decide) (HM.out _ _ ((Fr.refl [] w').alloc _)) ((Fr.refl [] w').alloc _) (by rw [HFG.out.1]; exact ⟨w'.heap.size,hz,rfl,Blk.new w' _ _⟩)⟩
          · have hL:f 11 = false:=hfi
            have e10:=HI.out.get HFG.out.1 hL (i:=10) (hdep ⟨10,.data⟩ (by simp) rfl)
            have e9:u 9 = .agg #[.int .i64 A0,.int .i64 A1,.int .i64 A2,.int .i64 A3]:=HI.out.get HFG.out.1 hL (i:=9) (hdep ⟨9,.data⟩ (by simp) rfl)
            obtain ⟨B,hB1,hB2,hB3⟩:=HI.out.get HFG.out.1 hL (i:=10) (hdep ⟨10,.data⟩ (by simp) rfl)
            have b0:=hB3.cell 0
            have b0f:=hB3.frozen 0
            have b1:=hB3.cell 1
            have b1f:=hB3.frozen 1
            have b2:=hB3.cell 2
            have b2f:=hB3.frozen 2
            have b3:=hB3.cell 3
            have b3f:=hB3.frozen 3
            have bl:=hB3.lt
            simp only [List.getElem?_toArray,List.getElem?_cons_zero,List.getElem?_cons_succ] at b0 b1 b2 b3
            go_simp
            refine hK _ _ ⟨u,(by first | rfl | (simp [hB2,e9] <;> rfl)),RInv.last ?_⟩
            rw [HFG.out.2]
            exact ⟨B,w',hB2,hB1,(HI.out.a hL).1,hB3,rfl⟩
        rintro f a wr8 hall ⟨u8,rfl,HI⟩
        have hG:=HI.out.b (hall 11 (by decide))
        rw [HFG.out.2] at hG
        obtain ⟨B4,wr8a,hu,hge,hfwr8,hbn,hw1⟩:=hG
        subst hw1
        try dsimp only
        simp only [hu]
        clear hu
        have HS9:Hid (Fr [] w1 wr8a ∧ Blk wr8a B1 26 #[.int .i64 pr,.int .i64 pc,.int .i64 qr,.int .i64 qc,.int .i64 v] ∧ Blk wr8a B2 31 #[.pointer p,.bool tl,.int .i64 eo] ∧ Blk wr8a B3 35 #[.slice zB zm zd,.bool zt,.int .i64 ze]):=⟨HS6.out.1.trans hfwr8,HS6.out.2.1.fr hfwr8 (by simp),HS6.out.2.2.1.fr hfwr8 (by simp),HS6.out.2.2.2.fr hfwr8 (by simp)⟩
        clear hfwr8 HI hall HFG HM HC8
        have HNB4:Hid (w1.heap.size ≤ B4 ∧ B4 ≠ B1 ∧ B4 ≠ B2 ∧ B4 ≠ B3):=by
          have h0:=hge
          have h1:=HS6.out.1.size
          have:=HS6.out.2.1.lt
          have:=HS6.out.2.2.1.lt
          have:=HS6.out.2.2.2.lt
          exact ⟨by omega,by omega,by omega,by omega⟩
        have HS10:Hid (Fr [] w1 wr8a ∧ Blk wr8a B1 26 #[.int .i64 pr,.int .i64 pc,.int .i64 qr,.int .i64 qc,.int .i64 v] ∧ Blk wr8a B2 31 #[.pointer p,.bool tl,.int .i64 eo] ∧ Blk wr8a B3 35 #[.slice zB zm zd,.bool zt,.int .i64 ze] ∧ Blk wr8a B4 41 #[.int .i64 0,.int .i64 0,.int .i64 0,.int .i64 0]):=⟨HS9.out.1,HS9.out.2.1,HS9.out.2.2.1,HS9.out.2.2.2,hbn⟩
        clear hbn hge
        obtain ⟨W11,hW11⟩:∃ Wx,Wx = ((((wr8a.setCell ⟨B4,0,none⟩ (.int .i64 A0)).setCell ⟨B4,1,none⟩ (.int .i64 A1)).setCell ⟨B4,2,none⟩ (.int .i64 A2)).setCell ⟨B4,3,none⟩ (.int .i64 A3)):=⟨_,rfl⟩
        have HS11:Hid (Fr [] w1 W11 ∧ Blk W11 B1 26 #[.int .i64 pr,.int .i64 pc,.int .i64 qr,.int .i64 qc,.int .i64 v] ∧ Blk W11 B2 31 #[.pointer p,.bool tl,.int .i64 eo] ∧ Blk W11 B3 35 #[.slice zB zm zd,.bool zt,.int .i64 ze] ∧ Blk W11 B4 41 #[.int .i64 A0,.int .i64 A1,.int .i64 A2,.int .i64 A3]):=by
          have mB1:=HS10.out.2.1
          replace mB1:=mB1.far (p:=⟨B4,0,none⟩) (fun e => by have e:B1 = B4:=e; have:=HNB4.out; omega) (.int .i64 A0)
          replace mB1:=mB1.far (p:=⟨B4,1,none⟩) (fun e => by have e:B1 = B4:=e; have:=HNB4.out; omega) (.int .i64 A1)
          replace mB1:=mB1.far (p:=⟨B4,2,none⟩) (fun e => by have e:B1 = B4:=e; have:=HNB4.out; omega) (.int .i64 A2)
          replace mB1:=mB1.far (p:=⟨B4,3,none⟩) (fun e => by have e:B1 = B4:=e; have:=HNB4.out; omega) (.int .i64 A3)
          have mB2:=HS10.out.2.2.1
          replace mB2:=mB2.far (p:=⟨B4,0,none⟩) (fun e => by have e:B2 = B4:=e; have:=HNB4.out; omega) (.int .i64 A0)
          replace mB2:=mB2.far (p:=⟨B4,1,none⟩) (fun e => by have e:B2 = B4:=e; have:=HNB4.out; omega) (.int .i64 A1)
          replace mB2:=mB2.far (p:=⟨B4,2,none⟩) (fun e => by have e:B2 = B4:=e; have:=HNB4.out; omega) (.int .i64 A2)
          replace mB2:=mB2.far (p:=⟨B4,3,none⟩) (fun e => by have e:B2 = B4:=e; have:=HNB4.out; omega) (.int .i64 A3)
          have mB3:=HS10.out.2.2.2.1
          replace mB3:=mB3.far (p:=⟨B4,0,none⟩) (fun e => by have e:B3 = B4:=e; have:=HNB4.out; omega) (.int .i64 A0)
          replace mB3:=mB3.far (p:=⟨B4,1,none⟩) (fun e => by have e:B3 = B4:=e; have:=HNB4.out; omega) (.int .i64 A1)
          replace mB3:=mB3.far (p:=⟨B4,2,none⟩) (fun e => by have e:B3 = B4:=e; have:=HNB4.out; omega) (.int .i64 A2)
          replace mB3:=mB3.far (p:=⟨B4,3,none⟩) (fun e => by have e:B3 = B4:=e; have:=HNB4.out; omega) (.int .i64 A3)
          have mB4:=HS10.out.2.2.2.2
          replace mB4:Blk (wr8a.setCell ⟨B4,0,none⟩ (.int .i64 A0)) B4 41 #[.int .i64 A0,.int .i64 0,.int .i64 0,.int .i64 0]:=by simpa using mB4.set_ 0 (.int .i64 A0)
          replace mB4:Blk ((wr8a.setCell ⟨B4,0,none⟩ (.int .i64 A0)).setCell ⟨B4,1,none⟩ (.int .i64 A1)) B4 41 #[.int .i64 A0,.int .i64 A1,.int .i64 0,.int .i64 0]:=by simpa using mB4.set_ 1 (.int .i64 A1)
          replace mB4:Blk (((wr8a.setCell ⟨B4,0,none⟩ (.int .i64 A0)).setCell ⟨B4,1,none⟩ (.int .i64 A1)).setCell ⟨B4,2,none⟩ (.int .i64 A2)) B4 41 #[.int .i64 A0,.int .i64 A1,.int .i64 A2,.int .i64 0]:=by simpa using mB4.set_ 2 (.int .i64 A2)
          replace mB4:Blk ((((wr8a.setCell ⟨B4,0,none⟩ (.int .i64 A0)).setCell ⟨B4,1,none⟩ (.int .i64 A1)).setCell ⟨B4,2,none⟩ (.int .i64 A2)).setCell ⟨B4,3,none⟩ (.int .i64 A3)) B4 41 #[.int .i64 A0,.int .i64 A1,.int .i64 A2,.int .i64 A3]:=by simpa using mB4.set_ 3 (.int .i64 A3)
          rw [hW11]
          exact ⟨((((HS10.out.1.setB (fun h => absurd h (by have:=HNB4.out; omega)) _ _).setB (fun h => absurd h (by have:=HNB4.out; omega)) _ _).setB (fun h => absurd h (by have:=HNB4.out; omega)) _ _).setB (fun h => absurd h (by have:=HNB4.out; omega)) _ _),mB1,mB2,mB3,mB4⟩
        skip
        try rw [← hW11]
        clear hW11
        go_wp2_with fail
        have HC13:Hid (∀ w',Fr [] W11 w' → (w'.cell? ⟨B4,0,none⟩ = some (.int .i64 A0) ∧ w'.cell? ⟨B4,1,none⟩ = some (.int .i64 A1) ∧ w'.cell? ⟨B4,2,none⟩ = some (.int .i64 A2) ∧ w'.cell? ⟨B4,3,none⟩ = some (.int .i64 A3)) ∧ (w'.cell? ⟨B3,0,none⟩ = some (.slice zB zm zd) ∧ w'.cell? ⟨B3,1,none⟩ = some (.bool zt) ∧ w'.cell? ⟨B3,2,none⟩ = some (.int .i64 ze)) ∧ (w'.cell? ⟨B1,0,none⟩ = some (.int .i64 pr) ∧ w'.cell? ⟨B1,1,none⟩ = some (.int .i64 pc) ∧ w'.cell? ⟨B1,2,none⟩ = some (.int .i64 qr) ∧ w'.cell? ⟨B1,3,none⟩ = some (.int .i64 qc) ∧ w'.cell? ⟨B1,4,none⟩ = some (.int .i64 v))):=by
          show ∀ _,_
          intro w' hf
          have h0:=HS11.out.2.2.2.2.fr hf (by simp)
          have h1:=HS11.out.2.2.2.1.fr hf (by simp)
          have h2:=HS11.out.2.1.fr hf (by simp)
          exact ⟨⟨h0.cell 0,h0.cell 1,h0.cell 2,h0.cell 3⟩,⟨h1.cell 0,h1.cell 1,h1.cell 2⟩,⟨h2.cell 0,h2.cell 1,h2.cell 2,h2.cell 3,h2.cell 4⟩⟩
        obtain ⟨F,hF⟩:∃ F:World → Nat → Value → Prop,F = (fun (wW:World) (i:Nat) (vV:Value) => match i with | 0 => vV = .pointer (some ⟨B4,0,none⟩) | 1 => vV = .int .i64 A0 | 2 => vV = .pointer (some ⟨B4,1,none⟩) | 3 => vV = .int .i64 A1 | 4 => vV = .pointer (some ⟨B4,2,none⟩) | 5 => vV = .int .i64 A2 | 6 => vV = .pointer (some ⟨B4,3,none⟩) | 7 => vV = .int .i64 A3 | 8 => vV = .agg #[.int .i64 A0,.int .i64 A1,.int .i64 A2,.int .i64 A3] | 9 => vV = .agg #[.slice zB zm zd,.bool zt,.int .i64 ze] | 10 => vV = .pointer (some ⟨B1,0,none⟩) | 11 => vV = .agg #[.int .i64 pr,.int .i64 pc] | 12 => vV = .pointer (some ⟨B1,2,none⟩) | 13 => vV = .agg #[.int .i64 qr,.int .i64 qc] | 14 => vV = .pointer (some ⟨B1,4,none⟩) | 15 => vV = .int .i64 v | 16 => vV = .agg #[.int .i64 A0,.int .i64 A1,.int .i64 A2,.int .i64 A3] | 17 => vV = .bool true | 18 => vV = .bool true | 19 => vV = .pointer (some ⟨B1,4,none⟩) | 20 => vV = .int .i64 v | 21 => vV = .int .i64 kv | 22 => vV = .bool rb | 23 => vV = .pointer (some ⟨B1,4,none⟩) | 24 => vV = .int .i64 v | 25 => vV = .bool rb | 26 => vV = .bool true | 27 => vV = .bool true | 28 => vV = .bool true | 29 => vV = .bool true | 30 => vV = .bool true | _ => True):=⟨_,rfl⟩
        obtain ⟨G,hG⟩:∃ G:(Nat → Value) → World → Prop,G = (fun u w => u 31 = .bool true ∧ Fr [] W11 w):=⟨_,rfl⟩
        have HM:Hid (∀ w1 w2:World,Fr [] w1 w2 → ∀ j x,F w1 j x → F w2 j x):=by
          show ∀ _,_
          intro w1 w2 hf j x h
          subst hF
          match j,h with
          | 0,h => exact h
          | 1,h => exact h
          | 2,h => exact h
          | 3,h => exact h
          | 4,h => exact h
          | 5,h => exact h
          | 6,h => exact h
          | 7,h => exact h
          | 8,h => exact h
          | 9,h => exact h
          | 10,h => exact h
          | 11,h => exact h
          | 12,h => exact h
          | 13,h => exact h
          | 14,h => exact h
          | 15,h => exact h
          | 16,h => exact h
          | 17,h => exact h
          | 18,h => exact h
          | 19,h => exact h
          | 20,h => exact h
          | 21,h => exact h
          | 22,h => exact h
          | 23,h => exact h
          | 24,h => exact h
          | 25,h => exact h
          | 26,h => exact h
          | 27,h => exact h
          | 28,h => exact h
          | 29,h => exact h
          | 30,h => exact h
          | n + 31,h => trivial
        have HFG:=Lib.hid (And.intro hF hG)
        clear hF hG
        refine wp_region_invc (by kernel_rfl) (fun f a w' => ∃ u:Nat → Value,a = { tmps:=#[.string ⟨s0.toArray⟩,.int .u64 m,.agg #[.int .i64 pr,.int .i64 pc,.int .i64 qr,.int .i64 qc,.int .i64 v],undef,undef,.pointer (some ⟨B1,0,none⟩),u 31,.pointer (some ⟨B2,0,none⟩),.pointer (some ⟨g,0,none⟩),.pointer (some ⟨B3,0,none⟩),.bool true,.pointer (some ⟨B4,0,none⟩),.tuple #[.agg #[.pointer p,.bool tl,.int .i64 eo],.pointer (some ⟨g,0,none⟩),.agg #[.slice zB zm zd,.bool zt,.int .i64 ze],.bool true],.string ⟨s0.toArray⟩,.int .u64 m,.tuple #[.agg #[.pointer p,.bool tl,.int .i64 eo],.pointer (some ⟨g,0,none⟩),.agg #[.slice zB zm zd,.bool zt,.int .i64 ze],.bool true],.agg #[.pointer p,.bool tl,.int .i64 eo],.pointer (some ⟨g,0,none⟩),.agg #[.slice zB zm zd,.bool zt,.int .i64 ze],.bool true,.bool true,.bool false,.bool false,.pointer (some ⟨B1,0,none⟩),.agg #[.int .i64 pr,.int .i64 pc],.bool true,.bool false,.bool false,.bool false,.pointer (some ⟨B1,2,none⟩),.agg #[.int .i64 qr,.int .i64 qc],.bool true,.bool false,.bool false,undef,undef,undef,undef,undef,u8 0,u8 1,u8 2,u8 3,u8 4,u8 5,u8 6,u8 7,u8 8,u8 9,u 0,u 1,u 2,u 3,u 4,u 5,u 6,u 7,u 8,u 9,u 10,u 11,u 12,u 13,u 14,u 15,u 16,u 17,u 18,u 19,u 20,u 21,u 22,u 23,u 24,u 25,u 26,u 27,u 28,u 29,u 30],defers:=[] } ∧ Hid (RInv F G W11 31 f u w')) (by kernel_rfl) ?_ ?_ ?_
        · exact ⟨fun j => cond (Nat.beq j 31) (.bool false) undef,rfl,RInv.start _⟩
        · simp only [EachOp]
          refine ⟨?_,?_,?_,?_,?_,?_,?_,?_,?_,?_,?_,?_,?_,?_,?_,?_,?_,?_,?_,?_,?_,?_,?_,?_,?_,?_,?_,?_,?_,?_,?_,?_,trivial⟩
          all_goals rintro f a w' hfi hdep hcl ⟨u,rfl,HI⟩ K hK
          · have hL:f 31 = false:=by
              cases g31:f 31 with
              | false => rfl
              | true =>
                have g0:=hcl 31 _ rfl g31 ⟨0,.phase⟩ (by simp) rfl
                exact Bool.noConfusion (g0.symm.trans hfi)
            go_simp
            exact hK _ _ ⟨updU u 0 (.pointer (some ⟨B4,0,none⟩)),rfl,HI.out.val hL (by decide) (by rw [HFG.out.1]; exact rfl)⟩
          · have hL:f 31 = false:=by
              cases g31:f 31 with
              | false => rfl
              | true =>
                have g1:=hcl 31 _ rfl g31 ⟨1,.phase⟩ (by simp) rfl
                exact Bool.noConfusion (g1.symm.trans hfi)
            have e0:u 0 = .pointer (some ⟨B4,0,none⟩):=HI.out.get HFG.out.1 hL (i:=0) (hdep ⟨0,.data⟩ (by simp) rfl)
            obtain ⟨⟨q1_0,q1_1,q1_2,q1_3⟩,⟨q2_0,q2_1,q2_2⟩,⟨q3_0,q3_1,q3_2,q3_3,q3_4⟩⟩:=HC13.out w' (HI.out.a hL).1
            go_simp
            exact hK _ _ ⟨updU u 1 (.int .i64 A0),(by simp [updU,e0] <;> (repeat' apply And.intro) <;> rfl),HI.out.val hL (by decide) (by rw [HFG.out.1]; exact rfl)⟩
          · have hL:f 31 = false:=by
              cases g31:f 31 with
              | false => rfl
              | true =>
                have g2:=hcl 31 _ rfl g31 ⟨2,.phase⟩ (by simp) rfl
                exact Bool.noConfusion (g2.symm.trans hfi)
            go_simp
            exact hK _ _ ⟨updU u 2 (.pointer (some ⟨B4,1,none⟩)),rfl,HI.out.val hL (by decide) (by rw [HFG.out.1]; exact rfl)⟩
          · have hL:f 31 = false:=by
              cases g31:f 31 with
              | false => rfl
              | true =>
                have g3:=hcl 31 _ rfl g31 ⟨3,.phase⟩ (by simp) rfl
                exact Bool.noConfusion (g3.symm.trans hfi)
            have e2:u 2 = .pointer (some ⟨B4,1,none⟩):=HI.out.get HFG.out.1 hL (i:=2) (hdep ⟨2,.data⟩ (by simp) rfl)
            obtain ⟨⟨q1_0,q1_1,q1_2,q1_3⟩,⟨q2_0,q2_1,q2_2⟩,⟨q3_0,q3_1,q3_2,q3_3,q3_4⟩⟩:=HC13.out w' (HI.out.a hL).1
            go_simp
            exact hK _ _ ⟨updU u 3 (.int .i64 A1),(by simp [updU,e2] <;> (repeat' apply And.intro) <;> rfl),HI.out.val hL (by decide) (by rw [HFG.out.1]; exact rfl)⟩
          · have hL:f 31 = false:=by
              cases g31:f 31 with
              | false => rfl
              | true =>
                have g4:=hcl 31 _ rfl g31 ⟨4,.phase⟩ (by simp) rfl
                exact Bool.noConfusion (g4.symm.trans hfi)
            go_simp
            exact hK _ _ ⟨updU u 4 (.pointer (some ⟨B4,2,none⟩)),rfl,HI.out.val hL (by decide) (by rw [HFG.out.1]; exact rfl)⟩
          · have hL:f 31 = false:=by
              cases g31:f 31 with
              | false => rfl
              | true =>
                have g5:=hcl 31 _ rfl g31 ⟨5,.phase⟩ (by simp) rfl
                exact Bool.noConfusion (g5.symm.trans hfi)
            have e4:u 4 = .pointer (some ⟨B4,2,none⟩):=HI.out.get HFG.out.1 hL (i:=4) (hdep ⟨4,.data⟩ (by simp) rfl)
            obtain ⟨⟨q1_0,q1_1,q1_2,q1_3⟩,⟨q2_0,q2_1,q2_2⟩,⟨q3_0,q3_1,q3_2,q3_3,q3_4⟩⟩:=HC13.out w' (HI.out.a hL).1
            go_simp
            exact hK _ _ ⟨updU u 5 (.int .i64 A2),(by simp [updU,e4] <;> (repeat' apply And.intro) <;> rfl),HI.out.val hL (by decide) (by rw [HFG.out.1]; exact rfl)⟩
          · have hL:f 31 = false:=by
              cases g31:f 31 with
              | false => rfl
              | true =>
                have g6:=hcl 31 _ rfl g31 ⟨6,.phase⟩ (by simp) rfl
                exact Bool.noConfusion (g6.symm.trans hfi)
            go_simp
            exact hK _ _ ⟨updU u 6 (.pointer (some ⟨B4,3,none⟩)),rfl,HI.out.val hL (by decide) (by rw [HFG.out.1]; exact rfl)⟩
          · have hL:f 31 = false:=by
              cases g31:f 31 with
              | false => rfl
              | true =>
                have g7:=hcl 31 _ rfl g31 ⟨7,.phase⟩ (by simp) rfl
                exact Bool.noConfusion (g7.symm.trans hfi)
            have e6:u 6 = .pointer (some ⟨B4,3,none⟩):=HI.out.get HFG.out.1 hL (i:=6) (hdep ⟨6,.data⟩ (by simp) rfl)
            obtain ⟨⟨q1_0,q1_1,q1_2,q1_3⟩,⟨q2_0,q2_1,q2_2⟩,⟨q3_0,q3_1,q3_2,q3_3,q3_4⟩⟩:=HC13.out w' (HI.out.a hL).1
            go_simp
            exact hK _ _ ⟨updU u 7 (.int .i64 A3),(by simp [updU,e6] <;> (repeat' apply And.intro) <;> rfl),HI.out.val hL (by decide) (by rw [HFG.out.1]; exact rfl)⟩
          · have hL:f 31 = false:=by
              cases g31:f 31 with
              | false => rfl
              | true =>
                have g8:=hcl 31 _ rfl g31 ⟨8,.phase⟩ (by simp) rfl
                exact Bool.noConfusion (g8.symm.trans hfi)
            have e1:u 1 = .int .i64 A0:=HI.out.get HFG.out.1 hL (i:=1) (hdep ⟨1,.data⟩ (by simp) rfl)
            have e3:u 3 = .int .i64 A1:=HI.out.get HFG.out.1 hL (i:=3) (hdep ⟨3,.data⟩ (by simp) rfl)
            have e5:u 5 = .int .i64 A2:=HI.out.get HFG.out.1 hL (i:=5) (hdep ⟨5,.data⟩ (by simp) rfl)
            have e7:u 7 = .int .i64 A3:=HI.out.get HFG.out.1 hL (i:=7) (hdep ⟨7,.data⟩ (by simp) rfl)
            go_simp
            exact hK _ _ ⟨updU u 8 (.agg #[.int .i64 A0,.int .i64 A1,.int .i64 A2,.int .i64 A3]),(by simp [updU,e1,e3,e5,e7] <;> (repeat' apply And.intro) <;> rfl),HI.out.val hL (by decide) (by rw [HFG.out.1]; exact rfl)⟩
          · have hL:f 31 = false:=by
              cases g31:f 31 with
              | false => rfl
              | true =>
                have g9:=hcl 31 _ rfl g31 ⟨9,.phase⟩ (by simp) rfl
                exact Bool.noConfusion (g9.symm.trans hfi)
            obtain ⟨⟨q1_0,q1_1,q1_2,q1_3⟩,⟨q2_0,q2_1,q2_2⟩,⟨q3_0,q3_1,q3_2,q3_3,q3_4⟩⟩:=HC13.out w' (HI.out.a hL).1
            go_simp
            exact hK _ _ ⟨updU u 9 (.agg #[.slice zB zm zd,.bool zt,.int .i64 ze]),rfl,HI.out.val hL (by decide) (by rw [HFG.out.1]; exact rfl)⟩
          · have hL:f 31 = false:=by
              cases g31:f 31 with
              | false => rfl
              | true =>
                have g10:=hcl 31 _ rfl g31 ⟨10,.phase⟩ (by simp) rfl
                exact Bool.noConfusion (g10.symm.trans hfi)
            go_simp
            exact hK _ _ ⟨updU u 10 (.pointer (some ⟨B1,0,none⟩)),rfl,HI.out.val hL (by decide) (by rw [HFG.out.1]; exact rfl)⟩
          · have hL:f 31 = false:=by
              cases g31:f 31 with
              | false => rfl
              | true =>
                have g11:=hcl 31 _ rfl g31 ⟨11,.phase⟩ (by simp) rfl
                exact Bool.noConfusion (g11.symm.trans hfi)
            have e10:u 10 = .pointer (some ⟨B1,0,none⟩):=HI.out.get HFG.out.1 hL (i:=10) (hdep ⟨10,.data⟩ (by simp) rfl)
            obtain ⟨⟨q1_0,q1_1,q1_2,q1_3⟩,⟨q2_0,q2_1,q2_2⟩,⟨q3_0,q3_1,q3_2,q3_3,q3_4⟩⟩:=HC13.out w' (HI.out.a hL).1
            go_simp
            exact hK _ _ ⟨updU u 11 (.agg #[.int .i64 pr,.int .i64 pc]),(by simp [updU,e10] <;> (repeat' apply And.intro) <;> rfl),HI.out.val hL (by decide) (by rw [HFG.out.1]; exact rfl)⟩
          · have hL:f 31 = false:=by
              cases g31:f 31 with
              | false => rfl
              | true =>
                have g12:=hcl 31 _ rfl g31 ⟨12,.phase⟩ (by simp) rfl
                exact Bool.noConfusion (g12.symm.trans hfi)
            go_simp
            exact hK _ _ ⟨updU u 12 (.pointer (some ⟨B1,2,none⟩)),rfl,HI.out.val hL (by decide) (by rw [HFG.out.1]; exact rfl)⟩
          · have hL:f 31 = false:=by
              cases g31:f 31 with
              | false => rfl
              | true =>
                have g13:=hcl 31 _ rfl g31 ⟨13,.phase⟩ (by simp) rfl
                exact Bool.noConfusion (g13.symm.trans hfi)
            have e12:u 12 = .pointer (some ⟨B1,2,none⟩):=HI.out.get HFG.out.1 hL (i:=12) (hdep ⟨12,.data⟩ (by simp) rfl)
            obtain ⟨⟨q1_0,q1_1,q1_2,q1_3⟩,⟨q2_0,q2_1,q2_2⟩,⟨q3_0,q3_1,q3_2,q3_3,q3_4⟩⟩:=HC13.out w' (HI.out.a hL).1
            go_simp
            exact hK _ _ ⟨updU u 13 (.agg #[.int .i64 qr,.int .i64 qc]),(by simp [updU,e12] <;> (repeat' apply And.intro) <;> rfl),HI.out.val hL (by decide) (by rw [HFG.out.1]; exact rfl)⟩
          · have hL:f 31 = false:=by
              cases g31:f 31 with
              | false => rfl
              | true =>
                have g14:=hcl 31 _ rfl g31 ⟨14,.phase⟩ (by simp) rfl
                exact Bool.noConfusion (g14.symm.trans hfi)
            go_simp
            exact hK _ _ ⟨updU u 14 (.pointer (some ⟨B1,4,none⟩)),rfl,HI.out.val hL (by decide) (by rw [HFG.out.1]; exact rfl)⟩
          · have hL:f 31 = false:=by
              cases g31:f 31 with
              | false => rfl
              | true =>
                have g15:=hcl 31 _ rfl g31 ⟨15,.phase⟩ (by simp) rfl
                exact Bool.noConfusion (g15.symm.trans hfi)
            have e14:u 14 = .pointer (some ⟨B1,4,none⟩):=HI.out.get HFG.out.1 hL (i:=14) (hdep ⟨14,.data⟩ (by simp) rfl)
            obtain ⟨⟨q1_0,q1_1,q1_2,q1_3⟩,⟨q2_0,q2_1,q2_2⟩,⟨q3_0,q3_1,q3_2,q3_3,q3_4⟩⟩:=HC13.out w' (HI.out.a hL).1
            go_simp
            exact hK _ _ ⟨updU u 15 (.int .i64 v),(by simp [updU,e14] <;> (repeat' apply And.intro) <;> rfl),HI.out.val hL (by decide) (by rw [HFG.out.1]; exact rfl)⟩
          · have hL:f 31 = false:=by
              cases g31:f 31 with
              | false => rfl
              | true =>
                have g16:=hcl 31 _ rfl g31 ⟨16,.phase⟩ (by simp) rfl
                exact Bool.noConfusion (g16.symm.trans hfi)
            have e9:u 9 = .agg #[.slice zB zm zd,.bool zt,.int .i64 ze]:=HI.out.get HFG.out.1 hL (i:=9) (hdep ⟨9,.data⟩ (by simp) rfl)
            have e11:u 11 = .agg #[.int .i64 pr,.int .i64 pc]:=HI.out.get HFG.out.1 hL (i:=11) (hdep ⟨11,.data⟩ (by simp) rfl)
            have e13:u 13 = .agg #[.int .i64 qr,.int .i64 qc]:=HI.out.get HFG.out.1 hL (i:=13) (hdep ⟨13,.data⟩ (by simp) rfl)
            have e15:u 15 = .int .i64 v:=HI.out.get HFG.out.1 hL (i:=15) (hdep ⟨15,.data⟩ (by simp) rfl)
            refine step_call _ (by rfl) 12 #[.agg #[.slice zB zm zd,.bool zt,.int .i64 ze],.agg #[.int .i64 pr,.int .i64 pc],.agg #[.int .i64 qr,.int .i64 qc],.int .i64 v] (by go_simp) _ ((HA.out _ (HS11.out.1.trans (HI.out.a hL).1)).2) (by rintro e w' ⟨he,_⟩; exact ⟨_,he⟩) ?_
            rintro v4 w4 ⟨hv4,hf4⟩
            injection hv4 with hv4
            subst hv4
            try go_simp
            exact hK _ _ ⟨updU u 16 (.agg #[.int .i64 A0,.int .i64 A1,.int .i64 A2,.int .i64 A3]),(by simp [updU,e9,e11,e13,e15] <;> (repeat' apply And.intro) <;> rfl),HI.out.call hL (by decide) (HM.out _ _ hf4) hf4 (by rw [HFG.out.1]; exact rfl)⟩
          · have hL:f 31 = false:=by
              cases g31:f 31 with
              | false => rfl
              | true =>
                have g17:=hcl 31 _ rfl g31 ⟨17,.phase⟩ (by simp) rfl
                exact Bool.noConfusion (g17.symm.trans hfi)
            have e8:u 8 = .agg #[.int .i64 A0,.int .i64 A1,.int .i64 A2,.int .i64 A3]:=HI.out.get HFG.out.1 hL (i:=8) (hdep ⟨8,.data⟩ (by simp) rfl)
            have e16:u 16 = .agg #[.int .i64 A0,.int .i64 A1,.int .i64 A2,.int .i64 A3]:=HI.out.get HFG.out.1 hL (i:=16) (hdep ⟨16,.data⟩ (by simp) rfl)
            go_simp
            exact hK _ _ ⟨updU u 17 (.bool true),(by simp [updU,e8,e16] <;> (repeat' apply And.intro) <;> rfl),HI.out.val hL (by decide) (by rw [HFG.out.1]; exact rfl)⟩
          · have hL:f 31 = false:=by
              cases g31:f 31 with
              | false => rfl
              | true =>
                have g18:=hcl 31 _ rfl g31 ⟨18,.phase⟩ (by simp) rfl
                exact Bool.noConfusion (g18.symm.trans hfi)
            have e17:u 17 = .bool true:=HI.out.get HFG.out.1 hL (i:=17) (hdep ⟨17,.data⟩ (by simp) rfl)
            go_simp
            exact hK _ _ ⟨updU u 18 (.bool true),(by simp [updU,e17] <;> (repeat' apply And.intro) <;> rfl),HI.out.val hL (by decide) (by rw [HFG.out.1]; exact rfl)⟩
          · have hL:f 31 = false:=by
              cases g31:f 31 with
              | false => rfl
              | true =>
                have g19:=hcl 31 _ rfl g31 ⟨19,.phase⟩ (by simp) rfl
                exact Bool.noConfusion (g19.symm.trans hfi)
            have e18:u 18 = .bool true:=HI.out.get HFG.out.1 hL (i:=18) (hdep ⟨18,.guard⟩ (by simp) rfl)
            go_simp
            exact hK _ _ ⟨updU u 19 (.pointer (some ⟨B1,4,none⟩)),(by simp [updU,e18] <;> (repeat' apply And.intro) <;> rfl),HI.out.val hL (by decide) (by rw [HFG.out.1]; exact rfl)⟩
          · have hL:f 31 = false:=by
              cases g31:f 31 with
              | false => rfl
              | true =>
                have g20:=hcl 31 _ rfl g31 ⟨20,.phase⟩ (by simp) rfl
                exact Bool.noConfusion (g20.symm.trans hfi)
            have e19:u 19 = .pointer (some ⟨B1,4,none⟩):=HI.out.get HFG.out.1 hL (i:=19) (hdep ⟨19,.data⟩ (by simp) rfl)
            have e18:u 18 = .bool true:=HI.out.get HFG.out.1 hL (i:=18) (hdep ⟨18,.guard⟩ (by simp) rfl)
            obtain ⟨⟨q1_0,q1_1,q1_2,q1_3⟩,⟨q2_0,q2_1,q2_2⟩,⟨q3_0,q3_1,q3_2,q3_3,q3_4⟩⟩:=HC13.out w' (HI.out.a hL).1
            go_simp
            exact hK _ _ ⟨updU u 20 (.int .i64 v),(by simp [updU,e19,e18] <;> (repeat' apply And.intro) <;> rfl),HI.out.val hL (by decide) (by rw [HFG.out.1]; exact rfl)⟩
          · have hL:f 31 = false:=by
              cases g31:f 31 with
              | false => rfl
              | true =>
                have g21:=hcl 31 _ rfl g31 ⟨21,.phase⟩ (by simp) rfl
                exact Bool.noConfusion (g21.symm.trans hfi)
            have e20:u 20 = .int .i64 v:=HI.out.get HFG.out.1 hL (i:=20) (hdep ⟨20,.data⟩ (by simp) rfl)
            have e18:u 18 = .bool true:=HI.out.get HFG.out.1 hL (i:=18) (hdep ⟨18,.guard⟩ (by simp) rfl)
            refine step_callw _ (by go_simp) 13 #[.int .i64 v] (by go_simp) _ ((HKV.out w').1) (by rintro e w' ⟨he,_⟩; exact ⟨_,he⟩) ?_
            rintro v4 w4 ⟨hv4,hf4⟩
            injection hv4 with hv4
            subst hv4
            try go_simp
            exact hK _ _ ⟨updU u 21 (.int .i64 kv),(by simp [updU,e20,e18] <;> (repeat' apply And.intro) <;> rfl),HI.out.call hL (by decide) (HM.out _ _ hf4) hf4 (by rw [HFG.out.1]; exact rfl)⟩
          · have hL:f 31 = false:=by
              cases g31:f 31 with
              | false => rfl
              | true =>
                have g22:=hcl 31 _ rfl g31 ⟨22,.phase⟩ (by simp) rfl
                exact Bool.noConfusion (g22.symm.trans hfi)
            have e21:u 21 = .int .i64 kv:=HI.out.get HFG.out.1 hL (i:=21) (hdep ⟨21,.data⟩ (by simp) rfl)
            have e18:u 18 = .bool true:=HI.out.get HFG.out.1 hL (i:=18) (hdep ⟨18,.guard⟩ (by simp) rfl)
            go_simp
            exact hK _ _ ⟨updU u 22 (.bool rb),(by simp [updU,e21,e18] <;> (repeat' apply And.intro) <;> rfl),HI.out.val hL (by decide) (by rw [HFG.out.1]; exact rfl)⟩
          · have hL:f 31 = false:=by
              cases g31:f 31 with
              | false => rfl
              | true =>
                have g23:=hcl 31 _ rfl g31 ⟨23,.phase⟩ (by simp) rfl
                exact Bool.noConfusion (g23.symm.trans hfi)
            have e18:u 18 = .bool true:=HI.out.get HFG.out.1 hL (i:=18) (hdep ⟨18,.guard⟩ (by simp) rfl)
            go_simp
            exact hK _ _ ⟨updU u 23 (.pointer (some ⟨B1,4,none⟩)),(by simp [updU,e18] <;> (repeat' apply And.intro) <;> rfl),HI.out.val hL (by decide) (by rw [HFG.out.1]; exact rfl)⟩
          · have hL:f 31 = false:=by
              cases g31:f 31 with
              | false => rfl
              | true =>
                have g24:=hcl 31 _ rfl g31 ⟨24,.phase⟩ (by simp) rfl
                exact Bool.noConfusion (g24.symm.trans hfi)
            have e23:u 23 = .pointer (some ⟨B1,4,none⟩):=HI.out.get HFG.out.1 hL (i:=23) (hdep ⟨23,.data⟩ (by simp) rfl)
            have e18:u 18 = .bool true:=HI.out.get HFG.out.1 hL (i:=18) (hdep ⟨18,.guard⟩ (by simp) rfl)
            obtain ⟨⟨q1_0,q1_1,q1_2,q1_3⟩,⟨q2_0,q2_1,q2_2⟩,⟨q3_0,q3_1,q3_2,q3_3,q3_4⟩⟩:=HC13.out w' (HI.out.a hL).1
            go_simp
            exact hK _ _ ⟨updU u 24 (.int .i64 v),(by simp [updU,e23,e18] <;> (repeat' apply And.intro) <;> rfl),HI.out.val hL (by decide) (by rw [HFG.out.1]; exact rfl)⟩
          · have hL:f 31 = false:=by
              cases g31:f 31 with
              | false => rfl
              | true =>
                have g25:=hcl 31 _ rfl g31 ⟨25,.phase⟩ (by simp) rfl
                exact Bool.noConfusion (g25.symm.trans hfi)
            have e24:u 24 = .int .i64 v:=HI.out.get HFG.out.1 hL (i:=24) (hdep ⟨24,.data⟩ (by simp) rfl)
            have e18:u 18 = .bool true:=HI.out.get HFG.out.1 hL (i:=18) (hdep ⟨18,.guard⟩ (by simp) rfl)
            refine step_callw _ (by go_simp) 14 #[.int .i64 v] (by go_simp) _ ((HKV.out w').2) (by rintro e w' ⟨he,_⟩; exact ⟨_,he⟩) ?_
            rintro v4 w4 ⟨hv4,hf4⟩
            injection hv4 with hv4
            subst hv4
            try go_simp
            exact hK _ _ ⟨updU u 25 (.bool rb),(by simp [updU,e24,e18] <;> (repeat' apply And.intro) <;> rfl),HI.out.call hL (by decide) (HM.out _ _ hf4) hf4 (by rw [HFG.out.1]; exact rfl)⟩
          · have hL:f 31 = false:=by
              cases g31:f 31 with
              | false => rfl
              | true =>
                have g26:=hcl 31 _ rfl g31 ⟨26,.phase⟩ (by simp) rfl
                exact Bool.noConfusion (g26.symm.trans hfi)
            have e22:u 22 = .bool rb:=HI.out.get HFG.out.1 hL (i:=22) (hdep ⟨22,.data⟩ (by simp) rfl)
            have e25:u 25 = .bool rb:=HI.out.get HFG.out.1 hL (i:=25) (hdep ⟨25,.data⟩ (by simp) rfl)
            have e18:u 18 = .bool true:=HI.out.get HFG.out.1 hL (i:=18) (hdep ⟨18,.guard⟩ (by simp) rfl)
            go_simp
            exact hK _ _ ⟨updU u 26 (.bool true),(by simp [updU,e22,e25,e18] <;> (repeat' apply And.intro) <;> rfl),HI.out.val hL (by decide) (by rw [HFG.out.1]; exact rfl)⟩
          · have hL:f 31 = false:=by
              cases g31:f 31 with
              | false => rfl
              | true =>
                have g27:=hcl 31 _ rfl g31 ⟨27,.phase⟩ (by simp) rfl
                exact Bool.noConfusion (g27.symm.trans hfi)
            have e18:u 18 = .bool true:=HI.out.get HFG.out.1 hL (i:=18) (hdep ⟨18,.data⟩ (by simp) rfl)
            have e26:u 26 = .bool true:=HI.out.get HFG.out.1 hL (i:=26) (hdep ⟨26,.data⟩ (by simp) rfl)
            go_simp
            exact hK _ _ ⟨updU u 27 (.bool true),(by simp [updU,e18,e26] <;> (repeat' apply And.intro) <;> rfl),HI.out.val hL (by decide) (by rw [HFG.out.1]; exact rfl)⟩
          · have hL:f 31 = false:=by
              cases g31:f 31 with
              | false => rfl
              | true =>
                have g28:=hcl 31 _ rfl g31 ⟨28,.phase⟩ (by simp) rfl
                exact Bool.noConfusion (g28.symm.trans hfi)
            have e27:u 27 = .bool true:=HI.out.get HFG.out.1 hL (i:=27) (hdep ⟨27,.data⟩ (by simp) rfl)
            go_simp
            exact hK _ _ ⟨updU u 28 (.bool true),(by simp [updU,e27] <;> (repeat' apply And.intro) <;> rfl),HI.out.val hL (by decide) (by rw [HFG.out.1]; exact rfl)⟩
          · have hL:f 31 = false:=by
              cases g31:f 31 with
              | false => rfl
              | true =>
                have g29:=hcl 31 _ rfl g31 ⟨29,.chain⟩ (by simp) rfl
                exact Bool.noConfusion (g29.symm.trans hfi)
            have e28:u 28 = .bool true:=HI.out.get HFG.out.1 hL (i:=28) (hdep ⟨28,.guard⟩ (by simp) rfl)
            refine step_callw _ (by go_simp) 9 #[] (by go_simp) _ (awake26_yes w') (by rintro e w' ⟨he,_⟩; exact ⟨_,he⟩) ?_
            rintro v4 w4 ⟨hv4,hf4⟩
            injection hv4 with hv4
            subst hv4
            try go_simp
            exact hK _ _ ⟨updU u 29 (.bool true),(by simp [updU,e28] <;> (repeat' apply And.intro) <;> rfl),HI.out.call hL (by decide) (HM.out _ _ hf4) hf4 (by rw [HFG.out.1]; exact rfl)⟩
          · have hL:f 31 = false:=by
              cases g31:f 31 with
              | false => rfl
              | true =>
                have g30:=hcl 31 _ rfl g31 ⟨30,.data⟩ (by simp) rfl
                exact Bool.noConfusion (g30.symm.trans hfi)
            have e28:u 28 = .bool true:=HI.out.get HFG.out.1 hL (i:=28) (hdep ⟨28,.data⟩ (by simp) rfl)
            have e29:u 29 = .bool true:=HI.out.get HFG.out.1 hL (i:=29) (hdep ⟨29,.data⟩ (by simp) rfl)
            go_simp
            exact hK _ _ ⟨updU u 30 (.bool true),(by simp [updU,e28,e29] <;> (repeat' apply And.intro) <;> rfl),HI.out.val hL (by decide) (by rw [HFG.out.1]; exact rfl)⟩
          · have hL:f 31 = false:=hfi
            have e30:u 30 = .bool true:=HI.out.get HFG.out.1 hL (i:=30) (hdep ⟨30,.data⟩ (by simp) rfl)
            go_simp
            refine hK _ _ ⟨updU u 31 (.bool true),(by simp [updU,e30] <;> (repeat' apply And.intro) <;> rfl),RInv.last ?_⟩
            rw [HFG.out.2]
            exact ⟨by simp [updU],(HI.out.a hL).1⟩
        rintro f a wr13 hall ⟨u13,rfl,HI⟩
        have hG:=HI.out.b (hall 31 (by decide))
        rw [HFG.out.2] at hG
        obtain ⟨eL,hfwr13⟩:=hG
        try dsimp only
        simp only [eL]
        clear eL
        have HS14:Hid (Fr [] w1 wr13 ∧ Blk wr13 B1 26 #[.int .i64 pr,.int .i64 pc,.int .i64 qr,.int .i64 qc,.int .i64 v] ∧ Blk wr13 B2 31 #[.pointer p,.bool tl,.int .i64 eo] ∧ Blk wr13 B3 35 #[.slice zB zm zd,.bool zt,.int .i64 ze] ∧ Blk wr13 B4 41 #[.int .i64 A0,.int .i64 A1,.int .i64 A2,.int .i64 A3]):=⟨HS11.out.1.trans hfwr13,HS11.out.2.1.fr hfwr13 (by simp),HS11.out.2.2.1.fr hfwr13 (by simp),HS11.out.2.2.2.1.fr hfwr13 (by simp),HS11.out.2.2.2.2.fr hfwr13 (by simp)⟩
        clear hfwr13 HI hall HFG HM HC13
        go_wp2_with fail
        go_ret
        exact ⟨rfl,HFH.out.trans HS14.out.1⟩
end Go.Proofs.YteohomdiklkbfaaGreat
