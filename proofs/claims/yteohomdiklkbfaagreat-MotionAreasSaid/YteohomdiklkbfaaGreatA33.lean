import Derived.Test.YteohomdiklkbfaaGreatA23
import Derived.Test.YteohomdiklkbfaaGreatA32
import Derived.Test.YteohomdiklkbfaaGreatA28
import Derived.IntWalk
import Derived.Deep.LoopGhost
namespace Go.Proofs.YteohomdiklkbfaaGreat
open Go.RowKit Go.Shelf Go.Proofs.Dm
attribute [local go_sem] Oper.semAt_some
def FuncNewB (w:World) (p:Option Addr) (i j:Nat) (en:Ending) (w':World):Prop :=
  ∃ bi bj bt:Nat,en = .returned (.func (.func 103) #[] #[.pointer (some ⟨bi,0,none⟩),.pointer (some ⟨bj,0,none⟩),.pointer (some ⟨bt,0,none⟩)]) ∧
    w'.cell? ⟨bi,0,none⟩ = some (.int .i64 (i:Nat)) ∧ w'.cell? ⟨bj,0,none⟩ = some (.int .i64 (j:Nat)) ∧ w'.cell? ⟨bt,0,none⟩ = some (.pointer p) ∧ Fr [] w w' ∧ w.heap.size ≤ bi ∧ w.heap.size ≤ bj ∧ w.heap.size ≤ bt
end Go.Proofs.YteohomdiklkbfaaGreat
namespace Go.Proofs.YteohomdiklkbfaaGreat
open Go.RowKit Go.Proofs.Dm

set_option maxHeartbeats 800000 in
theorem dhas_any (w:World) (B:Option Addr) (m d:Nat) (t:Bool) (e i:Int) :
    Calls Tryz.prog 48 #[.agg #[.slice B m d,.bool t,.int .i64 e],.int .i64 i] w fun en w' => en = .returned (.bool (decide (0 ≤ i ∧ i < (m:Int)))) ∧ Fr [] w w':=by
  by_cases h0:0 ≤ i
  · by_cases h1:i < (m:Int)
    · rw [show decide (0 ≤ i ∧ i < (m:Int)) = true from decide_eq_true ⟨h0,h1⟩]
      go_enter Tryz.func48,Tryz.ntmps48
      go_wp2_with fail
      go_ret
      exact ⟨rfl,(Fr.refl [] w).alloc _⟩
    · rw [show decide (0 ≤ i ∧ i < (m:Int)) = false from decide_eq_false fun h => h1 h.2]
      go_enter Tryz.func48,Tryz.ntmps48
      go_wp2_with fail
      go_ret
      exact ⟨rfl,(Fr.refl [] w).alloc _⟩
  · rw [show decide (0 ≤ i ∧ i < (m:Int)) = false from decide_eq_false fun h => h0 h.1]
    go_enter Tryz.func48,Tryz.ntmps48
    go_wp2_with fail
    go_ret
    exact ⟨rfl,(Fr.refl [] w).alloc _⟩
def dwidP (xs:List RD):Nat:=(xs.map (·.cs.length)).foldl max 0
set_option maxRecDepth 100000 in
set_option maxHeartbeats 1600000 in
theorem dwidth_any (w:World) (x:GD) (hx:GDAt x w) (h6:x.m ≤ 100000) (h7:∀ r ∈ x.rs,r.m ≤ 1000000) :
    Calls Tryz.prog 33 #[.agg #[.slice x.B x.m x.d,.bool x.t,.int .i64 x.e]] w fun en w' => en = .returned (.int .i64 (dwidP x.rs:Nat)) ∧ Fr [] w w':=by
  obtain ⟨A,n,c,xs,xt,xen⟩:=x
  obtain ⟨W1,hW1⟩:∃ W1,W1 = w.alloc (.cells #[.slice A n c,.bool xt,.int .i64 xen] TD11):=⟨_,rfl⟩
  have HF:Hid (Fr [] w W1):=by show Fr _ _ _; rw [hW1]; exact (Fr.refl [] w).alloc _
  have HA:Hid (Sl w A (rdc xs) ∧ n = xs.length ∧ (∀ r ∈ xs,RDAt r w) ∧ ∀ r ∈ xs,r.m ≤ 1000000):=⟨hx.1,hx.2.1,hx.2.2,h7⟩
  have HW1:=Lib.hid hW1
  simp only at h6
  have n6:(n:Int) ≤ 100000:=by omega
  clear hx h6 h7 hW1
  go_enter Tryz.func33,Tryz.ntmps33
  go_wp2_with fail
  rw [← HW1.out]
  go_loopw [9,3] (fun iv ov wr => ∃ (j k:Nat),iv = .int .i64 j ∧ ov = .int .i64 k ∧ j ≤ n ∧ Hid (k = dwidP (xs.take j) ∧ Fr [] w wr)) (fun iv _ _ => n - (intOf iv).toNat)
  case atStart => exact ⟨0,0,rfl,rfl,Nat.zero_le _,rfl,HF.out⟩
  case round =>
    obtain ⟨j,k,rfl,rfl,hj,HJ⟩:=hrel
    by_cases hlt:j < n
    · have hx1:j < xs.length:=by rw [← HA.out.2.1]; exact hlt
      obtain ⟨bx,rfl,e0,e1⟩:=sl_elem (f:=RD.cells) (sz:=3) (fun _ => rfl) (HA.out.1.fr HJ.out.2 (.inr List.not_mem_nil)) hx1 (by omega)
      obtain ⟨x,hx⟩:∃ x,x = xs[j]:=⟨_,rfl⟩
      rw [← hx] at e0 e1
      have hxm:x ∈ xs:=by rw [hx]; exact List.getElem_mem hx1
      have HT:Hid (dwidP (xs.take (j + 1)) = max k x.m):=by
        show _ = _
        rw [List.take_succ_eq_append_getElem hx1,← hx,HJ.out.1,(HA.out.2.2.1 x hxm).2]
        simp [dwidP]
      have hm6:=HA.out.2.2.2 x hxm
      obtain ⟨xB,xm,xd,xcs,xe,xh⟩:=x
      simp only at HT hm6
      have c0:wr.cell? (bx.add (j * 3)) = some (.slice xB xm xd):=e0 _ rfl
      have c1:wr.cell? ⟨(bx.add (j * 3)).block,(bx.add (j * 3)).off + 1,none⟩ = some (.int .i64 xe):=e1 0 _ rfl
      have c2:wr.cell? ⟨(bx.add (j * 3)).block,(bx.add (j * 3)).off + 2,none⟩ = some (.bool xh):=e1 1 _ rfl
      have HF2:Hid (Fr [] w (wr.alloc (.cells #[.slice xB xm xd,.int .i64 xe,.bool xh] TD8))):=HJ.out.2.alloc _
      have i0:(0:Int) ≤ (j:Int):=by omega
      have i1:(j:Int) < (n:Int):=by omega
      clear e0 e1 hx hx1 hxm
      rcases Nat.lt_or_ge k xm with hkm | hkm
      · have h1:(k:Int) < (xm:Int):=by omega
        have HT2:Hid (xm = dwidP (xs.take (j + 1))):=by show _ = _; rw [HT.out]; omega
        clear hkm hm6
        go_wp2_with fail
        go_roundw
        case rel => exact ⟨j + 1,xm,by go_num,rfl,by omega,HT2.out,HF2.out⟩
        case measure => simp [intOf]; omega
      · have h1:¬ (k:Int) < (xm:Int):=by omega
        have HT2:Hid (k = dwidP (xs.take (j + 1))):=by show _ = _; rw [HT.out]; omega
        clear hkm hm6
        go_wp2_with fail
        go_roundw
        case rel => exact ⟨j + 1,k,by go_num,rfl,by omega,HT2.out,HF2.out⟩
        case measure => simp [intOf]; omega
    · obtain rfl:j = n:=by omega
      have HE:Hid (k = dwidP xs ∧ Fr [] w wr):=by
        have:=HJ.out.1
        rw [List.take_of_length_le (by have:=HA.out.2.1; omega)] at this
        exact ⟨this,HJ.out.2⟩
      clear HJ
      go_wp2_with fail
      go_ret
      exact ⟨by rw [HE.out.1]; rfl,HE.out.2⟩
def DC.none:DC:=⟨[],[],false⟩
end Go.Proofs.YteohomdiklkbfaaGreat
