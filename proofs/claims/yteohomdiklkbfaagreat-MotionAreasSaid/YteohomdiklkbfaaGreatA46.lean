import Derived.Test.YteohomdiklkbfaaGreatA12
import Derived.Test.YteohomdiklkbfaaGreatA09
import Derived.Test.YteohomdiklkbfaaGreatA43
namespace Go.Proofs.YteohomdiklkbfaaGreat
open Go.RowKit Go.Proofs.Dm

theorem cellempty_any (w:World) (B:Option Addr) (m d q a n:Nat) (k:Bool) :
    Calls Tryz.prog 113 #[.agg #[.slice B m d,.int .i64 (q:Nat),.int .i64 (a:Nat),.int .i64 (n:Nat),.bool k]] w fun e w' => e = .returned (.bool (decide (q = 0))) ∧ Fr [] w w':=by
  by_cases hq:q = 0
  · rw [decide_eq_true hq]
    have h0:((q:Int) == 0) = true:=by simp [hq]
    clear hq
    go_enter Tryz.func113,Tryz.ntmps113
    obtain ⟨W1,hW1⟩:∃ W,W = (w.alloc (.cells #[.slice B m d,.int .i64 (q:Nat),.int .i64 (a:Nat),.int .i64 (n:Nat),.bool k] 126)):=⟨_,rfl⟩
    obtain ⟨B1,hB1⟩:∃ B,B = w.heap.size:=⟨_,rfl⟩
    have HNB1:Hid (w.heap.size ≤ B1):=by
      show _ ≤ _
      omega
    have HS1:Hid (Fr [] w W1 ∧ Blk W1 B1 126 #[.slice B m d,.int .i64 (q:Nat),.int .i64 (a:Nat),.int .i64 (n:Nat),.bool k]):=by
      have nB1:=(Blk.new w 126 #[.slice B m d,.int .i64 (q:Nat),.int .i64 (a:Nat),.int .i64 (n:Nat),.bool k])
      skip
      rw [hW1,hB1]
      exact ⟨((Fr.refl [] w).alloc _),nB1⟩
    go_wp2_with fail
    try rw [← hW1]
    try rw [← hB1]
    clear hW1 hB1
    refine (textlen_any W1 B m d q).mono ?_
    rintro en w1 ⟨rfl,hf1⟩
    have HS2:Hid (Fr [] w w1 ∧ Blk w1 B1 126 #[.slice B m d,.int .i64 (q:Nat),.int .i64 (a:Nat),.int .i64 (n:Nat),.bool k]):=⟨HS1.out.1.trans hf1,HS1.out.2.fr hf1 (by simp)⟩
    clear hf1
    go_wp2_with fail
    go_ret
    exact ⟨rfl,HS2.out.1⟩
  · rw [decide_eq_false hq]
    have h0:((q:Int) == 0) = false:=by rw [beq_eq_false_iff_ne]; omega
    clear hq
    go_enter Tryz.func113,Tryz.ntmps113
    obtain ⟨W1,hW1⟩:∃ W,W = (w.alloc (.cells #[.slice B m d,.int .i64 (q:Nat),.int .i64 (a:Nat),.int .i64 (n:Nat),.bool k] 126)):=⟨_,rfl⟩
    obtain ⟨B1,hB1⟩:∃ B,B = w.heap.size:=⟨_,rfl⟩
    have HNB1:Hid (w.heap.size ≤ B1):=by
      show _ ≤ _
      omega
    have HS1:Hid (Fr [] w W1 ∧ Blk W1 B1 126 #[.slice B m d,.int .i64 (q:Nat),.int .i64 (a:Nat),.int .i64 (n:Nat),.bool k]):=by
      have nB1:=(Blk.new w 126 #[.slice B m d,.int .i64 (q:Nat),.int .i64 (a:Nat),.int .i64 (n:Nat),.bool k])
      skip
      rw [hW1,hB1]
      exact ⟨((Fr.refl [] w).alloc _),nB1⟩
    go_wp2_with fail
    try rw [← hW1]
    try rw [← hB1]
    clear hW1 hB1
    refine (textlen_any W1 B m d q).mono ?_
    rintro en w1 ⟨rfl,hf1⟩
    have HS2:Hid (Fr [] w w1 ∧ Blk w1 B1 126 #[.slice B m d,.int .i64 (q:Nat),.int .i64 (a:Nat),.int .i64 (n:Nat),.bool k]):=⟨HS1.out.1.trans hf1,HS1.out.2.fr hf1 (by simp)⟩
    clear hf1
    go_wp2_with fail
    go_ret
    exact ⟨rfl,HS2.out.1⟩
set_option maxHeartbeats 1600000 in
theorem mempty_any (w:World) (A:Option Addr) (n c:Nat) (e i:Int) (h:Bool) (cs:List CV) (hA:Sl w A (cvc cs)) (hn:n = cs.length) (h6:n ≤ 1000000) :
    Calls Tryz.prog 105 #[.agg #[.slice A n c,.int .i64 e,.bool h],.int .i64 i] w fun e w' => e = .returned (.bool (decide (((atC cs i).getD CV.zero).q = 0))) ∧ Fr [] w w':=by
  have HP:=Lib.hid (And.intro hA (And.intro hn h6))
  clear hA hn h6
  go_enter Tryz.func105,Tryz.ntmps105
  obtain ⟨W1,hW1⟩:∃ W,W = (w.alloc (.cells #[.slice A n c,.int .i64 e,.bool h] 63)):=⟨_,rfl⟩
  obtain ⟨B1,hB1⟩:∃ B,B = w.heap.size:=⟨_,rfl⟩
  have HNB1:Hid (w.heap.size ≤ B1):=by
    show _ ≤ _
    omega
  have HS1:Hid (Fr [] w W1 ∧ Blk W1 B1 63 #[.slice A n c,.int .i64 e,.bool h]):=by
    have nB1:=(Blk.new w 63 #[.slice A n c,.int .i64 e,.bool h])
    skip
    rw [hW1,hB1]
    exact ⟨((Fr.refl [] w).alloc _),nB1⟩
  go_wp2_with fail
  try rw [← hW1]
  try rw [← hB1]
  clear hW1 hB1
  refine (rowat_any W1 A n c e i h cs (HP.out.1.fr HS1.out.1 (.inr List.not_mem_nil)) HP.out.2.1 HP.out.2.2).mono ?_
  rintro en w1 ⟨cB,cm,cd,cq,ca,cn,ck,sp,rfl,he,hf1⟩
  obtain ⟨ok,hok⟩:∃ ok,ok = (atC cs i).isSome:=⟨_,rfl⟩
  rw [← hok]
  have HE:=Lib.hid he
  clear he hok
  have HS2:Hid (Fr [] w w1 ∧ Blk w1 B1 63 #[.slice A n c,.int .i64 e,.bool h]):=⟨HS1.out.1.trans hf1,HS1.out.2.fr hf1 (by simp)⟩
  clear hf1
  obtain ⟨W3,hW3⟩:∃ W,W = (w1.alloc (.cells #[.slice cB cm cd,.int .i64 (cq:Nat),.int .i64 (ca:Nat),.int .i64 (cn:Nat),.bool ck] 126)):=⟨_,rfl⟩
  obtain ⟨B2,hB2⟩:∃ B,B = w1.heap.size:=⟨_,rfl⟩
  have HNB2:Hid (w.heap.size ≤ B2 ∧ B2 ≠ B1):=by
    have h0:=HS2.out.1.size
    have:=HS2.out.2.lt
    exact ⟨by omega,by omega⟩
  have HS3:Hid (Fr [] w W3 ∧ Blk W3 B1 63 #[.slice A n c,.int .i64 e,.bool h] ∧ Blk W3 B2 126 #[.slice cB cm cd,.int .i64 (cq:Nat),.int .i64 (ca:Nat),.int .i64 (cn:Nat),.bool ck]):=by
    have nB2:=(Blk.new w1 126 #[.slice cB cm cd,.int .i64 (cq:Nat),.int .i64 (ca:Nat),.int .i64 (cn:Nat),.bool ck])
    skip
    rw [hW3,hB2]
    exact ⟨(HS2.out.1.alloc _),(HS2.out.2.alloc _),nB2⟩
  go_wp2_with fail
  try rw [← hW3]
  try rw [← hB2]
  clear hW3 hB2
  refine (cellempty_any W3 cB cm cd cq ca cn ck).mono ?_
  rintro en w2 ⟨rfl,hf2⟩
  have HS4:Hid (Fr [] w w2 ∧ Blk w2 B1 63 #[.slice A n c,.int .i64 e,.bool h] ∧ Blk w2 B2 126 #[.slice cB cm cd,.int .i64 (cq:Nat),.int .i64 (ca:Nat),.int .i64 (cn:Nat),.bool ck]):=⟨HS3.out.1.trans hf2,HS3.out.2.1.fr hf2 (by simp),HS3.out.2.2.fr hf2 (by simp)⟩
  clear hf2
  go_wp2_with fail
  go_ret
  exact ⟨by rw [HE.out]; rfl,HS4.out.1⟩
end Go.Proofs.YteohomdiklkbfaaGreat
namespace Go.Proofs.YteohomdiklkbfaaGreat
open Go.RowKit Go.Proofs.Dm

section
variable {s:List UInt8} {g:Nat} {p:Option Addr} {tl:Bool} {eo:Int} {rs:List RW} {x:GD} {w:World}
end
end Go.Proofs.YteohomdiklkbfaaGreat
