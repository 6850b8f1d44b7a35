import Derived.Test.YtblafakafgediaaGreatF09
import Derived.Test.YtblafakafgediaaGreatF02
import Derived.BigQuiet
namespace Go.Proofs.YtblafakafgediaaGreat
open Go.RowKit Go.Proofs.Dm

abbrev TAr:TypeId:=225
abbrev TU8:TypeId:=5
def ArAt (g:Nat) (s:List UInt8) (w:World):Prop:=∃ (A:Option Addr) (c:Nat),Blk w g TAr #[.slice A s.length c] ∧ Sl w A (bts s) ∧ s.length ≤ c
def NewAns (E:List (Option Nat)) (w:World) (s:List UInt8) (e:Ending) (w':World):Prop :=
  ∃ g,e = .returned (.tuple #[.pointer (some ⟨g,0,none⟩),.int .i64 0]) ∧ Kp E w' (ArAt g s) ∧ Fr [] w w' ∧ w.heap.size ≤ g
theorem infoU8:(Tryz.prog.info? TU8).map (fun i => (i.zero,i.size,i.bytes)) = some (some (Value.int .u8 0),1,1):=by kernel_rfl
theorem sizeU8:(Tryz.prog.info? TU8).map (·.size) = some 1:=by kernel_rfl
theorem run_makeU8 (n:Nat) (hn:n ≤ 1000000) (W:World):(Instr.makeSlice 66 (.int .i64 (n:Int)) (.int .i64 (n:Int))).run Tryz.prog W = .ok (.slice (some ⟨W.heap.size,0,none⟩) n n) (W.alloc (.cells (List.replicate n (Value.int .u8 0)).toArray TU8)):=by
  obtain ⟨i0,hi,hz0,hz1,hz2⟩:=info_parts infoU8
  have h:=run_make (P:=Tryz.prog) W 66 TU8 i0 _ Tryz.underlying66 hi hz0 .i64 .i64 n n (by omega) (Int.le_refl _) (by rw [hz2]; omega) (by omega)
  simp only [Int.toNat_natCast] at h
  rw [h,hz1]
  have:=made_rep (fun v:Value => [v]) (Value.int .u8 0) (Value.int .u8 0).cells rfl (by decide) n
  rw [show (Value.int .u8 0).cells.size = 1 from rfl] at this
  rw [this,show (List.replicate n (Value.int .u8 0)).flatMap (fun v => [v]) = List.replicate n (Value.int .u8 0) from by
    have:∀ l:List Value,l.flatMap (fun v => [v]) = l:=fun l => by induction l with
      | nil => rfl
      | cons a l ih => rw [List.flatMap_cons,ih]; rfl
    exact this _]
set_option maxRecDepth 100000 in
theorem new_big (w:World) (A:Option Addr) (n c:Nat) (h:4096 < n) (hn:n ≤ 1000000) :
    Calls Tryz.prog 85 #[.slice A n c] w fun e w' => e = .returned (.tuple #[.pointer none,.int .i64 8]) ∧ Fr [] w w':=by
  have h1:(4096:Int) < (n:Int):=by omega
  have HN:=Lib.hid hn
  clear h hn
  go_enter Tryz.func85,Tryz.ntmps85
  go_wp2_with fail
  exact bodyPost_ret (v:=.tuple #[.pointer none,.int .i64 8]) (by simp [results,Tryz.results85,go_sem]) rfl ⟨rfl,Fr.refl _ _⟩
set_option maxRecDepth 100000 in
set_option maxHeartbeats 800000 in
theorem new_any (E:List (Option Nat)) (w:World) (A:Option Addr) (n c:Nat) (s:List UInt8) (hE:Old E w) (hA:Sl w A (bts s)) (hn:n = s.length) (h:n ≤ 4096) :
    Calls Tryz.prog 85 #[.slice A n c] w (NewAns E w s):=by
  have h1:¬ (4096:Int) < (n:Int):=by omega
  have h2:(n:Int) ≤ 4096:=by omega
  have HMK:=run_makeU8 n (by omega)
  obtain ⟨Z,hZ⟩:∃ Z,Z = List.replicate n (Value.int .u8 0):=⟨_,rfl⟩
  rw [← hZ] at HMK
  have HZ:=Lib.hid hZ
  have HA:=Lib.hid hA
  have HN:=Lib.hid hn
  have HE:=Lib.hid hE
  clear hZ hA hn hE h
  go_enter Tryz.func85,Tryz.ntmps85
  have hB0:Blk ((w.alloc (.cells Z.toArray TU8)).alloc (.cells #[.slice (some ⟨w.heap.size,0,none⟩) n n] TAr)) w.heap.size TU8 Z.toArray:=(Blk.new w TU8 Z.toArray).alloc _
  go_wp2_with (with_reducible refine wpList_copyB rfl (.tmp 16) (.tmp 17) 66 66 rfl TU8 Tryz.underlying66 sizeU8 w.heap.size 0 n n A n c rfl rfl TU8 Z hB0 (bts s) n ?hm ?hn ?hsl ?hfit (bts_one s) ?_)
  case hm => rw [HN.out]; exact bts_len' s
  case hsl => exact HA.out.fr (((Fr.refl [] w).alloc _).alloc _) (.inr List.not_mem_nil)
  case hfit => rw [HZ.out]; simp
  intro w2 hb2 hf2
  have HB2:=Lib.hid hb2
  have HF2:=Lib.hid hf2
  clear hb2 hf2 hB0
  go_wp2_with fail
  have hb1:=Blk.new (w.alloc (.cells Z.toArray TU8)) TAr #[.slice (some ⟨w.heap.size,0,none⟩) n n]
  rw [show (w.alloc (.cells Z.toArray TU8)).heap.size = w.heap.size + 1 by simp] at hb1
  have hb3:=hb1.fr HF2.out (by simp)
  have hfr:Fr [] w w2:=(((Fr.refl [] w).alloc _).alloc _).seq HF2.out fun x hx => by rw [List.mem_singleton] at hx; exact .inr (.inr ⟨_,Nat.le_refl _,hx⟩)
  refine bodyPost_ret (v:=.tuple #[.pointer (some ⟨w.heap.size + 1,0,none⟩),.int .i64 0]) (by simp [results,Tryz.results85,go_sem]) rfl ⟨w.heap.size + 1,rfl,?_,hfr,Nat.le_succ _⟩
  have hcs:splice Z 0 (bts s) = bts s:=by
    rw [HZ.out]
    unfold splice
    rw [bts_len',HN.out]
    simp
  have hB:=HB2.out
  rw [hcs] at hB
  intro w'' hf
  refine ⟨some ⟨w.heap.size,0,none⟩,n,?_,?_,by rw [HN.out]; exact Nat.le_refl _⟩
  · rw [← HN.out]
    exact hb3.fr hf fun e => by have:=HE.out _ e; omega
  · have:=blk_sl (hB.fr hf fun e => by have:=HE.out _ e; omega) (bts s).length
    rwa [List.take_length] at this
end Go.Proofs.YtblafakafgediaaGreat
namespace Go.Proofs.YtblafakafgediaaGreat
open Go.RowKit Go.Proofs.Dm

set_option maxRecDepth 100000 in
set_option maxHeartbeats 800000 in
theorem right_yes (w:World) (g a n:Nat) (s:List UInt8) (h:ArAt g s w) (hs:a + n ≤ s.length) (hl:s.length ≤ 1000000) :
    Calls Tryz.prog 203 #[.pointer (some ⟨g,0,none⟩),.agg #[.int .i64 (a:Nat),.int .i64 (n:Nat)]] w fun e w' => e = .returned (.bool true) ∧ Fr [] w w':=by
  obtain ⟨A,c,h1,h2,h3⟩:=h
  obtain ⟨L,hL⟩:∃ L,L = s.length:=⟨_,rfl⟩
  rw [← hL] at h1 hs hl
  have HW:Hid (∀ W0,W0 = w.alloc (.cells #[.int .i64 (a:Nat),.int .i64 (n:Nat)] TSp) → Fr [] w W0 ∧ Blk W0 w.heap.size TSp #[.int .i64 (a:Nat),.int .i64 (n:Nat)] ∧ Blk W0 g TAr #[.slice A L c]):=by
    show ∀ _,_
    rintro W0 rfl
    exact ⟨(Fr.refl [] w).alloc _,Blk.new w TSp _,h1.alloc _⟩
  have i1:(0:Int) ≤ (a:Int):=by omega
  have i2:(0:Int) ≤ (n:Int):=by omega
  have i3:(a:Int) ≤ (L:Int):=by omega
  have i4:(n:Int) ≤ (L:Int) - (a:Int):=by omega
  have i5:(L:Int) ≤ 1000000:=by omega
  have d1:decide ((0:Int) ≤ (a:Int)) = true:=decide_eq_true i1
  have d2:decide ((0:Int) ≤ (n:Int)) = true:=decide_eq_true i2
  have d3:decide ((a:Int) ≤ (L:Int)) = true:=decide_eq_true i3
  have d4:decide ((n:Int) ≤ (L:Int) - (a:Int)) = true:=decide_eq_true i4
  have d5:IntKind.i64.wrap ((L:Int) - (a:Int)) = (L:Int) - (a:Int):=by rw [IntKind.wrap_i64]; omega
  clear h1 h2 h3 hL hs hl
  go_enter Tryz.func203,Tryz.ntmps203
  go_wp2_with fail
  obtain ⟨W0,hW0⟩:∃ W0,W0 = w.alloc (.cells #[.int .i64 (a:Nat),.int .i64 (n:Nat)] TSp):=⟨_,rfl⟩
  obtain ⟨k1,k2,k3⟩:=HW.out W0 hW0
  rw [← hW0]
  have HF:=Lib.hid k1
  have b0:W0.cell? ⟨w.heap.size,0,none⟩ = some (.int .i64 (a:Nat)):=k2.cell 0
  have b1:W0.cell? ⟨w.heap.size,1,none⟩ = some (.int .i64 (n:Nat)):=k2.cell 1
  have b2:W0.cell? ⟨g,0,none⟩ = some (.slice A L c):=k3.cell 0
  clear hW0 k1 k2 k3 HW
  go_quiet (fail)
  go_wp2_with fail
  go_ret
  exact ⟨rfl,HF.out.trans ((Fr.refl [] W0).drewN nq)⟩
theorem sl_part {w:World} {A:Option Addr} {cs:List Value} (h:Sl w A cs) (a n:Nat):Sl w (addA A a) ((cs.drop a).take n):=(h.drop a).take n
def PartAns (w:World) (s:List UInt8) (a n:Nat) (e:Ending) (w':World):Prop:=∃ A c,e = .returned (.slice A n c) ∧ Sl w' A (bts ((s.drop a).take n)) ∧ Fr [] w w'
set_option maxRecDepth 100000 in
set_option maxHeartbeats 800000 in
theorem part_yes (w:World) (g a n:Nat) (s:List UInt8) (h:ArAt g s w) (hs:a + n ≤ s.length) (hl:s.length ≤ 1000000) :
    Calls Tryz.prog 174 #[.pointer (some ⟨g,0,none⟩),.agg #[.int .i64 (a:Nat),.int .i64 (n:Nat)]] w (PartAns w s a n):=by
  have HR:Hid (∀ w',Fr [] w w' → Calls Tryz.prog 203 #[.pointer (some ⟨g,0,none⟩),.agg #[.int .i64 (a:Nat),.int .i64 (n:Nat)]] w' fun e w'' => e = .returned (.bool true) ∧ Fr [] w' w''):=by
    show ∀ _,_
    intro w' hf
    obtain ⟨A,c,h1,h2,h3⟩:=h
    exact right_yes w' g a n s ⟨A,c,h1.fr hf (by simp),h2.fr hf (.inr List.not_mem_nil),h3⟩ hs hl
  obtain ⟨A,c,h1,h2,h3⟩:=h
  obtain ⟨L,hL⟩:∃ L,L = s.length:=⟨_,rfl⟩
  rw [← hL] at h1 hs hl h3
  have HW:Hid (∀ W0,W0 = w.alloc (.cells #[.int .i64 (a:Nat),.int .i64 (n:Nat)] TSp) → Fr [] w W0 ∧ Blk W0 w.heap.size TSp #[.int .i64 (a:Nat),.int .i64 (n:Nat)] ∧ Blk W0 g TAr #[.slice A L c]):=by
    show ∀ _,_
    rintro W0 rfl
    exact ⟨(Fr.refl [] w).alloc _,Blk.new w TSp _,h1.alloc _⟩
  have HS:=Lib.hid h2
  have HL:=Lib.hid hL
  obtain ⟨q,hq⟩:∃ q,q = a + n:=⟨_,rfl⟩
  have q1:(a:Int) + (n:Int) = (q:Int):=by omega
  have q2:(q:Int) ≤ 1000000:=by omega
  have q3:(q:Int) ≤ (L:Int):=by omega
  have q4:(a:Int) ≤ (q:Int):=by omega
  have q5:(q:Int) ≤ (c:Int):=by omega
  have q6:(a:Int) ≤ (c:Int):=by omega
  have q7:IntKind.i64.wrap (q:Int) = (q:Int):=by rw [IntKind.wrap_i64]; omega
  have HQ:Hid (q = a + n ∧ q ≤ L ∧ L ≤ c):=⟨hq,by omega,h3⟩
  clear h1 h2 h3 hL hs hl hq
  go_enter Tryz.func174,Tryz.ntmps174
  go_wp2_with fail
  obtain ⟨W0,hW0⟩:∃ W0,W0 = w.alloc (.cells #[.int .i64 (a:Nat),.int .i64 (n:Nat)] TSp):=⟨_,rfl⟩
  obtain ⟨k1,k2,k3⟩:=HW.out W0 hW0
  rw [← hW0]
  refine (HR.out W0 k1).mono ?_
  rintro e w1 ⟨rfl,hf1⟩
  have HF:=Lib.hid (k1.trans hf1)
  have b0:w1.cell? ⟨w.heap.size,0,none⟩ = some (.int .i64 (a:Nat)):=(k2.fr hf1 (by simp)).cell 0
  have b1:w1.cell? ⟨w.heap.size,1,none⟩ = some (.int .i64 (n:Nat)):=(k2.fr hf1 (by simp)).cell 1
  have b2:w1.cell? ⟨g,0,none⟩ = some (.slice A L c):=(k3.fr hf1 (by simp)).cell 0
  clear hW0 k1 k2 k3 hf1 HW HR
  go_wp2_with fail
  have HEND:Hid ((∀ w',Fr [] w1 w' → PartAns w s a n (.returned (.slice (A.map fun x => x.add a) (q - a) (c - a))) w') ∧ (c = a → ∀ w',Fr [] w1 w' → PartAns w s a n (.returned (.slice A (q - a) 0)) w')):=by
    have hqn:q - a = n:=by have:=HQ.out; omega
    rw [hqn]
    refine ⟨fun w' hf => ⟨_,_,rfl,?_,HF.out.trans hf⟩,fun hc w' hf => ⟨_,_,rfl,?_,HF.out.trans hf⟩⟩
    · have:=(sl_part (HS.out.fr (HF.out.trans hf) (.inr List.not_mem_nil)) a n)
      rw [bts_take,bts_drop]
      exact this
    · have:n = 0:=by have:=HQ.out; omega
      subst this
      rw [List.take_zero]
      exact .inl rfl
  go_quiet (fail)
  go_wp2_with fail
  all_goals
    go_ret
    first
      | exact HEND.out.2 h _ ((Fr.refl [] w1).drewN nq)
      | exact HEND.out.1 _ ((Fr.refl [] w1).drewN nq)
def BytesAns (w:World) (l:List UInt8) (e:Ending) (w':World):Prop:=∃ (B:Option Addr) (n c:Nat),e = .returned (.slice B n c) ∧ n = l.length ∧ ORow w' TU8 1 B c n (bts l) ∧ Fr [] w w' ∧ ∀ j,bk B = some j → w.heap.size ≤ j
set_option maxRecDepth 100000 in
set_option maxHeartbeats 800000 in
theorem bytes_yes (w:World) (g a n:Nat) (s:List UInt8) (h:ArAt g s w) (hs:a + n ≤ s.length) (hl:s.length ≤ 1000000) :
    Calls Tryz.prog 121 #[.pointer (some ⟨g,0,none⟩),.agg #[.int .i64 (a:Nat),.int .i64 (n:Nat)]] w (BytesAns w ((s.drop a).take n)):=by
  have HP:Hid (∀ w',Fr [] w w' → Calls Tryz.prog 174 #[.pointer (some ⟨g,0,none⟩),.agg #[.int .i64 (a:Nat),.int .i64 (n:Nat)]] w' (PartAns w' s a n)):=by
    show ∀ _,_
    intro w' hf
    obtain ⟨A,c,h1,h2,h3⟩:=h
    exact part_yes w' g a n s ⟨A,c,h1.fr hf (by simp),h2.fr hf (.inr List.not_mem_nil),h3⟩ hs hl
  have HW:Hid (∀ W0,W0 = w.alloc (.cells #[.int .i64 (a:Nat),.int .i64 (n:Nat)] TSp) → Fr [] w W0):=by
    show ∀ _,_
    rintro W0 rfl
    exact (Fr.refl [] w).alloc _
  obtain ⟨l,hle⟩:∃ l,l = (s.drop a).take n:=⟨_,rfl⟩
  have hll:n = l.length:=by rw [hle,List.length_take,List.length_drop]; omega
  have n1:(n:Int) ≤ 1000000:=by omega
  have HMK:=run_makeU8 n (by omega)
  obtain ⟨Z,hZ⟩:∃ Z,Z = List.replicate n (Value.int .u8 0):=⟨_,rfl⟩
  rw [← hZ] at HMK
  have HZ:=Lib.hid hZ
  have HLE:=Lib.hid hle
  have HLL:=Lib.hid hll
  have HN1:Hid (n ≤ 1000000):=by show _ ≤ _; omega
  rw [← hle]
  clear h hs hl hle hll hZ
  go_enter Tryz.func121,Tryz.ntmps121
  go_wp2_with fail
  obtain ⟨W0,hW0⟩:∃ W0,W0 = w.alloc (.cells #[.int .i64 (a:Nat),.int .i64 (n:Nat)] TSp):=⟨_,rfl⟩
  have hF0:=HW.out W0 hW0
  rw [← hW0]
  refine (HP.out W0 hF0).mono ?_
  rintro e w1 ⟨A,c,rfl,hA,hf1⟩
  rw [← HLE.out] at hA
  have HF:=Lib.hid (hF0.trans hf1)
  have HA:=Lib.hid hA
  clear hW0 hF0 hf1 hA HW HP
  have hB0:Blk (w1.alloc (.cells Z.toArray TU8)) w1.heap.size TU8 Z.toArray:=Blk.new w1 TU8 Z.toArray
  go_wp2_with (with_reducible refine wpList_copyB rfl (.tmp 13) (.tmp 14) 66 66 rfl TU8 Tryz.underlying66 sizeU8 w1.heap.size 0 n n A n c rfl rfl TU8 Z hB0 (bts l) n ?hm ?hn ?hsl ?hfit (bts_one l) ?_)
  case hm => rw [HLL.out]; exact bts_len' l
  case hn => simp [Nat.min_self]
  case hsl => exact HA.out.fr ((Fr.refl [] w1).alloc _) (.inr List.not_mem_nil)
  case hfit => rw [HZ.out]; simp
  intro w2 hb2 hf2
  have HB2:=Lib.hid hb2
  have HF2:=Lib.hid hf2
  clear hb2 hf2 hB0
  go_wp2_with fail
  go_ret
  have hcs:splice Z 0 (bts l) = bts l:=by
    rw [HZ.out]
    unfold splice
    rw [bts_len',HLL.out]
    simp
  have hB:=HB2.out
  rw [hcs] at hB
  have hfr:Fr [] w w2:=HF.out.trans (((Fr.refl [] w1).alloc _).seq HF2.out fun x hx => by rw [List.mem_singleton] at hx; exact .inr (.inr ⟨_,Nat.le_refl _,hx⟩))
  exact ⟨some ⟨w1.heap.size,0,none⟩,n,n,rfl,HLL.out,blk_orow hB (by rw [bts_len',← HLL.out]; omega) (by have:=HN1.out; simp only [maxLen]; omega),hfr,fun j hj => by injection hj with hj; have:=HF.out.size; subst hj; exact this⟩
end Go.Proofs.YtblafakafgediaaGreat
namespace Go.Proofs.Dm
def atP (s:List UInt8) (P:List Nat):List UInt8:=P.map fun i => s.getD i 0
theorem atP_app (s:List UInt8) (a b:List Nat):atP s (a ++ b) = atP s a ++ atP s b:=by simp [atP]
theorem atP_len (s:List UInt8) (a:List Nat):(atP s a).length = a.length:=by simp [atP]
theorem atP_range (s:List UInt8):∀ (n a:Nat),a + n ≤ s.length → atP s (List.range' a n) = (s.drop a).take n
  | 0,a,_ => by simp [atP]
  | n + 1,a,h => by
    have ih:=atP_range s n (a + 1) (by omega)
    rw [List.range'_succ,List.drop_eq_getElem_cons (show a < s.length by omega),List.take_succ_cons,← ih]
    show s.getD a 0 :: _ = _
    congr 1
    rw [List.getD_eq_getElem?_getD,List.getElem?_eq_getElem (show a < s.length by omega)]; rfl
end Go.Proofs.Dm
namespace Go.Proofs.YtblafakafgediaaGreat
open Go.RowKit Go.Proofs.Dm

structure BS (w0 w:World) (B:Option Addr) (c n:Nat) (l:List UInt8):Prop where
  own:ORow w TU8 1 B c n (bts l)
  ln:n = l.length
  fr:Fr [] w0 w
  nw:∀ j,bk B = some j → w0.heap.size ≤ j
section
variable {w0 w w':World} {B:Option Addr} {c n:Nat} {l:List UInt8}
theorem BS.fr0 (h:BS w0 w B c n l) (hf:Fr [] w w'):BS w0 w' B c n l:=⟨ORow.fr h.own hf (.inr List.not_mem_nil),h.ln,h.fr.trans hf,h.nw⟩
theorem BS.start (w:World):BS w w none 0 0 []:=⟨ORow.nil_ _ _ _,rfl,Fr.refl _ _,fun j hj => by cases hj⟩
theorem BS.app {wa w5:World} {B2:Option Addr} {c2 m:Nat} {k:List UInt8} (h:BS w0 w B c n l) (hfa:Fr [] w wa) (hm:m = k.length) (hr:ORow w5 TU8 1 B2 c2 (n + m) (bts l ++ bts k)) (hg:Fr [bk B] wa w5) (hb:bk B2 = bk B ∨ bk B2 = some wa.heap.size):BS w0 w5 B2 c2 (n + m) (l ++ k):=by
  refine ⟨by rw [bts_app]; exact hr,by rw [List.length_append,h.ln,hm],(h.fr.trans hfa).seq hg fun x hx => ?_,fun j hj => ?_⟩
  · rw [List.mem_singleton] at hx
    subst hx
    cases hB:bk B with
    | none => exact .inr (.inl rfl)
    | some j => exact .inr (.inr ⟨j,h.nw j hB,rfl⟩)
  · rcases hb with hb | hb
    · exact h.nw j (hb ▸ hj)
    · rw [hb] at hj; injection hj with hj; have:=h.fr.size; have:=hfa.size; omega
theorem BS.ans (h:BS w0 w B c n l):BytesAns w0 l (.returned (.slice B n c)) w:=⟨B,n,c,rfl,h.ln,h.own,h.fr,h.nw⟩
end
theorem ArAt.fr0 {g:Nat} {s:List UInt8} {w w':World} (h:ArAt g s w) (hf:Fr [] w w'):ArAt g s w':=by
  obtain ⟨A,c,h1,h2,h3⟩:=h
  exact ⟨A,c,h1.fr hf (by simp),h2.fr hf (.inr List.not_mem_nil),h3⟩
set_option maxRecDepth 100000 in
set_option maxHeartbeats 1600000 in
theorem flat_any (w:World) (g m d q:Nat) (B:Option Addr) (sp:List (Nat × Nat)) (s:List UInt8) (ha:ArAt g s w) (hB:Sl w B (spc sp)) (hm:m = sp.length) (hs:∀ x ∈ sp,1 ≤ x.2 ∧ x.1 + x.2 ≤ s.length) (hp:(plc sp).length ≤ 1000000) (hl:s.length ≤ 1000000) :
    Calls Tryz.prog 173 #[.agg #[.slice B m d,.int .i64 (q:Nat)],.pointer (some ⟨g,0,none⟩)] w (BytesAns w (atP s (plc sp))):=by
  have HA:=Lib.hid ha
  have HB:=Lib.hid hB
  have HS:=Lib.hid hs
  have HP:=Lib.hid hp
  have HL:=Lib.hid hl
  have HM:=Lib.hid hm
  have hm1:(m:Int) ≤ 1000000:=by have:=plc_len sp fun x hx => (hs x hx).1; omega
  clear ha hB hs hp hl hm
  go_enter Tryz.func173,Tryz.ntmps173
  go_wp2_with fail
  have HF0:Hid (Fr [] w (w.alloc (.cells #[.slice B m d,.int .i64 (q:Nat)] TTx))):=(Fr.refl [] w).alloc _
  obtain ⟨W0,hW0⟩:∃ W0,W0 = w.alloc (.cells #[.slice B m d,.int .i64 (q:Nat)] TTx):=⟨_,rfl⟩
  rw [← hW0] at HF0 ⊢
  clear hW0
  go_loopw [11,5] (fun iv ov wr => ∃ (j:Nat) (C:Option Addr) (c n:Nat),iv = .int .i64 j ∧ ov = .slice C n c ∧ j ≤ m ∧ Hid (BS w wr C c n (atP s (plc (sp.take j))))) (fun iv _ _ => m - (intOf iv).toNat)
  case atStart => exact ⟨0,none,0,0,rfl,rfl,Nat.zero_le _,(BS.start w).fr0 HF0.out⟩
  case round =>
    obtain ⟨j,C,c,n,rfl,rfl,hj,HBS⟩:=hrel
    by_cases hlt:j < m
    · have hjl:j < sp.length:=by rw [← HM.out]; exact hlt
      obtain ⟨bd,rfl,e0,e1⟩:=sl_elem (f:=sp2) (sz:=2) (fun _ => rfl) (HB.out.fr HBS.out.fr (.inr List.not_mem_nil)) hjl (by omega)
      obtain ⟨⟨f,k⟩,hfk⟩:∃ x,x = sp[j]:=⟨_,rfl⟩
      rw [← hfk] at e0 e1
      have c0:wr.cell? (bd.add (j * 2)) = some (.int .i64 (f:Nat)):=e0 _ rfl
      have c1:wr.cell? ⟨(bd.add (j * 2)).block,(bd.add (j * 2)).off + 1,none⟩ = some (.int .i64 (k:Nat)):=e1 0 _ rfl
      have hb:=HS.out _ (List.getElem_mem hjl)
      rw [← hfk] at hb
      have htk:atP s (plc (sp.take (j + 1))) = atP s (plc (sp.take j)) ++ (s.drop f).take k:=by
        rw [List.take_succ_eq_append_getElem hjl,← hfk,plc_app,plc_one,atP_app,atP_range s k f hb.2]
      have hnk:n + k ≤ 1000000:=by
        have h1:=congrArg List.length htk
        have h2:(plc sp).length = (plc (sp.take (j + 1))).length + (plc (sp.drop (j + 1))).length:=by rw [← List.length_append,← plc_app,List.take_append_drop]
        rw [atP_len,List.length_append,List.length_take,List.length_drop,← HBS.out.ln] at h1
        have:=HP.out
        omega
      have HK:Hid (k = ((s.drop f).take k).length):=by show _ = _; rw [List.length_take,List.length_drop]; omega
      have HTK:=Lib.hid htk
      have HNK:=Lib.hid hnk
      have HC:Hid (∀ w',Fr [] wr w' → Calls Tryz.prog 121 #[.pointer (some ⟨g,0,none⟩),.agg #[.int .i64 (f:Nat),.int .i64 (k:Nat)]] w' (BytesAns w' ((s.drop f).take k))):=by
        show ∀ _,_
        intro w' hf
        exact bytes_yes w' g f k s (HA.out.fr0 (HBS.out.fr.trans hf)) hb.2 HL.out
      clear e0 e1 hfk hjl hb htk hnk
      have HFA:Hid (Fr [] wr (wr.alloc (.cells #[.int .i64 (f:Nat),.int .i64 (k:Nat)] TSp))):=(Fr.refl [] wr).alloc _
      go_wp2_with fail
      refine (HC.out _ HFA.out).mono ?_
      rintro e w2 ⟨B2,k2,d2,rfl,hk2,ho2,hf2,hn2⟩
      obtain rfl:k = k2:=by rw [hk2]; exact HK.out
      have HBS2:=Lib.hid (HBS.out.fr0 (HFA.out.trans hf2))
      have HO2:=Lib.hid (ORow.sl ho2)
      clear hk2 ho2 hf2 hn2 HC HFA c0 c1
      go_wp2_with (at_builtin; go_must (
        refine wpList_app _ rfl _ _ 66 TU8 rfl (Value.int .u8 0) 1 1 Tryz.underlying66 infoU8 rfl (by decide) C c n (bts (atP s (plc (sp.take j)))) rfl HBS2.out.own B2 k d2 (bts ((s.drop f).take k)) rfl (by rw [bts_len,← HK.out]) HO2.out (bts_one _) (by have:=HNK.out; simp only [maxLen]; omega) (by have:=HNK.out; omega) ?_
        intro A5 c5 w5 hr5 hg5 hb5
        have HN5:Hid (BS w w5 A5 c5 (n + k) (atP s (plc (sp.take (j + 1))))):=by
          rw [HTK.out]
          exact HBS2.out.app (Fr.refl _ _) HK.out hr5 hg5 hb5
        clear hr5 hg5 hb5))
      go_roundw
      case rel => exact ⟨j + 1,A5,c5,n + k,by go_num,by simp,by omega,HN5.out⟩
      case measure => simp [intOf]; omega
    · obtain rfl:j = m:=by omega
      have HEND:Hid (BytesAns w (atP s (plc sp)) (.returned (.slice C n c)) wr):=by
        have h:=HBS.out.ans
        rw [HM.out,List.take_length] at h
        exact h
      go_wp2_with fail
      go_ret
      exact HEND.out
end Go.Proofs.YtblafakafgediaaGreat
namespace Go.Proofs.YtblafakafgediaaGreat
open Go.RowKit Go.Proofs.Dm

theorem BS.made {w W:World} {R n:Nat} {Z:Array Value} (hf:Fr [] w W) (hb:Blk W R TU8 Z) (hz:Z.size = n) (hn:n ≤ 10000000) (hR:w.heap.size ≤ R):BS w W (some ⟨R,0,none⟩) n 0 []:=by
  exact ⟨⟨rfl,.inr ⟨R,n,Z,rfl,Nat.zero_le _,hb,Nat.zero_le _,by simp only [maxLen]; omega,by omega,by simp [bts]⟩⟩,rfl,hf,fun j hj => by injection hj with hj; subst hj; exact hR⟩
end Go.Proofs.YtblafakafgediaaGreat
