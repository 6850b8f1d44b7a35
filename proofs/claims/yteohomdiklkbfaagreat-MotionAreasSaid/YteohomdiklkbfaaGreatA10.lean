import Derived.Test.YteohomdiklkbfaaGreatA09
import Derived.Test.YteohomdiklkbfaaGreatA02
import Derived.BigQuiet
namespace Go.Proofs.YteohomdiklkbfaaGreat
open Go.RowKit Go.Proofs.Dm

abbrev TAr:TypeId:=177
abbrev TU8:TypeId:=5
def ArAt (g:Nat) (s:List UInt8) (w:World):Prop:=∃ (A:Option Addr) (c:Nat),Blk w g TAr #[.slice A s.length c] ∧ Sl w A (bts s) ∧ s.length ≤ c
def NewAns (E:List (Option Nat)) (w:World) (s:List UInt8) (e:Ending) (w':World):Prop :=
  ∃ g,e = .returned (.tuple #[.pointer (some ⟨g,0,none⟩),.int .i64 0]) ∧ Kp E w' (ArAt g s) ∧ Fr [] w w' ∧ w.heap.size ≤ g
theorem infoU8:(Tryz.prog.info? TU8).map (fun i => (i.zero,i.size,i.bytes)) = some (some (Value.int .u8 0),1,1):=by kernel_rfl
theorem sizeU8:(Tryz.prog.info? TU8).map (·.size) = some 1:=by kernel_rfl
theorem run_makeU8 (n:Nat) (hn:n ≤ 1000000) (W:World):(Instr.makeSlice 93 (.int .i64 (n:Int)) (.int .i64 (n:Int))).run Tryz.prog W = .ok (.slice (some ⟨W.heap.size,0,none⟩) n n) (W.alloc (.cells (List.replicate n (Value.int .u8 0)).toArray TU8)):=by
  obtain ⟨i0,hi,hz0,hz1,hz2⟩:=info_parts infoU8
  have h:=run_make (P:=Tryz.prog) W 93 TU8 i0 _ Tryz.underlying93 hi hz0 .i64 .i64 n n (by omega) (Int.le_refl _) (by rw [hz2]; omega) (by omega)
  simp only [Int.toNat_natCast] at h
  rw [h,hz1]
  have:=made_rep (fun v:Value => [v]) (Value.int .u8 0) (Value.int .u8 0).cells rfl (by decide) n
  rw [show (Value.int .u8 0).cells.size = 1 from rfl] at this
  rw [this,show (List.replicate n (Value.int .u8 0)).flatMap (fun v => [v]) = List.replicate n (Value.int .u8 0) from by
    have:∀ l:List Value,l.flatMap (fun v => [v]) = l:=fun l => by induction l with
      | nil => rfl
      | cons a l ih => rw [List.flatMap_cons,ih]; rfl
    exact this _]
set_option maxRecDepth 100000 in
theorem new_big (w:World) (A:Option Addr) (n c:Nat) (h:4096 < n) (hn:n ≤ 1000000) :
    Calls Tryz.prog 54 #[.slice A n c] w fun e w' => e = .returned (.tuple #[.pointer none,.int .i64 8]) ∧ Fr [] w w':=by
  have h1:(4096:Int) < (n:Int):=by omega
  have HN:=Lib.hid hn
  clear h hn
  go_enter Tryz.func54,Tryz.ntmps54
  go_wp2_with fail
  exact bodyPost_ret (v:=.tuple #[.pointer none,.int .i64 8]) (by simp [results,Tryz.results54,go_sem]) rfl ⟨rfl,Fr.refl _ _⟩
set_option maxRecDepth 100000 in
set_option maxHeartbeats 800000 in
theorem new_any (E:List (Option Nat)) (w:World) (A:Option Addr) (n c:Nat) (s:List UInt8) (hE:Old E w) (hA:Sl w A (bts s)) (hn:n = s.length) (h:n ≤ 4096) :
    Calls Tryz.prog 54 #[.slice A n c] w (NewAns E w s):=by
  have h1:¬ (4096:Int) < (n:Int):=by omega
  have h2:(n:Int) ≤ 4096:=by omega
  have HMK:=run_makeU8 n (by omega)
  obtain ⟨Z,hZ⟩:∃ Z,Z = List.replicate n (Value.int .u8 0):=⟨_,rfl⟩
  rw [← hZ] at HMK
  have HZ:=Lib.hid hZ
  have HA:=Lib.hid hA
  have HN:=Lib.hid hn
  have HE:=Lib.hid hE
  clear hZ hA hn hE h
  go_enter Tryz.func54,Tryz.ntmps54
  have hB0:Blk ((w.alloc (.cells Z.toArray TU8)).alloc (.cells #[.slice (some ⟨w.heap.size,0,none⟩) n n] TAr)) w.heap.size TU8 Z.toArray:=(Blk.new w TU8 Z.toArray).alloc _
  go_wp2_with (with_reducible refine wpList_copyB rfl (.tmp 16) (.tmp 17) 93 93 rfl TU8 Tryz.underlying93 sizeU8 w.heap.size 0 n n A n c rfl rfl TU8 Z hB0 (bts s) n ?hm ?hn ?hsl ?hfit (bts_one s) ?_)
  case hm => rw [HN.out]; exact bts_len' s
  case hsl => exact HA.out.fr (((Fr.refl [] w).alloc _).alloc _) (.inr List.not_mem_nil)
  case hfit => rw [HZ.out]; simp
  intro w2 hb2 hf2
  have HB2:=Lib.hid hb2
  have HF2:=Lib.hid hf2
  clear hb2 hf2 hB0
  go_wp2_with fail
  have hb1:=Blk.new (w.alloc (.cells Z.toArray TU8)) TAr #[.slice (some ⟨w.heap.size,0,none⟩) n n]
  rw [show (w.alloc (.cells Z.toArray TU8)).heap.size = w.heap.size + 1 by simp] at hb1
  have hb3:=hb1.fr HF2.out (by simp)
  have hfr:Fr [] w w2:=(((Fr.refl [] w).alloc _).alloc _).seq HF2.out fun x hx => by rw [List.mem_singleton] at hx; exact .inr (.inr ⟨_,Nat.le_refl _,hx⟩)
  refine bodyPost_ret (v:=.tuple #[.pointer (some ⟨w.heap.size + 1,0,none⟩),.int .i64 0]) (by simp [results,Tryz.results54,go_sem]) rfl ⟨w.heap.size + 1,rfl,?_,hfr,Nat.le_succ _⟩
  have hcs:splice Z 0 (bts s) = bts s:=by
    rw [HZ.out]
    unfold splice
    rw [bts_len',HN.out]
    simp
  have hB:=HB2.out
  rw [hcs] at hB
  intro w'' hf
  refine ⟨some ⟨w.heap.size,0,none⟩,n,?_,?_,by rw [HN.out]; exact Nat.le_refl _⟩
  · rw [← HN.out]
    exact hb3.fr hf fun e => by have:=HE.out _ e; omega
  · have:=blk_sl (hB.fr hf fun e => by have:=HE.out _ e; omega) (bts s).length
    rwa [List.take_length] at this
end Go.Proofs.YteohomdiklkbfaaGreat
namespace Go.Proofs.YteohomdiklkbfaaGreat
open Go.RowKit Go.Proofs.Dm

end Go.Proofs.YteohomdiklkbfaaGreat
namespace Go.Proofs.Dm
def atP (s:List UInt8) (P:List Nat):List UInt8:=P.map fun i => s.getD i 0
theorem atP_app (s:List UInt8) (a b:List Nat):atP s (a ++ b) = atP s a ++ atP s b:=by simp [atP]
theorem atP_len (s:List UInt8) (a:List Nat):(atP s a).length = a.length:=by simp [atP]
end Go.Proofs.Dm
namespace Go.Proofs.YteohomdiklkbfaaGreat
open Go.RowKit Go.Proofs.Dm

structure BS (w0 w:World) (B:Option Addr) (c n:Nat) (l:List UInt8):Prop where
  own:ORow w TU8 1 B c n (bts l)
  ln:n = l.length
  fr:Fr [] w0 w
  nw:∀ j,bk B = some j → w0.heap.size ≤ j
section
variable {w0 w w':World} {B:Option Addr} {c n:Nat} {l:List UInt8}
theorem BS.fr0 (h:BS w0 w B c n l) (hf:Fr [] w w'):BS w0 w' B c n l:=⟨ORow.fr h.own hf (.inr List.not_mem_nil),h.ln,h.fr.trans hf,h.nw⟩
theorem BS.start (w:World):BS w w none 0 0 []:=⟨ORow.nil_ _ _ _,rfl,Fr.refl _ _,fun j hj => by cases hj⟩
theorem BS.app {wa w5:World} {B2:Option Addr} {c2 m:Nat} {k:List UInt8} (h:BS w0 w B c n l) (hfa:Fr [] w wa) (hm:m = k.length) (hr:ORow w5 TU8 1 B2 c2 (n + m) (bts l ++ bts k)) (hg:Fr [bk B] wa w5) (hb:bk B2 = bk B ∨ bk B2 = some wa.heap.size):BS w0 w5 B2 c2 (n + m) (l ++ k):=by
  refine ⟨by rw [bts_app]; exact hr,by rw [List.length_append,h.ln,hm],(h.fr.trans hfa).seq hg fun x hx => ?_,fun j hj => ?_⟩
  · rw [List.mem_singleton] at hx
    subst hx
    cases hB:bk B with
    | none => exact .inr (.inl rfl)
    | some j => exact .inr (.inr ⟨j,h.nw j hB,rfl⟩)
  · rcases hb with hb | hb
    · exact h.nw j (hb ▸ hj)
    · rw [hb] at hj; injection hj with hj; have:=h.fr.size; have:=hfa.size; omega
end
theorem ArAt.fr0 {g:Nat} {s:List UInt8} {w w':World} (h:ArAt g s w) (hf:Fr [] w w'):ArAt g s w':=by
  obtain ⟨A,c,h1,h2,h3⟩:=h
  exact ⟨A,c,h1.fr hf (by simp),h2.fr hf (.inr List.not_mem_nil),h3⟩
end Go.Proofs.YteohomdiklkbfaaGreat
namespace Go.Proofs.YteohomdiklkbfaaGreat
open Go.RowKit Go.Proofs.Dm

theorem BS.made {w W:World} {R n:Nat} {Z:Array Value} (hf:Fr [] w W) (hb:Blk W R TU8 Z) (hz:Z.size = n) (hn:n ≤ 10000000) (hR:w.heap.size ≤ R):BS w W (some ⟨R,0,none⟩) n 0 []:=by
  exact ⟨⟨rfl,.inr ⟨R,n,Z,rfl,Nat.zero_le _,hb,Nat.zero_le _,by simp only [maxLen]; omega,by omega,by simp [bts]⟩⟩,rfl,hf,fun j hj => by injection hj with hj; subst hj; exact hR⟩
end Go.Proofs.YteohomdiklkbfaaGreat
