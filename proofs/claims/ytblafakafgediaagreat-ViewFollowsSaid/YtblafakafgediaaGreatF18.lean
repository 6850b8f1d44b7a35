import Derived.Test.YtblafakafgediaaGreatF16
import Derived.Deep.RegionHeld3
import Derived.IntWalk
namespace Go.Proofs.YtblafakafgediaaGreat
open Go.RowKit Go.Proofs.Dm

theorem ptrs_fst_app (a b:List (Nat × List RV)):ptrs ((a ++ b).map (·.1)) = ptrs (a.map (·.1)) ++ ptrs (b.map (·.1)):=by rw [List.map_append,ptrs_app]
theorem splice_ks (A B:Option Addr) (c d i j:Nat) (ks gl:List (Nat × List RV)) (w:World) (hs:Sl w A (ptrs (ks.map (·.1)))) (hw:Sl w B (ptrs (gl.map (·.1)))) (hi:i ≤ ks.length) (hj:j ≤ ks.length) (hc:ks.length ≤ c) (hn:ks.length ≤ 10000) (hm:gl.length ≤ 10000) :
    Calls Tryz.prog 204 #[.slice A ks.length c,.int .i64 (i:Int),.int .i64 (j:Int),.slice B gl.length d] w (NewRow w 29 1 (ks.take i ++ gl ++ ks.drop j).length (ptrs ((ks.take i ++ gl ++ ks.drop j).map (·.1)))):=by
  have:=splice_N A B ks.length c gl.length d i j (ptrs (ks.map (·.1))) (ptrs (gl.map (·.1))) w hs (by rw [ptrs_len,List.length_map,Nat.mul_one]) (ptrs_one _) hw (by rw [ptrs_len,List.length_map,Nat.mul_one]) (ptrs_one _) hi hj hc hn hm
  rw [ptrs_fst_app,ptrs_fst_app,List.map_take,List.map_drop,ptrs_take,ptrs_drop]
  simpa [Nat.min_eq_left hi,Nat.add_assoc] using this
def NodeAns (E:List (Option Nat)) (w:World) (h lo:Nat) (xs:List RV) (en:Ending) (w':World):Prop:=∃ g,en = .returned (.pointer (some ⟨g,0,none⟩)) ∧ NodeAt TN E w' h lo g xs ∧ Fr [] w w'
theorem inner_node (E:List (Option Nat)) (h lo:Nat) (A:Option Addr) (c:Nat) (ks:List (Nat × List RV)) (w:World) (hE:Old E w) (hs:Kp E w fun w => Sl w A (ptrs (ks.map (·.1)))) (hc:ks.length ≤ c) (hN:NodesAt TN E w h 3 ks) (hlo:lo ≤ ks.length) (h1:1 ≤ ks.length) (h6:ks.length ≤ 6) (hsm:(allOf ks).length ≤ 1000000) :
    Calls Tryz.prog 208 #[.slice A ks.length c] w (NodeAns E w (h + 1) lo (allOf ks)):=by
  refine (inner_any A c ks w hs.now (fun k hk => (hN k hk).cell2) (by rw [sumOf_eq]; exact hsm) (by omega)).mono ?_
  rintro e w' ⟨h1',h2,h3⟩
  rw [sumOf_eq] at h2
  exact ⟨_,h1',⟨ks,A,c,hlo,h1,h6,rfl,hc,(Kp.blk h2 (hE.new (Nat.le_refl _))).and (hs.fr0 h3),hN.fr0 h3⟩,h3⟩
theorem kp_new {E:List (Option Nat)} {w w':World} {A:Option Addr} {cs:List Value} (hE:Old E w) (hs:Sl w' A cs) (hA:∀ j,bk A = some j → w.heap.size ≤ j):Kp E w' fun w => Sl w A cs:=Kp.sl hs (hE.newA hA)
end Go.Proofs.YtblafakafgediaaGreat
namespace Go.Proofs.YtblafakafgediaaGreat
open Go.RowKit Go.Proofs.Dm

theorem allOf_one (k:Nat × List RV):allOf [k] = k.2:=by simp [allOf]
end Go.Proofs.YtblafakafgediaaGreat
namespace Go.Proofs.YtblafakafgediaaGreat
open Go.RowKit Go.Proofs.Dm

def TreeOk (E:List (Option Nat)) (w:World) (xs:List RV) (ok:Bool) (en:Ending) (w':World):Prop:=∃ p,en = .returned (.tuple #[.agg #[.pointer p],.bool ok]) ∧ TreeAt TN E w' p xs ∧ Fr [] w w'
theorem old_box1 {E:List (Option Nat)} {w:World} (h:Old E w) {wr:World} (hf:Fr [] w wr) {b:Nat} (hl:b < wr.heap.size):Old (some b :: E) wr:=fun k hk => by
  rcases List.mem_cons.1 hk with h' | h'
  · injection h' with h'; omega
  · have:=h k h'; have:=hf.size; omega
end Go.Proofs.YtblafakafgediaaGreat
