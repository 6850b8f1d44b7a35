import Derived.Test.YtgmnjbnlfpopgaaG8
import Derived.IntWalk
namespace Go.Proofs.Ytgmnjbnlfpopgaa
open Go.RowKit Go.Proofs.Dm

def puts (l : List Int) : List Int := l.foldl putP []
theorem puts_snoc (l : List Int) (x : Int) : puts (l ++ [x]) = putP (puts l) x := by simp [puts]
theorem puts_len (l : List Int) : (puts l).length ≤ l.length := by
  have key : ∀ (l S : List Int), (l.foldl putP S).length ≤ S.length + l.length := by
    intro l
    induction l with
    | nil => intro S; simp
    | cons x l ih =>
      intro S
      have h1 := ih (putP S x)
      have h2 := putP_len S x
      simp only [List.foldl_cons, List.length_cons]
      omega
  have := key l []
  simpa [puts] using this
theorem wh_nil : Wh [] [] := ⟨fun i hi => by simp at hi, fun k _ => rfl, List.nodup_nil⟩
theorem run_mkmap (w : World) : (Instr.makeMap 57 none).run Try.prog w = .ok (.map (some w.heap.size)) (w.alloc (.map #[] 0)) := by kernel_rfl
def NewAns (w : World) (S : List Int) (e : Ending) (w' : World) : Prop := ∃ g r, e = .returned (.pointer (some ⟨g, 0, none⟩)) ∧ QAt (· < w.heap.size) w w' g r S
set_option maxRecDepth 100000 in
theorem new_at (A : Option Addr) (c : Nat) (xs : List Int) (w : World) (hs : Sl w A (ints xs)) (hl : xs.length ≤ 1000) :
    Calls Try.prog 23 #[.slice A xs.length c] w (NewAns w (puts xs)) := by
  have hq0 : QAt (· < w.heap.size) w ((w.alloc (.map #[] 0)).alloc (.cells #[.slice none 0 0, .map (some w.heap.size)] 61)) (w.heap.size + 1) w.heap.size (puts ([] : List Int)) := by
    refine ⟨[], ⟨(FrU.refl _ w (fun k hk => hk)).alloc _ |>.alloc _, by simp, by simp, by omega, List.nodup_nil, by simp, none, 0, [], [], 0, ?_, IRow.nil_ _ _, ⟨by simp [bk], by simp [bk], by simp [bk]⟩, ?_, wh_nil⟩, ?_, List.Perm.refl _, List.Pairwise.nil⟩
    · have := Blk.new (w.alloc (.map #[] 0)) 61 #[.slice none 0 0, .map (some w.heap.size)]
      simpa using this
    · exact (MapB.made w).fr ((Fr.refl [] _).alloc _) (by simp)
    · intro k h0 hk; simp at hk
  have H0 := Lib.hid hq0
  clear hq0
  have hmk := run_mkmap w
  go_enter Try.func23, Try.ntmps23
  go_wp2_with fail
  clear hmk
  obtain ⟨wq, hwq⟩ : ∃ wq, wq = (w.alloc (.map #[] 0)).alloc (.cells #[.slice none 0 0, .map (some w.heap.size)] 61) := ⟨_, rfl⟩
  have H1 : Hid (QAt (· < w.heap.size) w wq (w.heap.size + 1) w.heap.size (puts [])) := by rw [hwq]; exact H0.out
  obtain ⟨g, hg⟩ : ∃ g, g = w.heap.size + 1 := ⟨_, rfl⟩
  rw [← hg] at H1
  obtain ⟨r, hr⟩ : ∃ r, r = w.heap.size := ⟨_, rfl⟩
  have H2 : Hid (∀ (S : List Int) (w' : World), QAt (· < w.heap.size) w w' g r S → NewAns w S (.returned (.pointer (some ⟨g, 0, none⟩))) w') := by
    show ∀ _, _
    intro S w' hq
    exact ⟨g, r, rfl, hq⟩
  have H3 : Hid (QAt (· < w.heap.size) w wq g r (puts [])) := by rw [hr]; exact H1.out
  rw [← hwq]
  rw [← hg]
  clear hwq hg hr H0 H1
  go_loopw [12] (fun iv wr => ∃ q : Nat, iv = .int .i64 q ∧ q ≤ xs.length ∧ Hid (QAt (· < w.heap.size) w wr g r (puts (xs.take q)))) (fun iv _ => xs.length - (intOf iv).toNat)
  case atStart => exact ⟨0, rfl, Nat.zero_le _, H3⟩
  case round =>
    obtain ⟨q, rfl, hq, HQ⟩ := hrel
    by_cases hlt : q < xs.length
    · obtain ⟨ad, rfl, hcell⟩ := sl_ints (hs.fr HQ.out.fru.fr (.inr List.not_mem_nil)) hlt
      have hpl := puts_len (xs.take q)
      rw [List.length_take] at hpl
      have hput := put_at _ w wr g r _ (xs.getD q 0) HQ.out (by omega)
      rw [← puts_snoc, ← take_snoc xs q hlt] at hput
      obtain ⟨x, hx⟩ : ∃ x, x = xs.getD q 0 := ⟨_, rfl⟩
      rw [← hx] at hcell hput
      have HP := Lib.hid hput
      clear hput hx hpl hs HQ
      go_wp2_with fail
      refine HP.out.mono ?_
      rintro e w2 ⟨rfl, hq2⟩
      have HQ2 := Lib.hid hq2
      clear hq2 HP
      go_wp2_with fail
      go_roundw
      case rel => exact ⟨q + 1, by go_num, by omega, HQ2⟩
      case measure => simp [intOf]; omega
    · obtain rfl : q = xs.length := by omega
      rw [List.take_length] at HQ
      go_wp2_with fail
      go_ret
      exact H2.out _ _ HQ.out
end Go.Proofs.Ytgmnjbnlfpopgaa
