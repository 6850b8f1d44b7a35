import Derived.Test.YteohomdiklkbfaaGreatA01
import Derived.Lib.ConvBytes
import Derived.Laws.BytesArg
import Derived.Laws.CopyOwn
import Derived.Lib.AppendZeros
/-!
Rows of bytes: '[]byte(s)','string(b)'.
-/
namespace Go.Proofs.Dm
open Go.RowKit

def bts (l:List UInt8):List Value:=l.map fun b => Value.int .u8 (b.toNat:Int)
theorem bts_len' (l:List UInt8):(bts l).length = l.length:=by simp [bts]
theorem bts_one (l:List UInt8):∀ u ∈ bts l,u.oneCell' = true:=by
  intro u hu
  simp only [bts,List.mem_map] at hu
  obtain ⟨x,_,rfl⟩:=hu
  rfl
theorem bts_app (a b:List UInt8):bts (a ++ b) = bts a ++ bts b:=by simp [bts]
theorem bts_get (l:List UInt8) (j:Nat) (h:j < l.length):(bts l)[j]? = some (.int .u8 (l[j].toNat:Int)):=by simp [bts,h]
theorem sl_bts {w:World} {A:Option Addr} {l:List UInt8} (h:Sl w A (bts l)) {j:Nat} (hj:j < l.length):∃ ad,A = some ad ∧ w.cell? (ad.add j) = some (.int .u8 (l[j].toNat:Int)):=by
  obtain ⟨ad,hA,_,hc⟩:=h.at_ (bts_get l j hj)
  exact ⟨ad,hA,hc⟩
theorem run_bytes {P:Program} (w:World) (src dst e:TypeId) (s:ByteArray) (hs:P.underlying src = some .string) (hd:P.underlying dst = some (.slice e)) (he:P.underlying e = some (.int .u8)) :
    ∃ c w',(convert src dst (.string s)).run P w = .ok (.slice (some ⟨w.heap.size,0,none⟩) s.size c) w' ∧ Fr [] w w' ∧ Sl w' (some ⟨w.heap.size,0,none⟩) (bts s.data.toList) ∧ s.size ≤ c ∧ w'.heap.size = w.heap.size + 1:=by
  refine ⟨_,_,Lib.run_convert_string_bytes w src dst e s hs hd he,⟨rfl,?_,rfl,?_,fun k hk _ => Lib.bytesWorld_at_old w e s k hk⟩,.inr ⟨_,rfl,fun j u hu => ?_⟩,?_,Lib.bytesWorld_size w e s⟩
  · rfl
  · rw [Lib.bytesWorld_size]; omega
  · have ha:(⟨w.heap.size,0,none⟩:Addr).add j = ⟨w.heap.size,j,none⟩:=by unfold Addr.add; split <;> simp_all
    have hj:j < s.data.toList.length:=by
      rcases Nat.lt_or_ge j s.data.toList.length with h | h
      · exact h
      · rw [List.getElem?_eq_none (by simpa [bts] using h)] at hu; cases hu
    rw [bts_get _ j hj] at hu
    injection hu with hu
    subst hu
    rw [ha,Lib.bytesWorld_cell w e s j (by rw [Array.length_toList] at hj; exact hj)]
    rw [show s.data.toList.getD j 0 = s.data.toList[j] by rw [List.getD_eq_getElem?_getD,List.getElem?_eq_getElem hj]; rfl]
  · exact grownCap_ge _ _ _ _
end Go.Proofs.Dm
/-!
Any bytes parted into rows and fields: the plain words.
-/
namespace Go.Proofs.Dm

def isMark (c:UInt8):Bool:=c == 44 || c == 13 || c == 10
def tillP:List UInt8 → Nat
  | [] => 0
  | c :: r => if isMark c then 0 else tillP r + 1
def quoP:List UInt8 → Nat → List Nat × Nat × Bool
  | [],i => ([],i,false)
  | [c],i => if c = 34 then ([],i,true) else ([i],i + 1,false)
  | c :: d :: r,i =>
    if c = 34 then
      if d = 34 then (i :: (quoP r (i + 2)).1,(quoP r (i + 2)).2) else ([],i,true)
    else (i :: (quoP (d :: r) (i + 1)).1,(quoP (d :: r) (i + 1)).2)
structure FieldP where
  a:Nat
  n:Nat
  kind:Nat
  places:List Nat
deriving DecidableEq
def fieldP (s:List UInt8) (a:Nat):FieldP :=
  if s[a]? = some 34 then
    let q:=quoP (s.drop (a + 1)) (a + 1)
    if q.2.2 then
      let k:=tillP (s.drop (q.2.1 + 1))
      ⟨a,q.2.1 + 1 + k - a,if 0 < k then 3 else 1,q.1 ++ List.range' (q.2.1 + 1) k⟩
    else ⟨a,s.length - a,4,q.1⟩
  else
    let k:=tillP (s.drop a)
    ⟨a,k,if (34:UInt8) ∈ (s.drop a).take k then 2 else 0,List.range' a k⟩
def fieldsP (s:List UInt8):Nat → Nat → List FieldP
  | 0,_ => []
  | k + 1,a => fieldP s a :: if s[a + (fieldP s a).n]? = some 44 then fieldsP s k (a + (fieldP s a).n + 1) else []
def fendP (s:List UInt8):Nat → Nat → Nat
  | 0,a => a
  | k + 1,a => if s[a + (fieldP s a).n]? = some 44 then fendP s k (a + (fieldP s a).n + 1) else a + (fieldP s a).n
def endP (s:List UInt8) (a:Nat):Nat × Nat :=
  if s[a]? = some 10 then (1,1) else if s[a]? = some 13 then (if s[a + 1]? = some 10 then (2,2) else (3,1)) else (0,0)
structure LineP where
  fields:List FieldP
  e:Nat
deriving DecidableEq
def lineP (s:List UInt8) (a:Nat):LineP × Nat :=
  let t:=fendP s (s.length + 1 - a) a
  (⟨fieldsP s (s.length + 1 - a) a,(endP s t).1⟩,t + (endP s t).2)
def linesP (s:List UInt8):Nat → Nat → List LineP
  | 0,_ => []
  | k + 1,a => if a < s.length then (lineP s a).1 :: linesP s k (lineP s a).2 else []

theorem tillP_le (l:List UInt8):tillP l ≤ l.length:=by
  induction l with
  | nil => exact Nat.zero_le _
  | cons c r ih => unfold tillP; split <;> simp <;> omega
theorem tillP_at (l:List UInt8) (h:tillP l < l.length):isMark l[tillP l] = true:=by
  induction l with
  | nil => simp [tillP] at h
  | cons c r ih =>
    unfold tillP at h ⊢
    split
    · rename_i hc; simpa using hc
    · rename_i hc
      rw [if_neg hc] at h
      simpa using ih (by simpa using h)
theorem tillP_step (s:List UInt8) (a:Nat) (h:a < s.length):tillP (s.drop a) = if isMark s[a] then 0 else tillP (s.drop (a + 1)) + 1:=by
  rw [List.drop_eq_getElem_cons h]; rfl
theorem tillP_none (s:List UInt8) (a:Nat) (h:s.length ≤ a):tillP (s.drop a) = 0:=by
  rw [List.drop_eq_nil_of_le h]; rfl
theorem tillP_bd (s:List UInt8) (a:Nat) (h:a ≤ s.length):a + tillP (s.drop a) ≤ s.length:=by
  have:=tillP_le (s.drop a); rw [List.length_drop] at this; omega
theorem quoP_bd:∀ (l:List UInt8) (i:Nat),i ≤ (quoP l i).2.1 ∧ (quoP l i).2.1 ≤ i + l.length ∧ ((quoP l i).2.2 = true → (quoP l i).2.1 < i + l.length) ∧ ((quoP l i).2.2 = false → (quoP l i).2.1 = i + l.length)
  | [],i => by simp [quoP]
  | [c],i => by
    unfold quoP
    split <;> simp
  | c :: d :: r,i => by
    have h1:=quoP_bd r (i + 2)
    have h2:=quoP_bd (d :: r) (i + 1)
    unfold quoP
    by_cases hc:c = 34
    · rw [if_pos hc]
      by_cases hd:d = 34
      · rw [if_pos hd]
        simp only [List.length_cons] at h1 ⊢
        refine ⟨by omega,by omega,fun h => by have:=h1.2.2.1 h; omega,fun h => by have:=h1.2.2.2 h; omega⟩
      · rw [if_neg hd]; simp
    · rw [if_neg hc]
      simp only [List.length_cons] at h2 ⊢
      refine ⟨by omega,by omega,fun h => by have:=h2.2.2.1 h; omega,fun h => by have:=h2.2.2.2 h; omega⟩
theorem fieldP_a (s:List UInt8) (a:Nat):(fieldP s a).a = a:=by
  unfold fieldP
  split
  · dsimp only; split <;> rfl
  · rfl
theorem fieldP_bd (s:List UInt8) (a:Nat) (h:a ≤ s.length):a + (fieldP s a).n ≤ s.length:=by
  unfold fieldP
  split
  · rename_i hq
    have hlt:a < s.length:=by
      rcases Nat.lt_or_ge a s.length with h | h
      · exact h
      · rw [List.getElem?_eq_none h] at hq; cases hq
    have hb:=quoP_bd (s.drop (a + 1)) (a + 1)
    rw [List.length_drop] at hb
    dsimp only
    split
    · rename_i hc
      have h3:=hb.2.2.1 hc
      have:=tillP_bd s ((quoP (s.drop (a + 1)) (a + 1)).2.1 + 1) (by omega)
      dsimp only
      omega
    · dsimp only; omega
  · exact tillP_bd s a h
theorem fendP_bd (s:List UInt8):∀ (k a:Nat),a ≤ s.length → a ≤ fendP s k a ∧ fendP s k a ≤ s.length
  | 0,a,h => ⟨Nat.le_refl _,h⟩
  | k + 1,a,h => by
    have hb:=fieldP_bd s a h
    unfold fendP
    split
    · rename_i hq
      have hlt:a + (fieldP s a).n < s.length:=by
        rcases Nat.lt_or_ge (a + (fieldP s a).n) s.length with h | h
        · exact h
        · rw [List.getElem?_eq_none h] at hq; cases hq
      have:=fendP_bd s k (a + (fieldP s a).n + 1) hlt
      omega
    · omega
theorem endP_bd (s:List UInt8) (a:Nat) (h:a ≤ s.length):a + (endP s a).2 ≤ s.length:=by
  have key:∀ i,(∃ c,s[i]? = some c) → i < s.length:=fun i ⟨c,hc⟩ => by
    rcases Nat.lt_or_ge i s.length with h | h
    · exact h
    · rw [List.getElem?_eq_none h] at hc; cases hc
  unfold endP
  split
  · have:=key a ⟨_,‹_›⟩; simp; omega
  · split
    · split
      · have:=key (a + 1) ⟨_,‹_›⟩; simp; omega
      · have:=key a ⟨_,‹_›⟩; simp; omega
    · simpa using h
end Go.Proofs.Dm
/-!
Rows cut into rows of nearly the same length; nodes of counted trees,as they lie in memory.
-/
namespace Go.Proofs.Dm
open Go.RowKit

section
variable {α:Type}
def cutsF:Nat → List α → List (List α)
  | 0,_ => []
  | m + 1,l => l.take (l.length / (m + 1)) :: cutsF m (l.drop (l.length / (m + 1)))
def cutsP (l:List α):List (List α):=cutsF ((l.length + 5) / 6) l
theorem cutsF_flat:∀ (m:Nat) (l:List α),(0 < m ∨ l = []) → (cutsF m l).flatten = l
  | 0,l,h => by
    rcases h with h | h
    · omega
    · subst h; rfl
  | m + 1,l,_ => by
    simp only [cutsF,List.flatten_cons]
    rw [cutsF_flat m _ ?_,List.take_append_drop]
    rcases Nat.eq_zero_or_pos m with h | h
    · subst h; right; simp
    · exact .inl h
theorem cutsF_len:∀ (m:Nat) (l:List α),(cutsF m l).length = m
  | 0,_ => rfl
  | m + 1,l => by simp [cutsF,cutsF_len m]
theorem div_lo {a m lo:Nat} (h:lo * (m + 1) ≤ a):lo ≤ a / (m + 1) ∧ lo * m ≤ a - a / (m + 1):=by
  have h1:lo ≤ a / (m + 1):=(Nat.le_div_iff_mul_le (show 0 < m + 1 by omega)).2 h
  have h2:a / (m + 1) * (m + 1) ≤ a:=Nat.div_mul_le_self a (m + 1)
  have h3:lo * m ≤ a / (m + 1) * m:=Nat.mul_le_mul_right m h1
  rw [Nat.mul_succ] at h2
  exact ⟨h1,by omega⟩
theorem div_hi {a m hi:Nat} (h:a ≤ hi * (m + 1)):a / (m + 1) ≤ hi ∧ a - a / (m + 1) ≤ hi * m:=by
  have h1:a / (m + 1) ≤ hi:=Nat.le_of_lt_succ ((Nat.div_lt_iff_lt_mul (show 0 < m + 1 by omega)).2 (by rw [Nat.add_one_mul]; omega))
  refine ⟨h1,?_⟩
  rcases Nat.lt_or_ge (a / (m + 1)) hi with h2 | h2
  · have h3:a < (a / (m + 1) + 1) * (m + 1):=by
      have h5:=Nat.div_add_mod a (m + 1)
      have h6:=Nat.mod_lt a (show 0 < m + 1 by omega)
      rw [Nat.add_one_mul,Nat.mul_comm]
      omega
    have h4:(a / (m + 1) + 1) * m ≤ hi * m:=Nat.mul_le_mul_right m h2
    rw [Nat.mul_succ] at h3
    omega
  · have h5:a / (m + 1) = hi:=by omega
    rw [Nat.mul_succ] at h
    omega
theorem cutsF_bd (lo hi:Nat):∀ (m:Nat) (l:List α),lo * m ≤ l.length → l.length ≤ hi * m → ∀ p ∈ cutsF m l,lo ≤ p.length ∧ p.length ≤ hi
  | 0,_,_,_ => by simp [cutsF]
  | m + 1,l,h1,h2 => by
    obtain ⟨a1,a2⟩:=div_lo h1
    obtain ⟨b1,b2⟩:=div_hi h2
    have hle:=Nat.div_le_self l.length (m + 1)
    intro p hp
    simp only [cutsF,List.mem_cons] at hp
    rcases hp with rfl | hp
    · rw [List.length_take]; omega
    · exact cutsF_bd lo hi m _ (by rw [List.length_drop]; exact a2) (by rw [List.length_drop]; exact b2) p hp
theorem cutsP_flat (l:List α):(cutsP l).flatten = l:=by
  refine cutsF_flat _ l ?_
  rcases Nat.eq_zero_or_pos l.length with h | h
  · exact .inr (List.eq_nil_of_length_eq_zero h)
  · exact .inl (by omega)
theorem cutsP_len (l:List α):(cutsP l).length = (l.length + 5) / 6:=cutsF_len _ l
theorem cutsP_le (l:List α):∀ p ∈ cutsP l,p.length ≤ 6:=fun p hp => (cutsF_bd 0 6 _ l (by omega) (by omega) p hp).2
theorem cutsP_ge (l:List α) (h:3 ≤ l.length):∀ p ∈ cutsP l,3 ≤ p.length:=fun p hp => (cutsF_bd 3 6 _ l (by omega) (by omega) p hp).1
theorem cutsP_pos (l:List α):∀ p ∈ cutsP l,1 ≤ p.length:=by
  rcases Nat.eq_zero_or_pos l.length with h | h
  · rw [List.eq_nil_of_length_eq_zero h]; intro p hp; simp [cutsP,cutsF] at hp
  · exact fun p hp => (cutsF_bd 1 6 _ l (by omega) (by omega) p hp).1
theorem cutsP_one (l:List α) (h1:1 ≤ l.length) (h6:l.length ≤ 6):cutsP l = [l]:=by
  unfold cutsP
  rw [show (l.length + 5) / 6 = 1 by omega]
  simp [cutsF]
theorem cutsP_lo (l:List α) (lo:Nat) (h:lo ≤ l.length) (h3:lo ≤ 3):∀ p ∈ cutsP l,lo ≤ p.length:=by
  intro p hp
  rcases Nat.lt_or_ge l.length 3 with h' | h'
  · rcases Nat.eq_zero_or_pos l.length with h0 | h0
    · rw [List.eq_nil_of_length_eq_zero h0] at hp; simp [cutsP,cutsF] at hp
    · rw [cutsP_one l h0 (by omega)] at hp
      rw [List.mem_singleton.1 hp]; exact h
  · have:=cutsP_ge l h' p hp; omega
end

structure RV where
  A:Option Addr
  n:Nat
  c:Nat
  e:Int
  h:Bool
def RV.cells (r:RV):List Value:=[.slice r.A r.n r.c,.int .i64 r.e,.bool r.h]
def RV.val (r:RV):Value:=.agg #[.slice r.A r.n r.c,.int .i64 r.e,.bool r.h]
def flatR (xs:List RV):List Value:=xs.flatMap RV.cells
theorem flatR_len (xs:List RV):(flatR xs).length = xs.length * 3:=by
  induction xs with
  | nil => rfl
  | cons x xs ih => simp only [flatR,List.flatMap_cons,List.length_append,List.length_cons] at ih ⊢; rw [ih]; simp [RV.cells]; omega
theorem flatR_app (xs ys:List RV):flatR (xs ++ ys) = flatR xs ++ flatR ys:=by simp [flatR]
theorem flatR_one (xs:List RV):∀ u ∈ flatR xs,u.oneCell' = true:=by
  intro u hu
  simp only [flatR,List.mem_flatMap] at hu
  obtain ⟨x,_,hu⟩:=hu
  simp only [RV.cells,List.mem_cons,List.not_mem_nil,or_false] at hu
  rcases hu with rfl | rfl | rfl <;> rfl
theorem flatR_take (xs:List RV) (m:Nat):flatR (xs.take m) = (flatR xs).take (m * 3):=by
  induction xs generalizing m with
  | nil => simp [flatR]
  | cons x xs ih =>
    cases m with
    | zero => simp [flatR]
    | succ m =>
      have:(m + 1) * 3 = m * 3 + 1 + 1 + 1:=by omega
      rw [this]
      show RV.cells x ++ flatR (xs.take m) = List.take _ (RV.cells x ++ flatR xs)
      rw [ih]
      rfl
theorem flatR_drop (xs:List RV) (m:Nat):flatR (xs.drop m) = (flatR xs).drop (m * 3):=by
  induction xs generalizing m with
  | nil => simp [flatR]
  | cons x xs ih =>
    cases m with
    | zero => simp
    | succ m =>
      have:(m + 1) * 3 = m * 3 + 1 + 1 + 1:=by omega
      rw [this]
      show flatR (xs.drop m) = List.drop _ (RV.cells x ++ flatR xs)
      rw [ih]
      rfl
theorem flatR_get (xs:List RV) (j k:Nat) (hj:j < xs.length) (hk:k < 3):(flatR xs)[j * 3 + k]? = (xs[j].cells)[k]?:=by
  have h:=List.getElem?_drop (xs:=flatR xs) (i:=j * 3) (j:=k)
  rw [← h,← flatR_drop,List.drop_eq_getElem_cons hj]
  show (RV.cells xs[j] ++ _)[k]? = _
  rw [List.getElem?_append_left (by simpa [RV.cells] using hk)]
def ptrs (gs:List Nat):List Value:=gs.map fun g => Value.pointer (some ⟨g,0,none⟩)
theorem ptrs_len (gs:List Nat):(ptrs gs).length = gs.length:=by simp [ptrs]
theorem ptrs_one (gs:List Nat):∀ u ∈ ptrs gs,u.oneCell' = true:=by
  intro u hu
  simp only [ptrs,List.mem_map] at hu
  obtain ⟨x,_,rfl⟩:=hu
  rfl
theorem ptrs_app (a b:List Nat):ptrs (a ++ b) = ptrs a ++ ptrs b:=by simp [ptrs]
theorem ptrs_take (a:List Nat) (m:Nat):ptrs (a.take m) = (ptrs a).take m:=by simp [ptrs]
theorem ptrs_drop (a:List Nat) (m:Nat):ptrs (a.drop m) = (ptrs a).drop m:=by simp [ptrs]
theorem ptrs_get (gs:List Nat) (j:Nat) (h:j < gs.length):(ptrs gs)[j]? = some (.pointer (some ⟨gs[j],0,none⟩)):=by simp [ptrs,h]

def addA (A:Option Addr) (m:Nat):Option Addr:=A.map fun a => a.add m
theorem Sl.drop {w:World} {A:Option Addr} {cs:List Value} (h:Sl w A cs) (m:Nat):Sl w (addA A m) (cs.drop m):=by
  rcases h with h | ⟨ad,rfl,hc⟩
  · subst h; exact .inl (by simp)
  · refine .inr ⟨ad.add m,rfl,fun j u hu => ?_⟩
    rw [List.getElem?_drop] at hu
    have:=hc _ u hu
    rw [← this]
    congr 1
    have hadd:∀ (a:Addr) (i j:Nat),(a.add i).add j = a.add (i + j):=by
      intro a i j
      unfold Addr.add
      by_cases h1:i = 0 <;> by_cases h2:j = 0 <;> simp [h1,h2,Nat.add_assoc]
    exact hadd ad m j

section
variable {E:List (Option Nat)} {w w':World}
def NodeAt (t:TypeId) (E:List (Option Nat)) (w:World):Nat → Nat → Nat → List RV → Prop
  | 0,lo,g,xs => lo ≤ xs.length ∧ xs.length ≤ 6 ∧ ∃ A c,xs.length ≤ c ∧ Kp E w (fun w => Blk w g t #[.slice none 0 0,.slice A xs.length c,.int .i64 xs.length] ∧ Sl w A (flatR xs))
  | h + 1,lo,g,xs => ∃ (ks:List (Nat × List RV)) (A:Option Addr) (c:Nat),lo ≤ ks.length ∧ 1 ≤ ks.length ∧ ks.length ≤ 6 ∧ xs = (ks.map (·.2)).flatten ∧ ks.length ≤ c ∧
      Kp E w (fun w => Blk w g t #[.slice A ks.length c,.slice none 0 0,.int .i64 xs.length] ∧ Sl w A (ptrs (ks.map (·.1)))) ∧ ∀ k ∈ ks,NodeAt t E w h 3 k.1 k.2
theorem NodeAt.grow {t:TypeId} {E':List (Option Nat)} (hf:Fr E w w') (hE:∀ k,some k ∈ E' → some k ∈ E ∨ w.heap.size ≤ k):∀ (h lo g:Nat) (xs:List RV),NodeAt t E w h lo g xs → NodeAt t E' w' h lo g xs
  | 0,_,_,_,⟨h1,h2,A,c,h3,h4⟩ => ⟨h1,h2,A,c,h3,h4.grow hf hE⟩
  | h + 1,_,_,_,⟨ks,A,c,h1,h2,h3,h4,h5,h6,h7⟩ => ⟨ks,A,c,h1,h2,h3,h4,h5,h6.grow hf hE,fun k hk => NodeAt.grow hf hE h 3 _ _ (h7 k hk)⟩
theorem NodeAt.fr {t:TypeId} {h lo g:Nat} {xs:List RV} (hn:NodeAt t E w h lo g xs) (hf:Fr E w w'):NodeAt t E w' h lo g xs:=NodeAt.grow hf (fun _ h => .inl h) _ _ _ _ hn
theorem NodeAt.fr0 {t:TypeId} {h lo g:Nat} {xs:List RV} (hn:NodeAt t E w h lo g xs) (hf:Fr [] w w'):NodeAt t E w' h lo g xs:=hn.fr hf.of_nil
theorem NodeAt.less {t:TypeId}:∀ {h lo lo' g:Nat} {xs:List RV},NodeAt t E w h lo g xs → lo' ≤ lo → NodeAt t E w h lo' g xs
  | 0,_,_,_,_,⟨h1,h2⟩,hl => ⟨Nat.le_trans hl h1,h2⟩
  | _ + 1,_,_,_,_,⟨ks,A,c,h1,h2⟩,hl => ⟨ks,A,c,Nat.le_trans hl h1,h2⟩
def NodesAt (t:TypeId) (E:List (Option Nat)) (w:World) (h lo:Nat) (ks:List (Nat × List RV)):Prop:=∀ k ∈ ks,NodeAt t E w h lo k.1 k.2
theorem NodesAt.fr0 {t:TypeId} {h lo:Nat} {ks:List (Nat × List RV)} (hn:NodesAt t E w h lo ks) (hf:Fr [] w w'):NodesAt t E w' h lo ks:=fun k hk => (hn k hk).fr0 hf
theorem NodesAt.app {t:TypeId} {h lo:Nat} {ks ls:List (Nat × List RV)} (h1:NodesAt t E w h lo ks) (h2:NodesAt t E w h lo ls):NodesAt t E w h lo (ks ++ ls):=fun k hk => by
  rcases List.mem_append.1 hk with hk | hk
  · exact h1 k hk
  · exact h2 k hk
theorem NodesAt.take {t:TypeId} {h lo:Nat} {ks:List (Nat × List RV)} (h1:NodesAt t E w h lo ks) (m:Nat):NodesAt t E w h lo (ks.take m):=fun k hk => h1 k (List.mem_of_mem_take hk)
theorem NodesAt.drop {t:TypeId} {h lo:Nat} {ks:List (Nat × List RV)} (h1:NodesAt t E w h lo ks) (m:Nat):NodesAt t E w h lo (ks.drop m):=fun k hk => h1 k (List.mem_of_mem_drop hk)
def rootLo:Nat → Nat
  | 0 => 1
  | _ + 1 => 2
def allOf (ks:List (Nat × List RV)):List RV:=(ks.map (·.2)).flatten
theorem allOf_app (a b:List (Nat × List RV)):allOf (a ++ b) = allOf a ++ allOf b:=by simp [allOf]
theorem NodeAt.pos {t:TypeId}:∀ {h lo g:Nat} {xs:List RV},NodeAt t E w h lo g xs → 1 ≤ lo → 1 ≤ xs.length
  | 0,_,_,_,⟨h1,_⟩,hl => Nat.le_trans hl h1
  | h + 1,_,_,_,⟨ks,A,c,h1,h2,h3,h4,h5,h6,h7⟩,_ => by
    cases ks with
    | nil => simp at h2
    | cons k ks =>
      have:=NodeAt.pos (h7 k (List.mem_cons_self ..)) (by omega)
      rw [h4]
      simp; omega
def TreeAt (t:TypeId) (E:List (Option Nat)) (w:World) (p:Option Addr) (xs:List RV):Prop :=
  (p = none ∧ xs = []) ∨ ∃ g h,p = some ⟨g,0,none⟩ ∧ NodeAt t E w h (rootLo h) g xs
theorem TreeAt.grow {t:TypeId} {E':List (Option Nat)} {p:Option Addr} {xs:List RV} (h:TreeAt t E w p xs) (hf:Fr E w w') (hE:∀ k,some k ∈ E' → some k ∈ E ∨ w.heap.size ≤ k):TreeAt t E' w' p xs:=by
  rcases h with h | ⟨g,k,h1,h2⟩
  · exact .inl h
  · exact .inr ⟨g,k,h1,NodeAt.grow hf hE _ _ _ _ h2⟩
theorem TreeAt.fr {t:TypeId} {p:Option Addr} {xs:List RV} (h:TreeAt t E w p xs) (hf:Fr E w w'):TreeAt t E w' p xs:=h.grow hf fun _ h => .inl h
theorem TreeAt.fr0 {t:TypeId} {p:Option Addr} {xs:List RV} (h:TreeAt t E w p xs) (hf:Fr [] w w'):TreeAt t E w' p xs:=h.fr hf.of_nil
end
end Go.Proofs.Dm
/-!
copy into a block that is known whole; make; a row of numbers,time and again.
-/
namespace Go.Proofs.Dm
open Go.RowKit

theorem Fr.setRow {S:List (Option Nat)} {a w:World} (h:Fr S a w) {g:Nat} (hg:g < a.heap.size → some g ∈ S) (cs:Array Value):Fr S a (w.setRow g cs) :=
  h.then (S':=[some g]) ⟨rfl,rfl,rfl,by simp [World.setRow],fun k _ hn => setRow_other w g k cs (by simpa [eq_comm] using hn)⟩ (fun i hi e => by simp at e; subst e; exact hg hi)

theorem wpList_copyB {P:Program} {w:World} {ops:Array Oper} {rest:List Oper} {o:Oper} {a:Act} {Q:Exit → Act → World → Prop} (hgd:o.guard = none) (d s:Operand) (dT sT:TypeId)
    (ho:o.op = .call { callee:=.builtin .copy,args:=#[d,s],argTypes:=#[dT,sT] }) (elem:TypeId) (hu:P.underlying dT = some (.slice elem)) (hsz:(P.info? elem).map (·.size) = some 1)
    (g off dLen dCap:Nat) (sp:Option Addr) (sLen sCap:Nat) (hd:a.eval d = .slice (some ⟨g,off,none⟩) dLen dCap) (hs:a.eval s = .slice sp sLen sCap)
    (t:TypeId) (cur:List Value) (hB:Blk w g t cur.toArray) (cs:List Value) (m:Nat) (hm:cs.length = m) (hn:m = Nat.min sLen dLen) (hsrc:Sl w sp cs) (hfit:off + m ≤ cur.length) (h1:∀ v ∈ cs,v.oneCell' = true)
    (h:∀ w',Blk w' g t (splice cur off cs).toArray → Fr [some g] w w' → wpList P ops Q rest (a.put o.dst (.int .i64 m)) w') :
    wpList P ops Q (o :: rest) a w:=by
  subst hm
  by_cases h0:cs.length = 0
  · obtain rfl:cs = []:=List.eq_nil_of_length_eq_zero h0
    refine wpList_copy_nothing hgd d s dT sT ho elem hu hsz _ _ dLen dCap sLen sCap hd hs (by simpa using hn.symm) ?_
    exact h w (by simpa [splice] using hB) (Fr.refl _ _)
  · rcases hsrc with hsrc | ⟨ad,rfl,hsrc⟩
    · subst hsrc; simp at h0
    · refine wpList_copy_own hgd d s dT sT ho elem hu hsz g off dLen dCap ad sLen sCap hd hs cur.toArray t hB cs hn hsrc (by simpa using hfit) h1 ?_
      exact h _ (show _ = _ by simpa [splice] using setRow_heap w g _ _ t _ hB) ((Fr.refl _ _).setRow (by simp) _)

theorem blk_sl {w:World} {g:Nat} {t:TypeId} {cs:List Value} (h:Blk w g t cs.toArray) (m:Nat):Sl w (some ⟨g,0,none⟩) (cs.take m):=by
  refine .inr ⟨_,rfl,fun j u hu => ?_⟩
  have ha:(⟨g,0,none⟩:Addr).add j = ⟨g,j,none⟩:=by unfold Addr.add; split <;> simp_all
  rw [ha,h.cell j]
  rw [List.getElem?_take] at hu
  split at hu
  · simpa using hu
  · cases hu
end Go.Proofs.Dm
/-!
Rows put together of rows.
-/
namespace Go.Proofs.Dm
open Go.RowKit

structure Part where
  A:Option Addr
  n:Nat
  c:Nat
  cs:List Value
def Part.val (p:Part):Value:=.slice p.A p.n p.c
def Part.ok (sz:Nat) (w:World) (p:Part):Prop:=p.cs.length = p.n * sz ∧ Sl w p.A p.cs ∧ ∀ u ∈ p.cs,u.oneCell' = true
theorem Part.ok.fr {sz:Nat} {w w':World} {p:Part} (h:p.ok sz w) (hf:Fr [] w w'):p.ok sz w':=⟨h.1,h.2.1.fr hf (.inr List.not_mem_nil),h.2.2⟩
def partN (ps:List Part):Nat:=(ps.map Part.n).sum
def partC (ps:List Part):List Value:=ps.flatMap Part.cs
def partV (ps:List Part):List Value:=ps.map Part.val
theorem partN_snoc (ps:List Part) (j:Nat) (h:j < ps.length):partN (ps.take (j + 1)) = partN (ps.take j) + ps[j].n:=by
  rw [List.take_succ_eq_append_getElem h]; simp only [partN,List.map_append,List.sum_append,List.map_cons,List.map_nil,List.sum_cons,List.sum_nil,Nat.add_zero]
theorem partC_snoc (ps:List Part) (j:Nat) (h:j < ps.length):partC (ps.take (j + 1)) = partC (ps.take j) ++ ps[j].cs:=by
  rw [List.take_succ_eq_append_getElem h]; simp only [partC,List.flatMap_append,List.flatMap_cons,List.flatMap_nil,List.append_nil]
theorem partN_le (ps:List Part) (j:Nat):partN (ps.take j) ≤ partN ps:=by
  conv => rhs; rw [← List.take_append_drop j ps]
  simp only [partN,List.map_append,List.sum_append]; omega
theorem partN_at (ps:List Part) (j:Nat) (h:j < ps.length):partN (ps.take j) + ps[j].n ≤ partN ps:=by
  rw [← partN_snoc ps j h]; exact partN_le ps _
theorem part_at {w:World} {B:Option Addr} {ps:List Part} (h:Sl w B (partV ps)) {j:Nat} (hj:j < ps.length):∃ ad,B = some ad ∧ w.cell? (ad.add j) = some (.slice ps[j].A ps[j].n ps[j].c):=by
  obtain ⟨ad,hA,_,hc⟩:=h.at_ (k:=j) (u:=ps[j].val) (by simp [partV,hj])
  exact ⟨ad,hA,hc⟩
def NewRow (w:World) (e:TypeId) (sz n:Nat) (cs:List Value) (en:Ending) (w':World):Prop :=
  ∃ A c,en = .returned (.slice A n c) ∧ ORow w' e sz A c n cs ∧ Fr [] w w' ∧ ∀ j,bk A = some j → w.heap.size ≤ j
theorem newA_app {w0 w w':World} {A A':Option Addr} (hf:Fr [] w0 w) (h:∀ j,bk A = some j → w0.heap.size ≤ j) (hb:bk A' = bk A ∨ bk A' = some w.heap.size):∀ j,bk A' = some j → w0.heap.size ≤ j:=fun j hj => by
  have:=hf.size
  rcases hb with hb | hb
  · exact h j (by rw [← hb]; exact hj)
  · rw [hb] at hj; injection hj with hj; omega
theorem fr_app {w0 w w':World} {A:Option Addr} (hf:Fr [] w0 w) (h:∀ j,bk A = some j → w0.heap.size ≤ j) (hg:Fr [bk A] w w'):Fr [] w0 w' :=
  hf.seq hg fun x hx => by
    rw [List.mem_singleton] at hx
    cases hb:bk A with
    | none => exact .inr (.inl (by rw [hx,hb]))
    | some j => exact .inr (.inr ⟨j,h j hb,by rw [hx,hb]⟩)
def fromA (A:Option Addr) (c i sz:Nat):Option Addr:=if c = i then A else A.map fun x => x.add (i * sz)
theorem Sl.from_ {w:World} {A:Option Addr} {cs:List Value} {n c i sz:Nat} (h:Sl w A cs) (hl:cs.length = n * sz) (hi:i ≤ n) (hc:n ≤ c):Sl w (fromA A c i sz) (cs.drop (i * sz)):=by
  unfold fromA
  split
  · rename_i h0
    refine .inl (List.drop_eq_nil_of_le ?_)
    have:i = n:=by omega
    rw [hl,this]; exact Nat.le_refl _
  · exact h.drop (i * sz)
theorem run_from {P:Program} (t:TypeId) (A:Option Addr) (n c i sz:Nat) (ht:P.underlying t = some (.slice (P.elem t))) (hsz:(P.info? (P.elem t)).map (·.size) = some sz) (hi:i ≤ n) :
    ∀ w,(Instr.sliceAt t (.slice A n c) (some (.int .i64 (i:Int))) none none).run P w = .ok (.slice (fromA A c i sz) (n - i) (c - i)) w:=by
  intro w
  have hs:(sizeOf (P.elem t)).run P w = .ok sz w:=by
    cases h:P.info? (P.elem t) with
    | none => rw [h] at hsz; simp at hsz
    | some x => rw [h] at hsz; simp at hsz; simp [sizeOf,typeInfo,h,hsz]
  rw [run_sliceAt_slice w t _ _ _ _ ht,run_slice_l w t A n c ht .i64 (i:Int) (by omega) (by omega),hs]
  simp [Result.andThen,sliced,fromA]
theorem run_upto {P:Program} (t:TypeId) (A:Option Addr) (n c i:Nat) (ht:P.underlying t = some (.slice (P.elem t))) (sz:Nat) (hsz:(P.info? (P.elem t)).map (·.size) = some sz) (hi:i ≤ c) :
    ∀ w,(Instr.sliceAt t (.slice A n c) none (some (.int .i64 (i:Int))) none).run P w = .ok (.slice A i c) w:=by
  intro w
  have hs:(sizeOf (P.elem t)).run P w = .ok sz w:=by
    cases h:P.info? (P.elem t) with
    | none => rw [h] at hsz; simp at hsz
    | some x => rw [h] at hsz; simp at hsz; simp [sizeOf,typeInfo,h,hsz]
  rw [run_sliceAt_slice w t _ _ _ _ ht,run_slice_h w t A n c ht .i64 (i:Int) (by omega) (by omega),hs]
  have hz:∀ x:Addr,x.add 0 = x:=fun x => by simp [Addr.add]
  cases A <;> simp [Result.andThen,sliced,hz]
theorem step_app {P:Program} (w:World) {ops:Array Oper} {o:Oper} {a:Act} {K:Act → World → Prop} {Q:Exit → Act → World → Prop} {E:Prop} (hgd:o.guard = none) (s x:Operand) (t e:TypeId)
    (ho:o.op = .call { callee:=.builtin .append,args:=#[s,x],argTypes:=#[t,t] }) (z:Value) (sz bytes:Nat)
    (ht:P.underlying t = some (.slice e)) (hinfo:(P.info? e).map (fun i => (i.zero,i.size,i.bytes)) = some (some z,sz,bytes)) (hzs:z.cells.size = sz) (hsz:0 < sz)
    (A:Option Addr) (c n:Nat) (cs:List Value) (hs:a.eval s = .slice A n c) (hown:ORow w e sz A c n cs) (A2:Option Addr) (m c2:Nat) (news:List Value) (hx:a.eval x = .slice A2 m c2)
    (hl:news.length = m * sz) (hsl:Sl w A2 news) (h1:∀ u ∈ news,u.oneCell' = true) (h63:n + m ≤ maxLen) (hbytes:(n + m) * bytes ≤ 140737488355328)
    (h:∀ A' c' w',ORow w' e sz A' c' (n + m) (cs ++ news) → Fr [bk A] w w' → (bk A' = bk A ∨ bk A' = some w.heap.size) → K (a.put o.dst (.slice A' (n + m) c')) w') :
    if Region.wanted o (yielded ops a.tmps) = true then Oper.wp P o a w K Q else E:=by
  have hw:Region.wanted o (yielded ops a.tmps) = true:=by simp [Region.wanted,hgd]
  rw [if_pos hw]
  exact wp_app w s x t e ho z sz bytes ht hinfo hzs hsz A c n cs hs hown A2 m c2 news hx hl hsl h1 h63 hbytes h
def CutsAns (w:World) (Q:List (Nat × List Value)) (en:Ending) (w':World):Prop :=
  ∃ (B:Option Addr) (d:Nat) (ps:List Part),en = .returned (.slice B ps.length d) ∧ Sl w' B (partV ps) ∧ ps.map (fun p => (p.n,p.cs)) = Q ∧ (∀ p ∈ ps,Sl w' p.A p.cs ∧ p.n ≤ p.c ∧ ∀ j,bk p.A = some j → w.heap.size ≤ j) ∧ Fr [] w w'
section
variable {α:Type} {f:α → List Value} {sz:Nat}
theorem enc_len (hf:∀ x,(f x).length = sz) (xs:List α):(xs.flatMap f).length = xs.length * sz:=by
  induction xs with
  | nil => simp
  | cons x xs ih => rw [List.flatMap_cons,List.length_append,ih,hf,List.length_cons,Nat.add_one_mul]; omega
theorem enc_take (hf:∀ x,(f x).length = sz) (xs:List α) (m:Nat):(xs.take m).flatMap f = (xs.flatMap f).take (m * sz):=by
  induction xs generalizing m with
  | nil => simp
  | cons x xs ih =>
    cases m with
    | zero => simp
    | succ m =>
      have e:(m + 1) * sz = (f x).length + m * sz:=by rw [hf,Nat.add_one_mul,Nat.add_comm]
      rw [List.take_succ_cons,List.flatMap_cons,List.flatMap_cons,ih,e,List.take_length_add_append]
theorem enc_drop (hf:∀ x,(f x).length = sz) (xs:List α) (m:Nat):(xs.drop m).flatMap f = (xs.flatMap f).drop (m * sz):=by
  induction xs generalizing m with
  | nil => simp
  | cons x xs ih =>
    cases m with
    | zero => simp
    | succ m =>
      have e:(m + 1) * sz = (f x).length + m * sz:=by rw [hf,Nat.add_one_mul,Nat.add_comm]
      rw [List.drop_succ_cons,List.flatMap_cons,ih,e,List.drop_length_add_append]
theorem enc_one (h1:∀ x,∀ u ∈ f x,u.oneCell' = true) (xs:List α):∀ u ∈ xs.flatMap f,u.oneCell' = true:=by
  intro u hu
  obtain ⟨x,_,hx⟩:=List.mem_flatMap.1 hu
  exact h1 x u hx
end
def CutQ {α:Type} (f:α → List Value) (Q:List (Nat × List Value)) (ps:List Part) (m:Nat) (ys:List α):Prop:=ps.map (fun p => (p.n,p.cs)) ++ (cutsF m ys).map (fun l => (l.length,l.flatMap f)) = Q
theorem cutQ_step {α:Type} {f:α → List Value} {sz:Nat} {Q:List (Nat × List Value)} {ps:List Part} {m:Nat} {ys:List α} (hf:∀ x,(f x).length = sz) (h:CutQ f Q ps (m + 1) ys) (A:Option Addr) (c:Nat) :
    CutQ f Q (ps ++ [⟨A,ys.length / (m + 1),c,(ys.flatMap f).take (ys.length / (m + 1) * sz)⟩]) m (ys.drop (ys.length / (m + 1))):=by
  unfold CutQ at h ⊢
  rw [← h,← enc_take hf]
  have hle:=Nat.div_le_self ys.length (m + 1)
  simp [cutsF,Nat.min_eq_left hle]
theorem cut_keep {e:TypeId} {sz q c1:Nat} {cs:List Value} {ps:List Part} {B A1 A2:Option Addr} {w wr w2 wa w3:World} (hp:∀ p ∈ ps,Kp [bk B] wr (fun w => Sl w p.A p.cs) ∧ p.n ≤ p.c ∧ ∀ j,bk p.A = some j → w.heap.size ≤ j)
    (hw:Fr [] w wr) (hf1:Fr [] wr w2) (hfa:Fr [] w2 wa) (hg:Fr [bk B] wa w3) (hB:∀ j,bk B = some j → j < wr.heap.size) (hb3:bk A2 = bk B ∨ bk A2 = some wa.heap.size) (hr1:ORow w2 e sz A1 c1 q cs) (hb1:∀ j,bk A1 = some j → wr.heap.size ≤ j) :
    ∀ p ∈ ps ++ [(⟨A1,q,c1,cs⟩:Part)],Kp [bk A2] w3 (fun w => Sl w p.A p.cs) ∧ p.n ≤ p.c ∧ ∀ j,bk p.A = some j → w.heap.size ≤ j:=by
  have s0:=hw.size
  have s1:=hf1.size
  have s2:=hfa.size
  have hF:Fr [bk B] wr w3:=(hf1.trans hfa).of_nil.trans hg
  intro p hpm
  rcases List.mem_append.1 hpm with h | h
  · obtain ⟨k1,k2,k3⟩:=hp p h
    refine ⟨k1.grow hF fun k hk => ?_,k2,k3⟩
    rw [List.mem_singleton] at hk
    rcases hb3 with h | h
    · exact .inl (by rw [hk,h]; exact List.mem_singleton.2 rfl)
    · rw [h] at hk; injection hk with hk; exact .inr (by omega)
  · obtain rfl:=List.mem_singleton.1 h
    have hne:∀ j,bk A1 = some j → bk A2 ≠ some j ∧ bk B ≠ some j:=fun j hj => by
      have h1:=hb1 j hj
      have h2:=hr1.lt hj
      have h3:bk B ≠ some j:=fun h => by have:=hB j h; omega
      refine ⟨fun h => ?_,h3⟩
      rcases hb3 with h' | h'
      · exact h3 (h'.symm.trans h)
      · rw [h'] at h; injection h with h; omega
    refine ⟨Kp.sl ((hr1.sl.fr hfa (.inr List.not_mem_nil)).fr hg ?_) ?_,hr1.cap,fun j hj => by have:=hb1 j hj; omega⟩
    · cases hb:bk A1 with
      | none => exact .inl rfl
      | some j => exact .inr (by simpa [eq_comm] using (hne j hb).2)
    · cases hb:bk A1 with
      | none => exact .inl rfl
      | some j => exact .inr (by simpa [eq_comm] using (hne j hb).1)
theorem partV_app (ps qs:List Part):partV (ps ++ qs) = partV ps ++ partV qs:=by simp [partV]
end Go.Proofs.Dm
