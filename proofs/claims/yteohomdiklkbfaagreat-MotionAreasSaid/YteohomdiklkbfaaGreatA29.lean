import Derived.Test.YteohomdiklkbfaaGreatA01
import Derived.OrdersIn
import Derived.RegionTactic
namespace Go.Proofs.Dm

def cntN (f:Nat → Bool):Nat → Nat
  | 0 => 0
  | n + 1 => if f n then cntN f n else cntN f n + 1
def addB (f:Nat → Bool) (i:Nat):Nat → Bool:=fun j => j == i || f j
theorem addB_self (f:Nat → Bool) (i:Nat):addB f i i = true:=by simp [addB]
theorem addB_of {f:Nat → Bool} (i:Nat) {j:Nat} (h:f j = true):addB f i j = true:=by simp [addB,h]
theorem addB_ne {f:Nat → Bool} {i j:Nat} (h:j ≠ i):addB f i j = f j:=by simp [addB,h]
theorem kpB {f:Nat → Bool} {i j:Nat} {b:Bool} {P:Prop} (h:f j = b → P) (hn:j ≠ i:=by decide):addB f i j = b → P:=fun hh => h ((addB_ne hn).symm.trans hh)
theorem cntN_add (f:Nat → Bool) (i:Nat) (hf:f i = false):∀ n,cntN (addB f i) n + (if i < n then 1 else 0) = cntN f n
  | 0 => by simp [cntN]
  | n + 1 => by
    have ih:=cntN_add f i hf n
    by_cases h:n = i
    · subst h
      simp only [cntN,addB_self,if_true,hf,Bool.false_eq_true,if_false,Nat.lt_succ_self,Nat.lt_irrefl] at ih ⊢
      omega
    · simp only [cntN,addB_ne h]
      have h2:(i < n + 1) = (i < n):=by simp only [eq_iff_iff]; omega
      simp only [h2]
      split <;> omega
theorem cntN_all {f:Nat → Bool}:∀ {n:Nat},cntN f n = 0 → ∀ i,i < n → f i = true
  | 0,_,i,hi => absurd hi (by omega)
  | n + 1,h,i,hi => by
    simp only [cntN] at h
    split at h
    · rename_i hn
      rcases Nat.lt_or_ge i n with h2 | h2
      · exact cntN_all h i h2
      · rw [show i = n by omega]; exact hn
    · omega
def EachOp (H:Nat → Oper → Prop):Nat → List Oper → Prop
  | _,[] => True
  | n,o :: os => H n o ∧ EachOp H (n + 1) os
theorem EachOp.get {H:Nat → Oper → Prop}:∀ {n:Nat} {os:List Oper},EachOp H n os → ∀ i o,os[i]? = some o → H (n + i) o
  | _,[],_,i,o,h => by simp at h
  | n,x :: os,hh,0,o,h => by simp at h; subst h; exact hh.1
  | n,x :: os,hh,i + 1,o,h => by
    have:=EachOp.get hh.2 i o (by simpa using h)
    rwa [show n + 1 + i = n + (i + 1) by omega] at this
section
variable {P:Program} {ops:Array Oper} {Q:Exit → Act → World → Prop} {md:Region.Mode}
theorem ready_mem {listed:Array Bool} {i:Nat} (h:i ∈ Region.ready md ops listed):∃ o,ops[i]? = some o ∧ listed.getD i true = false ∧ ∀ e ∈ o.after,Region.binds md e = true → listed.getD e.on false = true:=by
  unfold Region.ready at h
  rw [List.mem_filter] at h
  obtain ⟨h1,h2⟩:=h
  rw [Bool.and_eq_true] at h2
  obtain ⟨h2,h3⟩:=h2
  cases ho:ops[i]? with
  | none => rw [ho] at h3; simp at h3
  | some o =>
    rw [ho] at h3
    refine ⟨o,rfl,by simpa using h2,fun e he hb => ?_⟩
    simp only [Option.map_some,Option.getD_some,Array.all_eq_true_iff_forall_mem,Bool.or_eq_true] at h3
    rcases h3 e he with h | h
    · rw [hb] at h; simp at h
    · exact h
theorem ready_nil {listed:Array Bool} (hac:∀ (i:Nat) (o:Oper),ops[i]? = some o → ∀ e ∈ o.after,Region.binds md e = true → e.on < i) (hsz:listed.size = ops.size) (h:Region.ready md ops listed = []):∀ i,i < ops.size → listed.getD i true = true:=by
  intro i
  induction i using Nat.strongRecOn with
  | _ i ih =>
    intro hi
    cases hl:listed.getD i true with
    | true => rfl
    | false =>
      exfalso
      have hm:i ∈ Region.ready md ops listed:=by
        unfold Region.ready
        rw [List.mem_filter]
        refine ⟨List.mem_range.2 hi,?_⟩
        rw [hl,Array.getElem?_eq_getElem hi]
        simp only [Bool.not_false,Bool.true_and,Option.map_some,Option.getD_some,Array.all_eq_true_iff_forall_mem,Bool.or_eq_true]
        intro e he
        cases hb:Region.binds md e with
        | false => exact .inl rfl
        | true =>
        right
        have h1:=hac i ops[i] (Array.getElem?_eq_getElem hi) e he hb
        have h2:=ih e.on h1 (by omega)
        have h3:e.on < listed.size:=by omega
        simp only [Array.getD,h3,dif_pos] at h2 ⊢
        exact h2
      rw [h] at hm
      cases hm
structure Listed (listed:Array Bool) (n:Nat) (f:Nat → Bool):Prop where
  size:listed.size = n
  is:∀ j,j < n → listed.getD j true = f j
  beyond:∀ j,n ≤ j → f j = false
theorem Listed.put {listed:Array Bool} {n i:Nat} {f:Nat → Bool} (h:Listed listed n f) (hi:i < n):Listed (listed.setIfInBounds i true) n (addB f i):=by
  refine ⟨by rw [Array.size_setIfInBounds]; exact h.size,fun j hj => ?_,fun j hj => ?_⟩
  · have h1:=h.is j hj
    have hs:j < listed.size:=by rw [h.size]; exact hj
    have hs2:j < (listed.setIfInBounds i true).size:=by rw [Array.size_setIfInBounds]; exact hs
    simp only [Array.getD,hs,hs2,dif_pos] at h1 ⊢
    by_cases e:j = i
    · subst e; rw [addB_self]; simp
    · rw [addB_ne e,← h1]
      show (listed.setIfInBounds i true)[j] = listed[j]
      rw [Array.getElem_setIfInBounds,if_neg (Ne.symm e)]
  · rw [addB_ne (by omega)]; exact h.beyond j hj
theorem Listed.start (n:Nat):Listed (Array.replicate n false) n (fun _ => false) :=
  ⟨Array.size_replicate,fun j hj => by simp [Array.getD,hj],fun _ _ => rfl⟩
theorem cntN_start:∀ n,cntN (fun _ => false) n = n
  | 0 => rfl
  | n + 1 => by simp [cntN,cntN_start n]
def StepInv (P:Program) (md:Region.Mode) (ops:Array Oper) (Q:Exit → Act → World → Prop) (I:(Nat → Bool) → Act → World → Prop) (i:Nat) (o:Oper):Prop :=
  ∀ (f:Nat → Bool) (a:Act) (w:World),f i = false → (∀ e ∈ o.after,Region.binds md e = true → f e.on = true) → I f a w →
    ∀ K:Act → World → Prop,(∀ a' w',I (addB f i) a' w' → K a' w') → if Region.wanted o (yielded ops a.tmps) = true then Oper.wp P o a w K Q else K (a.put o.dst undef) w
theorem wpAny_inv (I:(Nat → Bool) → Act → World → Prop) (hac:∀ (i:Nat) (o:Oper),ops[i]? = some o → ∀ e ∈ o.after,Region.binds md e = true → e.on < i)
    (hop:EachOp (StepInv P md ops Q I) 0 ops.toList) (hdone:∀ f a w,(∀ i,i < ops.size → f i = true) → I f a w → Q .normal a w) :
    ∀ (fuel:Nat) (listed:Array Bool) (f:Nat → Bool) (a:Act) (w:World),Listed listed ops.size f → cntN f ops.size ≤ fuel → I f a w → wpAny P md ops Q fuel listed a w:=by
  intro fuel
  induction fuel with
  | zero =>
    intro listed f a w hl hc hI
    have hall:=cntN_all (Nat.le_zero.1 hc)
    refine ⟨?_,hdone f a w hall hI⟩
    cases hr:Region.ready md ops listed with
    | nil => rfl
    | cons i rs =>
      have hm:i ∈ Region.ready md ops listed:=by rw [hr]; exact List.mem_cons_self ..
      obtain ⟨o,ho,h1,_⟩:=ready_mem hm
      have hi:i < ops.size:=(Array.getElem?_eq_some_iff.1 ho).1
      rw [hl.is i hi,hall i hi] at h1
      cases h1
  | succ fuel ih =>
    intro listed f a w hl hc hI
    refine ⟨fun hr => hdone f a w (fun i hi => ?_) hI,fun i hm => ?_⟩
    · rw [← hl.is i hi]; exact ready_nil hac hl.size hr i hi
    · obtain ⟨o,ho,h1,h2⟩:=ready_mem hm
      have hi:i < ops.size:=(Array.getElem?_eq_some_iff.1 ho).1
      rw [hl.is i hi] at h1
      have hstep:=EachOp.get hop i o (by rw [Array.getElem?_toList]; exact ho)
      rw [Nat.zero_add] at hstep
      refine wpOp_step ho fun K hK => hstep f a w h1 (fun e he hb => ?_) hI K fun a' w' hI' => hK _ _ (ih _ _ _ _ (hl.put hi) ?_ hI')
      · have h3:=h2 e he hb
        have h4:=hac i o ho e he hb
        rw [← hl.is e.on (by omega)]
        have h5:e.on < listed.size:=by rw [hl.size]; omega
        simp only [Array.getD,h5,dif_pos] at h3 ⊢
        exact h3
      · have:=cntN_add f i h1 ops.size
        rw [if_pos hi] at this
        omega
theorem wp_region_inv {id:Nat} {a:Act} {w:World} (hm:P.follows .mixedOrders = true) (I:(Nat → Bool) → Act → World → Prop)
    (hac:ops.toList.zipIdx.all (fun p => p.1.after.all fun e => !Region.binds .any e || decide (e.on < p.2)) = true) (h0:I (fun _ => false) a w.drew)
    (hop:EachOp (StepInv P .any ops Q I) 0 ops.toList) (hdone:∀ f a w,(∀ i,i < ops.size → f i = true) → I f a w → Q .normal a w):(Code.region id ops true).wp P Q a w:=by
  refine wp_region_any hm (wpAny_inv I (fun i o ho e he hb => ?_) hop hdone _ _ _ _ _ (Listed.start _) (by rw [cntN_start]; exact Nat.le_refl _) h0)
  rw [List.all_eq_true] at hac
  have h1:=hac (o,i) (by rw [List.mem_zipIdx_iff_getElem?,Array.getElem?_toList]; exact ho)
  rw [Array.all_eq_true_iff_forall_mem] at h1
  have h2:=h1 e he
  rw [hb] at h2
  exact of_decide_eq_true (by simpa using h2)
end
section
variable {F:Fence} {n:Nat} {P:Program} {ops:Array Oper} {Q:Exit → Act → World → Prop} {md:Region.Mode}
end
end Go.Proofs.Dm
namespace Go.Proofs.Dm

theorem EachOp.of_get {H:Nat → Oper → Prop}:∀ {n:Nat} {os:List Oper},(∀ i o,os[i]? = some o → H (n + i) o) → EachOp H n os
  | _,[],_ => trivial
  | n,x :: os,h => ⟨h 0 x rfl,EachOp.of_get fun i o ho => by
      have:=h (i + 1) o (by simpa using ho)
      rwa [show n + (i + 1) = n + 1 + i by omega] at this⟩
def Closed (md:Region.Mode) (ops:Array Oper) (f:Nat → Bool):Prop:=∀ (j:Nat) (o:Oper),ops[j]? = some o → f j = true → ∀ e ∈ o.after,Region.binds md e = true → f e.on = true
theorem Closed.add {md:Region.Mode} {ops:Array Oper} {f:Nat → Bool} {i:Nat} {o:Oper} (h:Closed md ops f) (ho:ops[i]? = some o) (hd:∀ e ∈ o.after,Region.binds md e = true → f e.on = true):Closed md ops (addB f i):=fun j o' ho' hj e he hb => by
  by_cases h2:j = i
  · subst h2
    rw [ho] at ho'
    injection ho' with ho'
    subst ho'
    exact addB_of _ (hd e he hb)
  · rw [addB_ne h2] at hj
    exact addB_of _ (h j o' ho' hj e he hb)
section
variable {F:Fence} {n:Nat} {P:Program} {ops:Array Oper} {Q:Exit → Act → World → Prop} {md:Region.Mode}
def StepInvC (P:Program) (md:Region.Mode) (ops:Array Oper) (Q:Exit → Act → World → Prop) (I:(Nat → Bool) → Act → World → Prop) (i:Nat) (o:Oper):Prop :=
  ∀ (f:Nat → Bool) (a:Act) (w:World),f i = false → (∀ e ∈ o.after,Region.binds md e = true → f e.on = true) → Closed md ops f → I f a w →
    ∀ K:Act → World → Prop,(∀ a' w',I (addB f i) a' w' → K a' w') → if Region.wanted o (yielded ops a.tmps) = true then Oper.wp P o a w K Q else K (a.put o.dst undef) w
theorem wp_region_invc {id:Nat} {a:Act} {w:World} (hm:P.follows .mixedOrders = true) (I:(Nat → Bool) → Act → World → Prop)
    (hac:ops.toList.zipIdx.all (fun p => p.1.after.all fun e => !Region.binds .any e || decide (e.on < p.2)) = true) (h0:I (fun _ => false) a w.drew)
    (hop:EachOp (StepInvC P .any ops Q I) 0 ops.toList) (hdone:∀ f a w,(∀ i,i < ops.size → f i = true) → I f a w → Q .normal a w):(Code.region id ops true).wp P Q a w :=
  wp_region_inv hm (fun f a w => Closed .any ops f ∧ I f a w) hac ⟨fun j o _ hj => (by cases hj),h0⟩
    (EachOp.of_get fun i o ho f a w hf hd ⟨hc,hI⟩ K hK => by
      rw [Nat.zero_add] at hf hK
      have ho':ops[i]? = some o:=by rw [← Array.getElem?_toList]; exact ho
      have:=EachOp.get hop i o ho f a w (by rw [Nat.zero_add]; exact hf) hd hc hI K fun a' w' h' => hK a' w' ⟨hc.add ho' hd,by rw [Nat.zero_add] at h'; exact h'⟩
      exact this) fun f a w h ⟨_,hI⟩ => hdone f a w h hI
end
end Go.Proofs.Dm
namespace Go.Proofs.Dm

def updU (u:Nat → Value) (i:Nat) (v:Value):Nat → Value:=fun j => cond (Nat.beq j i) v (u j)
theorem updU_self (u:Nat → Value) (i:Nat) (v:Value):updU u i v i = v:=by simp [updU]
theorem updU_ne (u:Nat → Value) {i j:Nat} (v:Value) (h:j ≠ i):updU u i v j = u j:=by
  have:Nat.beq j i = false:=by
    cases hb:Nat.beq j i with
    | false => rfl
    | true => exact absurd (Nat.eq_of_beq_eq_true hb) h
  simp [updU,this]
structure RInv (F:World → Nat → Value → Prop) (G:(Nat → Value) → World → Prop) (W0:World) (L:Nat) (f:Nat → Bool) (u:Nat → Value) (w:World):Prop where
  a:f L = false → Fr [] W0 w ∧ ∀ i,f i = true → F w i (u i)
  b:f L = true → G u w
section
variable {F:World → Nat → Value → Prop} {G:(Nat → Value) → World → Prop} {W0 w w2:World} {L i:Nat} {f:Nat → Bool} {u:Nat → Value} {v:Value}
theorem RInv.start (u:Nat → Value):RInv F G W0 L (fun _ => false) u W0.drew :=
  ⟨fun _ => ⟨(Fr.refl _ _).drew,fun _ h => Bool.noConfusion h⟩,fun h => Bool.noConfusion h⟩
theorem RInv.call (h:RInv F G W0 L f u w) (hL:f L = false) (hi:L ≠ i) (hm:∀ j x,F w j x → F w2 j x) (hf:Fr [] w w2) (hv:F w2 i v):RInv F G W0 L (addB f i) (updU u i v) w2:=by
  obtain ⟨h1,h2⟩:=h.a hL
  refine ⟨fun _ => ⟨h1.trans hf,fun j hj => ?_⟩,fun e => by rw [addB_ne hi,hL] at e; cases e⟩
  by_cases e:j = i
  · subst e; rw [updU_self]; exact hv
  · rw [updU_ne u v e]; exact hm _ _ (h2 j (by rwa [addB_ne e] at hj))
theorem RInv.step (h:RInv F G W0 L f u w) (hL:f L = false) (hi:L ≠ i) (hf:Fr [] W0 w2) (hm:∀ j,f j = true → F w2 j (u j)) (hv:F w2 i v):RInv F G W0 L (addB f i) (updU u i v) w2:=by
  refine ⟨fun _ => ⟨hf,fun j hj => ?_⟩,fun e => by rw [addB_ne hi,hL] at e; cases e⟩
  by_cases e:j = i
  · subst e; rw [updU_self]; exact hv
  · rw [updU_ne u v e]; exact hm j (by rwa [addB_ne e] at hj)
theorem RInv.val (h:RInv F G W0 L f u w) (hL:f L = false) (hi:L ≠ i) (hv:F w i v):RInv F G W0 L (addB f i) (updU u i v) w :=
  h.call hL hi (fun _ _ h => h) (Fr.refl _ _) hv
theorem RInv.get {F':World → Nat → Value → Prop} (h:RInv F G W0 L f u w) (hF:F = F') (hL:f L = false) (hi:f i = true):F' w i (u i):=by
  subst hF
  exact (h.a hL).2 i hi
theorem RInv.last (hG:G u w2):RInv F G W0 L (addB f L) u w2:=⟨fun e => Bool.noConfusion ((addB_self f L).symm.trans e),fun _ => hG⟩
theorem Closed.no {ops:Array Oper} (h:Closed .any ops f) (o:Oper) (ho:ops[L]? = some o) (hi:f i = false) (e:Edge) (he:e ∈ o.after) (hb:Region.binds .any e = true) (hei:e.on = i):f L = false:=by
  cases hh:f L with
  | false => rfl
  | true =>
    have:=h L o ho hh e he hb
    rw [hei,hi] at this
    cases this
end
theorem step_callw {P:Program} (w:World) {ops:Array Oper} {o:Oper} {a:Act} {K:Act → World → Prop} {Q:Exit → Act → World → Prop} {E:Prop} (hw:Region.wanted o (yielded ops a.tmps) = true) (f:FuncId) (vs:Array Value)
    (hrun:(execOp a.eval o).run P w = .ok (.enter f vs) w) (R:Ending → World → Prop) (hc:Calls P f vs w R) (hv:∀ e w',R e w' → ∃ v,e = .returned v)
    (h:∀ v w',R (.returned v) w' → K (a.put o.dst v) w') :
    if Region.wanted o (yielded ops a.tmps) = true then Oper.wp P o a w K Q else E:=by
  rw [if_pos hw]
  unfold Oper.wp
  rw [hrun,Oper.upon_enter]
  refine hc.mono fun e w' hr => ?_
  obtain ⟨v,rfl⟩:=hv e w' hr
  exact h v w' hr
end Go.Proofs.Dm
