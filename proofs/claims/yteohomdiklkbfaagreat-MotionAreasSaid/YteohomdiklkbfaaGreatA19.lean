import Derived.Test.YteohomdiklkbfaaGreatA18
namespace Go.Proofs.YteohomdiklkbfaaGreat
open Go.RowKit Go.Proofs.Dm

abbrev TS:TypeId:=151
abbrev TF:TypeId:=157
def frc (f:Nat × Nat × Nat):List Value:=[.pointer (some ⟨f.1,0,none⟩),.int .i64 (f.2.1:Nat),.int .i64 (f.2.2:Nat)]
def frs (fs:List (Nat × Nat × Nat)):List Value:=fs.reverse.flatMap frc
theorem frs_len (fs:List (Nat × Nat × Nat)):(frs fs).length = fs.length * 3:=by
  unfold frs; rw [enc_len (sz:=3) (fun _ => rfl),List.length_reverse]
theorem frs_cons (f:Nat × Nat × Nat) (fs:List (Nat × Nat × Nat)):frs (f :: fs) = frs fs ++ frc f:=by simp [frs]
theorem frs_one (fs:List (Nat × Nat × Nat)):∀ u ∈ frs fs,u.oneCell' = true:=by
  refine enc_one (fun x u hu => ?_) fs.reverse
  simp only [frc,List.mem_cons,List.not_mem_nil,or_false] at hu
  rcases hu with rfl | rfl | rfl <;> rfl
def StkAt (w:World) (gs:Nat) (A:Option Addr) (c:Nat) (fs:List (Nat × Nat × Nat)):Prop:=Blk w gs TS #[.slice A fs.length c] ∧ ORow w TF 3 A c fs.length (frs fs) ∧ bk A ≠ some gs
theorem _root_.Go.Proofs.Dm.ORow.trunc {w:World} {e:TypeId} {sz c n:Nat} {A:Option Addr} {cs:List Value} (h:ORow w e sz A c n cs) {m:Nat} (hm:m ≤ n) (ha:A ≠ none):ORow w e sz A c m (cs.take (m * sz)):=by
  have hle:m * sz ≤ n * sz:=Nat.mul_le_mul_right sz hm
  refine ⟨by rw [List.length_take,h.1]; omega,.inr ?_⟩
  rcases h.2 with ⟨he,_⟩ | ⟨g,cap,cur,he,hb,hg,h1,h2,h3,h4⟩
  · injection he with he; exact absurd he ha
  · injection he with e1 e2 e3
    exact ⟨g,cap,cur,by rw [e1,e3],hb,hg,by omega,h2,h3,by rw [← h4,List.take_take]; congr 1; omega⟩
theorem _root_.Go.Proofs.Dm.ORow.some_ {w:World} {e:TypeId} {sz c n:Nat} {A:Option Addr} {cs:List Value} (h:ORow w e sz A c n cs) (hn:0 < n):∃ b,A = some ⟨b,0,none⟩:=by
  rcases h.2 with ⟨_,h0⟩ | ⟨g,cap,cur,he,_⟩
  · omega
  · injection he with he; exact ⟨g,he⟩
theorem StkAt.top {w:World} {gs b c:Nat} {f:Nat × Nat × Nat} {fs:List (Nat × Nat × Nat)} (h:StkAt w gs (some ⟨b,0,none⟩) c (f :: fs)) :
    w.cell? ⟨b,fs.length * 3,none⟩ = some (.pointer (some ⟨f.1,0,none⟩)) ∧ w.cell? ⟨b,fs.length * 3 + 1,none⟩ = some (.int .i64 (f.2.1:Nat)) ∧ w.cell? ⟨b,fs.length * 3 + 2,none⟩ = some (.int .i64 (f.2.2:Nat)):=by
  rcases h.2.1.sl with h0 | ⟨ad,he,hc⟩
  · have:=congrArg List.length h0; rw [frs_len] at this; simp at this
  · injection he with he
    subst he
    have hadd:∀ j,(⟨b,0,none⟩:Addr).add j = ⟨b,j,none⟩:=fun j => by unfold Addr.add; split <;> simp_all
    have key:∀ k u,(frc f)[k]? = some u → w.cell? ⟨b,fs.length * 3 + k,none⟩ = some u:=fun k u hk => by
      rw [← hadd]
      refine hc _ u ?_
      rw [frs_cons,List.getElem?_append_right (by rw [frs_len]; omega),frs_len,Nat.add_sub_cancel_left]
      exact hk
    exact ⟨key 0 _ rfl,key 1 _ rfl,key 2 _ rfl⟩
set_option maxHeartbeats 400000 in
theorem top_any (gs b c n:Nat) (w:World) (hb:Blk w gs TS #[.slice (some ⟨b,0,none⟩) (n + 1) c]) (hn:n ≤ 1000) :
    Calls Tryz.prog 80 #[.pointer (some ⟨gs,0,none⟩)] w fun e w' => e = .returned (.pointer (some ⟨b,n * 3,none⟩)) ∧ Fr [] w w':=by
  have hc:w.cell? ⟨gs,0,none⟩ = some (.slice (some ⟨b,0,none⟩) (n + 1) c):=hb.cell 0
  have hw:IntKind.i64.wrap ((n:Int) + 1 - 1) = (n:Int):=by rw [Int.add_sub_cancel]; exact IntWalk.i64_in _ (by omega)
  have hw':IntKind.i64.wrap (n:Int) = (n:Int):=IntWalk.i64_in _ (by omega)
  have h1:(0:Int) ≤ (n:Int):=by omega
  have h2:(n:Int) < (n:Int) + 1:=by omega
  have ha:(⟨b,0,none⟩:Addr).add (n * 3) = ⟨b,n * 3,none⟩:=by unfold Addr.add; split <;> simp_all
  clear hb
  go_enter Tryz.func80,Tryz.ntmps80
  go_wp2_with fail
  go_quiet (fail)
  go_wp2_with fail
  go_ret
  exact ⟨rfl,(Fr.refl [] w).drewN _⟩
end Go.Proofs.YteohomdiklkbfaaGreat
namespace Go.Proofs.YteohomdiklkbfaaGreat
open Go.RowKit Go.Proofs.Dm
variable {E:List (Option Nat)}

def AncAt (E:List (Option Nat)) (w:World) (N:Nat):Nat → List (Nat × Nat × Nat) → Nat → Nat → List RV → Prop
  | _,[],a,c,rest => a = 0 ∧ c = N ∧ rest = []
  | h,f :: fs,a,c,rest => ∃ (ks:List (Nat × List RV)) (A:Option Addr) (cp:Nat) (rest':List RV),Kp E w (fun w => Blk w f.1 TN #[.slice A ks.length cp,.slice none 0 0,.int .i64 ((allOf ks).length:Nat)] ∧ Sl w A (ptrs (ks.map (·.1)))) ∧ ks.length ≤ 6 ∧
      NodesAt TN E w h 3 ks ∧ (∃ hk:f.2.2 < ks.length,c = ks[f.2.2].2.length) ∧ f.2.1 = a ∧ sumOf (ks.take f.2.2) ≤ a ∧ rest = allOf (ks.drop (f.2.2 + 1)) ++ rest' ∧ AncAt E w N (h + 1) fs (a - sumOf (ks.take f.2.2)) (sumOf ks) rest'
theorem AncAt.len {w:World} {N:Nat}:∀ {fs:List (Nat × Nat × Nat)} {h a c:Nat} {rest:List RV},AncAt E w N h fs a c rest → a + c + rest.length = N
  | [],_,_,_,_,⟨h1,h2,h3⟩ => by subst h1 h2 h3; simp
  | f :: fs,h,a,c,rest,⟨ks,A,cp,rest',_,_,_,⟨hk,hc⟩,_,hs,hr,ht⟩ => by
    have:=AncAt.len ht
    have h2:=sumOf_all ks f.2.2 hk
    rw [hr,List.length_append,← sumOf_eq]
    omega
def TopAt (E:List (Option Nat)) (w:World) (N:Nat) (fs:List (Nat × Nat × Nat)) (L:List RV):Prop :=
  ∃ (g a nx:Nat) (fs2:List (Nat × Nat × Nat)) (lo:Nat) (xs rest:List RV),fs = (g,a,nx) :: fs2 ∧ NodeAt TN E w 0 lo g xs ∧ nx < xs.length ∧ AncAt E w N 0 fs2 a xs.length rest ∧ L = xs.drop nx ++ rest
def StkOf (E:List (Option Nat)) (w0 w:World) (gs:Nat) (A:Option Addr) (c:Nat) (fs:List (Nat × Nat × Nat)):Prop:=StkAt w gs A c fs ∧ Fr E w0 w ∧ w0.heap.size ≤ gs ∧ ∀ j,bk A = some j → w0.heap.size ≤ j
def StkCh (gs:Nat) (w w':World) (A A':Option Addr):Prop:=∃ S:List (Option Nat),Fr S w w' ∧ (∀ k,some k ∈ S → k = gs ∨ bk A = some k ∨ w.heap.size ≤ k) ∧ (bk A' = bk A ∨ ∃ j,bk A' = some j ∧ w.heap.size ≤ j)
theorem StkCh.refl (gs:Nat) (w:World) (A:Option Addr):StkCh gs w w A A:=⟨[],Fr.refl _ _,fun k h => by simp at h,.inl rfl⟩
theorem StkCh.trans {gs:Nat} {w1 w2 w3:World} {A1 A2 A3:Option Addr} (h:StkCh gs w1 w2 A1 A2) (k:StkCh gs w2 w3 A2 A3):StkCh gs w1 w3 A1 A3:=by
  obtain ⟨S,h1,h2,h3⟩:=h
  obtain ⟨T,k1,k2,k3⟩:=k
  have hs:=h1.size
  refine ⟨S ++ T,(h1.weaken fun i _ hi => List.mem_append_left _ hi).trans (k1.weaken fun i _ hi => List.mem_append_right _ hi),fun k hk => ?_,?_⟩
  · rcases List.mem_append.1 hk with hk | hk
    · exact h2 k hk
    · rcases k2 k hk with h | h | h
      · exact .inl h
      · rcases h3 with h' | ⟨j,h',hj⟩
        · exact .inr (.inl (by rw [← h']; exact h))
        · rw [h'] at h; injection h with h; exact .inr (.inr (by omega))
      · exact .inr (.inr (by omega))
  · rcases k3 with h' | ⟨j,h',hj⟩
    · rcases h3 with h'' | ⟨i,h'',hi⟩
      · exact .inl (h'.trans h'')
      · exact .inr ⟨i,by rw [h']; exact h'',hi⟩
    · exact .inr ⟨j,h',by omega⟩
theorem StkCh.fr0 {gs:Nat} {w w':World} {A A':Option Addr} (hf:Fr [] w w') (h:bk A' = bk A):StkCh gs w w' A A':=⟨[],hf,fun k h => by simp at h,.inl h⟩
theorem StkOf.grow {w0 w w':World} {gs c:Nat} {A:Option Addr} {fs:List (Nat × Nat × Nat)} (h:StkOf E w0 w gs A c fs) (hf:Fr [] w w'):StkOf E w0 w' gs A c fs :=
  ⟨⟨h.1.1.fr hf (by simp),ORow.fr h.1.2.1 hf (.inr List.not_mem_nil),h.1.2.2⟩,h.2.1.trans hf.of_nil,h.2.2⟩
theorem NodesAt.frE {w w':World} {h lo:Nat} {ks:List (Nat × List RV)} (hn:NodesAt TN E w h lo ks) (hf:Fr E w w'):NodesAt TN E w' h lo ks:=fun k hk => (hn k hk).fr hf
theorem fr_appE {w wa w':World} {B:Option Addr} (h:Fr E w wa) (hB:∀ j,bk B = some j → w.heap.size ≤ j) (hg:Fr [bk B] wa w'):Fr E w w':=h.seq hg fun x hx => by
  rw [List.mem_singleton] at hx
  subst hx
  cases hb:bk B with
  | none => exact .inr (.inl rfl)
  | some j => exact .inr (.inr ⟨j,hB j hb,rfl⟩)
theorem newA_appE {w wa:World} {B B2:Option Addr} (h:Fr E w wa) (hB:∀ j,bk B = some j → w.heap.size ≤ j) (hb:bk B2 = bk B ∨ bk B2 = some wa.heap.size):∀ j,bk B2 = some j → w.heap.size ≤ j:=fun j hj => by
  rcases hb with hb | hb
  · exact hB j (hb ▸ hj)
  · rw [hb] at hj; injection hj with hj; have:=h.size; omega
theorem stk_push {w0 w wa w2:World} {gs c c2:Nat} {A A2:Option Addr} {fs:List (Nat × Nat × Nat)} {f:Nat × Nat × Nat} (h:StkOf E w0 w gs A c fs) (hfa:Fr [] w wa) (hr:ORow w2 TF 3 A2 c2 (fs.length + 1) (frs fs ++ frc f)) (hg:Fr [bk A] wa w2) (hb:bk A2 = bk A ∨ bk A2 = some wa.heap.size) :
    StkOf E w0 (w2.setCell ⟨gs,0,none⟩ (.slice A2 (fs.length + 1) c2)) gs A2 c2 (f :: fs) ∧ StkCh gs w (w2.setCell ⟨gs,0,none⟩ (.slice A2 (fs.length + 1) c2)) A A2:=by
  obtain ⟨⟨h1,h2,h3⟩,h4,h5,h6⟩:=h
  have hsz:=hfa.size
  have hgl:=h1.lt
  have hblk:Blk w2 gs TS #[.slice A fs.length c]:=(h1.fr hfa (by simp)).fr hg (by rw [List.mem_singleton]; exact fun e => h3 e.symm)
  have hne:bk A2 ≠ some gs:=by
    rcases hb with hb | hb
    · rw [hb]; exact h3
    · rw [hb]; intro e; injection e with e; omega
  have hset:Fr [some gs] w2 (w2.setCell ⟨gs,0,none⟩ (.slice A2 (fs.length + 1) c2)):=(Fr.refl _ _).setB (by simp) 0 _
  refine ⟨⟨⟨?_,?_,hne⟩,?_,h5,?_⟩,[bk A,some gs],?_,fun k hk => ?_,?_⟩
  · exact hblk.set_ 0 _
  · rw [frs_cons]
    refine ORow.fr hr hset ?_
    cases hb2:bk A2 with
    | none => exact .inl rfl
    | some j => exact .inr (by rw [List.mem_singleton,← hb2]; exact hne)
  · exact (fr_appE (h4.trans hfa.of_nil) h6 hg).setB (by omega) 0 _
  · exact newA_appE (h4.trans hfa.of_nil) h6 hb
  · exact (hfa.of_nil.trans (hg.weaken fun i _ hi => by rw [List.mem_singleton] at hi; rw [hi]; exact List.mem_cons_self ..)).trans (hset.weaken fun i _ hi => by rw [List.mem_singleton] at hi; rw [hi]; exact List.mem_cons_of_mem _ (List.mem_singleton.2 rfl))
  · rcases List.mem_cons.1 hk with h | h
    · exact .inr (.inl h.symm)
    · rw [List.mem_singleton] at h; injection h with h; exact .inl h
  · rcases hb with hb | hb
    · exact .inl hb
    · exact .inr ⟨_,hb,hsz⟩
theorem stk_cells {w0 w wa w2:World} {gs c:Nat} {A:Option Addr} {fs:List (Nat × Nat × Nat)} (h:StkOf E w0 w gs A c fs) (hfa:Fr [] w wa) (hg:Fr [bk A] wa w2):w2.cell? ⟨gs,0,none⟩ = some (.slice A fs.length c) ∧ w2.frozen? ⟨gs,0,none⟩ = false ∧ gs < w2.heap.size:=by
  have hblk:Blk w2 gs TS #[.slice A fs.length c]:=(h.1.1.fr hfa (by simp)).fr hg (by rw [List.mem_singleton]; exact fun e => h.1.2.2 e.symm)
  exact ⟨hblk.cell 0,hblk.frozen 0,hblk.lt⟩
theorem sl_frame (w:World) (f:Nat × Nat × Nat):Sl (w.alloc (.cells #[.pointer (some ⟨f.1,0,none⟩),.int .i64 (f.2.1:Nat),.int .i64 (f.2.2:Nat)] TF)) (some ⟨w.heap.size,0,none⟩) (frc f):=blk_sl (cs:=frc f) (Blk.new w TF _) 3
end Go.Proofs.YteohomdiklkbfaaGreat
namespace Go.Proofs.YteohomdiklkbfaaGreat
open Go.RowKit Go.Proofs.Dm
variable {E:List (Option Nat)}

theorem drop_all (ks:List (Nat × List RV)) (q j:Nat) (hq:q < ks.length) (hj:j ≤ ks[q].2.length):(allOf ks).drop (sumOf (ks.take q) + j) = ks[q].2.drop j ++ allOf (ks.drop (q + 1)):=by
  rw [allOf_split ks q hq,sumOf_eq,List.drop_append,List.drop_eq_nil_of_le (by omega),Nat.add_sub_cancel_left,List.nil_append,List.drop_append,show j - ks[q].2.length = 0 by omega]
  rfl
def DownAns (E:List (Option Nat)) (w0 w:World) (gs N:Nat) (A:Option Addr) (n:Nat) (L:List RV) (en:Ending) (w':World):Prop :=
  ∃ (A':Option Addr) (c':Nat) (fs':List (Nat × Nat × Nat)),en = .returned (.tuple #[]) ∧ StkOf E w0 w' gs A' c' fs' ∧ TopAt E w0 N fs' L ∧ StkCh gs w w' A A' ∧ fs'.length ≤ n
theorem infoF:(Tryz.prog.info? TF).map (fun i => (i.zero,i.size,i.bytes)) = some (some (Value.agg #[.pointer none,.int .i64 0,.int .i64 0]),3,24):=by kernel_rfl
set_option maxRecDepth 100000 in
set_option maxHeartbeats 1600000 in
theorem down_any (w0 w:World) (gs g h lo a d i c N:Nat) (A:Option Addr) (fs:List (Nat × Nat × Nat)) (xs rest:List RV) (hst:StkOf E w0 w gs A c fs) (hn:NodeAt TN E w0 h lo g xs) (ha:AncAt E w0 N h fs a xs.length rest) (hd:d < xs.length) (hi:i = a + d) (hN:N ≤ 100000) (hl:fs.length + h ≤ 900) :
    Calls Tryz.prog 78 #[.pointer (some ⟨gs,0,none⟩),.pointer (some ⟨g,0,none⟩),.int .i64 (a:Nat),.int .i64 (i:Nat)] w (DownAns E w0 w gs N A (fs.length + h + 1) (xs.drop d ++ rest)):=by
  obtain ⟨L,hL⟩:∃ L,L = xs.drop d ++ rest:=⟨_,rfl⟩
  rw [← hL]
  obtain ⟨M,hM⟩:∃ M,M = fs.length + h + 1:=⟨_,rfl⟩
  rw [← hM]
  have HN0:=Lib.hid hn
  have HA0:=Lib.hid ha
  have HST:=Lib.hid hst
  have HI:=Lib.hid hi
  have HL:=Lib.hid hL
  have HM:=Lib.hid hM
  have hlen:=ha.len
  have hi2:i ≤ 100000:=by omega
  have HM2:Hid (M ≤ 901):=by show _ ≤ _; omega
  have hf0:fs.length + h + 1 ≤ M:=by omega
  have ha2:a ≤ 100000:=by omega
  clear hn ha hst hi hL hM hlen hl
  go_enter Tryz.func78,Tryz.ntmps78
  go_wp2_with fail
  go_loopg [1,2] h (fun k nv fv wr => ∃ (g a d lo:Nat) (A':Option Addr) (c:Nat) (fs:List (Nat × Nat × Nat)) (xs rest:List RV),nv = .pointer (some ⟨g,0,none⟩) ∧ fv = .int .i64 (a:Nat) ∧ a ≤ 100000 ∧ Hid (i = a + d) ∧ d < xs.length ∧ Hid (StkOf E w0 wr gs A' c fs) ∧ Hid (NodeAt TN E w0 k lo g xs) ∧ Hid (AncAt E w0 N k fs a xs.length rest) ∧ Hid (L = xs.drop d ++ rest) ∧ Hid (StkCh gs w wr A A') ∧ fs.length + k + 1 ≤ M)
  case atStart => exact ⟨g,a,d,lo,A,c,fs,xs,rest,rfl,rfl,ha2,HI.out,hd,HST.out,HN0.out,HA0.out,HL.out,StkCh.refl _ _ _,hf0⟩
  case round =>
    clear HN0 HA0 HST HI HL HM hd ha2 hf0
    obtain ⟨g,a,d,lo,A',c,fs,xs,rest,rfl,rfl,ha2,HI,hd,HST,HN0,HA0,HL,HCH,hf0⟩:=hrel
    cases gk with
    | zero =>
      obtain ⟨_,h6,Ai,ci,hc,hk⟩:=HN0.out.fr HST.out.2.1
      have c0:wr.cell? ⟨g,0,none⟩ = some (.slice none 0 0):=hk.now.1.cell 0
      have e0:wr.cell? ⟨gs,0,none⟩ = some (.slice A' fs.length c):=HST.out.1.1.cell 0
      have hsub:(i:Int) - (a:Int) = (d:Int):=by have:=HI.out; omega
      have HM3:Hid (fs.length + 1 ≤ 901):=by show _ ≤ _; have:=HM2.out; omega
      have HEND:Hid (∀ (A2:Option Addr) (c2:Nat) (wx:World),StkOf E w0 wx gs A2 c2 ((g,a,d) :: fs) → StkCh gs wr wx A' A2 → DownAns E w0 w gs N A M L (.returned (.tuple #[])) wx):=by
        show ∀ _,_
        intro A2 c2 wx h1 h2
        exact ⟨A2,c2,_,rfl,h1,⟨g,a,d,fs,lo,xs,rest,rfl,HN0.out,by omega,HA0.out,HL.out⟩,HCH.out.trans h2,by simp; omega⟩
      clear hk
      go_wp2_with (at_builtin; go_must (
        refine wpList_app _ rfl _ _ 149 TF rfl _ 3 24 Tryz.underlying149 infoF rfl (by decide) A' c fs.length (frs fs) rfl (ORow.fr HST.out.1.2.1 ((Fr.refl [] wr).alloc _) (.inr List.not_mem_nil)) _ 1 1 (frc (g,a,d)) rfl rfl (sl_frame wr (g,a,d)) (by intro u hu; exact frs_one [(g,a,d)] u (by simpa [frs] using hu)) (by have:=HM3.out; simp only [maxLen]; omega) (by have:=HM3.out; omega) ?_
        intro A2 c2 w2 hr2 hg2 hb2
        obtain ⟨k0,k1,k2⟩:=stk_cells HST.out ((Fr.refl [] wr).alloc _) hg2
        have HP:=Lib.hid (stk_push HST.out ((Fr.refl [] wr).alloc _) hr2 hg2 hb2)
        clear hr2 hg2 hb2))
      refine bodyPost_ret (results_none rfl _ _ _) rfl ?_
      exact HEND.out A2 c2 _ HP.out.1 HP.out.2
    | succ k =>
      have hn1:=HN0.out.fr HST.out.2.1
      obtain ⟨ks,A2,cp,hlo,h1,h6,rfl,hc,hk,hks⟩:=HN0.out
      have hkr:=hk.fr HST.out.2.1
      have c0:wr.cell? ⟨g,0,none⟩ = some (.slice A2 ks.length cp):=hkr.now.1.cell 0
      obtain ⟨ad,rfl,_⟩:=sl_ptrs hkr.now.2 (j:=0) (by rw [List.length_map]; omega)
      have HSL:=Lib.hid hkr.now.2
      have HKS:=Lib.hid hks
      have HK:=Lib.hid hk
      have hpos:(0:Int) < (ks.length:Int):=by omega
      have hal:(ks.map (·.2)).flatten = allOf ks:=rfl
      rw [hal] at hd HL HA0
      have HD:=Lib.hid hd
      have hxl:=HA0.out.len
      have hda:a + d ≤ 100000:=by omega
      obtain ⟨wo,rfl⟩:∃ wo:World,wo = wr:=⟨_,rfl⟩
      clear hn1 hk hks hkr hal hd hxl
      go_wp2_with fail
      go_loop [8,2] (fun kv fv => ∃ q:Nat,kv = .int .i64 q ∧ fv = .int .i64 ((a + sumOf (ks.take q):Nat)) ∧ q < ks.length ∧ Hid (sumOf (ks.take q) ≤ d)) (fun kv _ => ks.length - (intOf kv).toNat)
      case atStart => exact ⟨0,rfl,by simp [sumOf],h1,by show _ ≤ _; simp [sumOf]⟩
      case round =>
        obtain ⟨q,rfl,rfl,hq,HQ⟩:=hrel
        have hkm:=HKS.out ks[q] (List.getElem_mem hq)
        have hsn:=sumOf_snoc ks q hq
        have hse:=sumOf_all ks q hq
        rw [sumOf_eq ks] at hse
        obtain ⟨ad',he,hcell⟩:=sl_ptrs HSL.out (j:=q) (by rw [List.length_map]; exact hq)
        injection he with he
        subst he
        rw [List.getElem_map] at hcell
        have hk2:wo.cell? ⟨ks[q].1,2,none⟩ = some (.int .i64 (ks[q].2.length:Nat)):=(hkm.fr HST.out.2.1).cell2
        obtain ⟨sq,hsq⟩:∃ sq,sq = sumOf (ks.take q):=⟨_,rfl⟩
        obtain ⟨kx,hkx⟩:∃ kx,kx = ks[q].2:=⟨_,rfl⟩
        obtain ⟨kg,hkg⟩:∃ kg,kg = ks[q].1:=⟨_,rfl⟩
        have hrs:allOf (ks.take q) ++ (kx ++ allOf (ks.drop (q + 1))) = allOf ks:=by rw [hkx]; exact (allOf_split ks q hq).symm
        rw [← hsq] at hsn hse HQ ⊢
        rw [← hkx] at hsn hse hk2 hkm
        rw [← hkg] at hcell hk2 hkm
        obtain ⟨f,hf⟩:∃ f,f = a + sq:=⟨_,rfl⟩
        rw [← hf]
        have HSN:=Lib.hid hsn
        have HKG:Hid (ks[q].1 = kg):=hkg.symm
        have hkm6:kx.length ≤ 100000:=by have:=HA0.out.len; omega
        have hf6:f ≤ 100000:=by have:=HD.out; have:=HQ.out; omega
        have HF:=Lib.hid hf
        have HEX:Hid (q + 1 = ks.length ∨ i < f + kx.length → d - sq < kx.length):=by
          show _ → _
          intro h
          have h1:=HI.out
          have h2:=HQ.out
          have h3:=HD.out
          rcases h with h | h
          · have:ks.drop (q + 1) = []:=List.drop_eq_nil_of_le (by omega)
            rw [this] at hse
            simp [sumOf] at hse
            omega
          · omega
        have HRND:Hid (d - sq < kx.length → NodeAt TN E w0 k 3 kg kx ∧ AncAt E w0 N k ((g,f,q) :: fs) f kx.length (allOf (ks.drop (q + 1)) ++ rest) ∧ L = kx.drop (d - sq) ++ (allOf (ks.drop (q + 1)) ++ rest) ∧ i = f + (d - sq)):=by
          show _ → _
          intro h
          have h1:=HI.out
          have h2:=HQ.out
          refine ⟨hkm,⟨ks,some ad,cp,rest,HK.out,h6,HKS.out,⟨hq,by rw [hkx]⟩,rfl,by show sumOf (ks.take q) ≤ f; omega,rfl,?_⟩,?_,by omega⟩
          · show AncAt E w0 N (k + 1) fs (f - sumOf (ks.take q)) (sumOf ks) rest
            rw [← hsq,show f - sq = a by omega,sumOf_eq]
            exact HA0.out
          · rw [HL.out,← List.append_assoc]
            congr 1
            have:=drop_all ks q (d - sq) hq (by rw [← hkx]; omega)
            rw [← hsq,show sq + (d - sq) = d by omega,← hkx] at this
            exact this
        have e0:wo.cell? ⟨gs,0,none⟩ = some (.slice A' fs.length c):=HST.out.1.1.cell 0
        have HM3:Hid (fs.length + 1 ≤ 901):=by show _ ≤ _; have:=HM2.out; omega
        clear hkm hsn hse hsq hkx hkg hrs hf
        by_cases hcont:q + 1 < ks.length ∧ f + kx.length ≤ i
        · obtain ⟨hc1,hc2⟩:=hcont
          have hg1:(q:Int) < (ks.length:Int) - 1:=by omega
          have hg2:(f:Int) + (kx.length:Int) ≤ (i:Int):=by omega
          go_wp2_with fail
          go_round
          case rel => exact ⟨q + 1,by go_num,by rw [HSN.out]; have:=HF.out; congr 1; omega,hc1,by show _ ≤ _; rw [HSN.out]; have:=HF.out; have:=HI.out; omega⟩
          case measure => simp [intOf]; omega
        · have hex:=HEX.out (by omega)
          obtain ⟨q1,q2,q3,q4⟩:=HRND.out hex
          have HQ1:=Lib.hid q1
          have HQ2:=Lib.hid q2
          have HQ3:=Lib.hid q3
          have HQ4:=Lib.hid q4
          obtain ⟨d',hd'⟩:∃ d',d' = d - sq:=⟨_,rfl⟩
          rw [← hd'] at HQ3 HQ4 hex
          have HEX':=Lib.hid hex
          clear q1 q2 q3 q4 hex hd' HEX HRND HSN
          by_cases hlast:q + 1 = ks.length
          · have hg1:¬ ((q:Int) < (ks.length:Int) - 1):=by omega
            go_wp2_with (at_builtin; go_must (
              refine wpList_app _ rfl _ _ 149 TF rfl _ 3 24 Tryz.underlying149 infoF rfl (by decide) A' c fs.length (frs fs) rfl (ORow.fr HST.out.1.2.1 ((Fr.refl [] wo).alloc _) (.inr List.not_mem_nil)) _ 1 1 (frc (g,f,q)) rfl rfl (sl_frame wo (g,f,q)) (by intro u hu; exact frs_one [(g,f,q)] u (by simpa [frs] using hu)) (by have:=HM3.out; simp only [maxLen]; omega) (by have:=HM3.out; omega) ?_
              intro A2 c2 w2 hr2 hg2 hb2
              obtain ⟨k0,k1,k2⟩:=stk_cells HST.out ((Fr.refl [] wo).alloc _) hg2
              have HP:=Lib.hid (stk_push HST.out ((Fr.refl [] wo).alloc _) hr2 hg2 hb2)
              have hf2:=HP.out.1.2.1
              have hkr:=HK.out.fr hf2
              have m0:(w2.setCell ⟨gs,0,none⟩ (.slice A2 (fs.length + 1) c2)).cell? ⟨g,0,none⟩ = some (.slice (some ad) ks.length cp):=hkr.now.1.cell 0
              obtain ⟨ad',he,m1⟩:=sl_ptrs hkr.now.2 (j:=q) (by rw [List.length_map]; exact hq)
              injection he with he
              subst he
              rw [List.getElem_map,show ks[q].1 = kg from HKG.out] at m1
              clear hr2 hg2 hb2 hf2 hkr))
            go_roundg k
            case rel =>
              exact ⟨kg,f,d',3,A2,c2,(g,f,q) :: fs,kx,allOf (ks.drop (q + 1)) ++ rest,rfl,rfl,hf6,HQ4.out,HEX'.out,HP.out.1,HQ1.out,HQ2.out,HQ3.out,HCH.out.trans HP.out.2,by simp; omega⟩
            case measure => omega
          · have hg1:(q:Int) < (ks.length:Int) - 1:=by omega
            have hg2:(i:Int) < (f:Int) + (kx.length:Int):=by omega
            go_wp2_with (at_builtin; go_must (
              refine wpList_app _ rfl _ _ 149 TF rfl _ 3 24 Tryz.underlying149 infoF rfl (by decide) A' c fs.length (frs fs) rfl (ORow.fr HST.out.1.2.1 ((Fr.refl [] wo).alloc _) (.inr List.not_mem_nil)) _ 1 1 (frc (g,f,q)) rfl rfl (sl_frame wo (g,f,q)) (by intro u hu; exact frs_one [(g,f,q)] u (by simpa [frs] using hu)) (by have:=HM3.out; simp only [maxLen]; omega) (by have:=HM3.out; omega) ?_
              intro A2 c2 w2 hr2 hg2 hb2
              obtain ⟨k0,k1,k2⟩:=stk_cells HST.out ((Fr.refl [] wo).alloc _) hg2
              have HP:=Lib.hid (stk_push HST.out ((Fr.refl [] wo).alloc _) hr2 hg2 hb2)
              have hf2:=HP.out.1.2.1
              have hkr:=HK.out.fr hf2
              have m0:(w2.setCell ⟨gs,0,none⟩ (.slice A2 (fs.length + 1) c2)).cell? ⟨g,0,none⟩ = some (.slice (some ad) ks.length cp):=hkr.now.1.cell 0
              obtain ⟨ad',he,m1⟩:=sl_ptrs hkr.now.2 (j:=q) (by rw [List.length_map]; exact hq)
              injection he with he
              subst he
              rw [List.getElem_map,show ks[q].1 = kg from HKG.out] at m1
              clear hr2 hg2 hb2 hf2 hkr))
            go_roundg k
            case rel =>
              exact ⟨kg,f,d',3,A2,c2,(g,f,q) :: fs,kx,allOf (ks.drop (q + 1)) ++ rest,rfl,rfl,hf6,HQ4.out,HEX'.out,HP.out.1,HQ1.out,HQ2.out,HQ3.out,HCH.out.trans HP.out.2,by simp; omega⟩
            case measure => omega
end Go.Proofs.YteohomdiklkbfaaGreat
namespace Go.Proofs.YteohomdiklkbfaaGreat
open Go.RowKit Go.Proofs.Dm
variable {E:List (Option Nat)}

theorem orow_set {w:World} {e:TypeId} {sz c n b j:Nat} {cs:List Value} (h:ORow w e sz (some ⟨b,0,none⟩) c n cs) (hj:j < n * sz) (u:Value):ORow (w.setCell ⟨b,j,none⟩ u) e sz (some ⟨b,0,none⟩) c n (cs.set j u):=by
  refine ⟨by rw [List.length_set]; exact h.1,.inr ?_⟩
  rcases h.2 with ⟨he,_⟩ | ⟨g,cap,cur,he,hb,hg,h1,h2,h3,h4⟩
  · injection he with he; cases he
  · injection he with e1 e2 e3
    injection e1 with e1
    injection e1 with e1
    subst e1
    refine ⟨b,cap,cur.setIfInBounds j u,by rw [e3],hb,(show Blk w b e cur from hg).set_ j u,h1,h2,by simpa using h3,?_⟩
    rw [← h4,Array.toList_setIfInBounds,List.take_set]
theorem orow_frozen {w:World} {e:TypeId} {sz c n b:Nat} {cs:List Value} (h:ORow w e sz (some ⟨b,0,none⟩) c n cs) (j:Nat):w.frozen? ⟨b,j,none⟩ = false:=by
  rcases h.2 with ⟨he,_⟩ | ⟨g,cap,cur,he,hb,hg,_⟩
  · injection he with he; cases he
  · injection he with e1 e2 e3
    injection e1 with e1
    injection e1 with e1
    subst e1
    exact (show Blk w b e cur from hg).frozen j
theorem frs_set (f:Nat × Nat × Nat) (fs:List (Nat × Nat × Nat)) (k:Nat) (u:Value) (hk:k < 3):(frs (f :: fs)).set (fs.length * 3 + k) u = frs fs ++ (frc f).set k u:=by
  rw [frs_cons,List.set_append_right _ _ (by rw [frs_len]; omega),frs_len,Nat.add_sub_cancel_left]
section
variable {w0 w:World} {gs c b:Nat} {A:Option Addr} {f:Nat × Nat × Nat} {fs:List (Nat × Nat × Nat)}
theorem stk_ch {u:Value} {j:Nat} (h:StkOf E w0 w gs (some ⟨b,0,none⟩) c (f :: fs)):StkCh gs w (w.setCell ⟨b,j,none⟩ u) (some ⟨b,0,none⟩) (some ⟨b,0,none⟩) :=
  ⟨[some b],(Fr.refl _ w).setB (by simp) j u,fun k hk => by rw [List.mem_singleton] at hk; exact .inr (.inl hk.symm),.inl rfl⟩
theorem stk_setk (h:StkOf E w0 w gs (some ⟨b,0,none⟩) c (f :: fs)) (k:Nat) (hk:k < 3) (u:Value) (f':Nat × Nat × Nat) (hf':(frc f).set k u = frc f'):StkOf E w0 (w.setCell ⟨b,fs.length * 3 + k,none⟩ u) gs (some ⟨b,0,none⟩) c (f' :: fs) ∧ StkCh gs w (w.setCell ⟨b,fs.length * 3 + k,none⟩ u) (some ⟨b,0,none⟩) (some ⟨b,0,none⟩):=by
  have hch:StkCh gs w (w.setCell ⟨b,fs.length * 3 + k,none⟩ u) (some ⟨b,0,none⟩) (some ⟨b,0,none⟩):=stk_ch h
  obtain ⟨⟨h1,h2,h3⟩,h4,h5,h6⟩:=h
  have hbs:=h6 b rfl
  have hne:b ≠ gs:=fun e => h3 (by rw [e]; rfl)
  refine ⟨⟨⟨h1.far (fun e => hne e.symm) u,?_,h3⟩,h4.setB (by omega) _ _,h5,h6⟩,hch⟩
  have:=orow_set h2 (j:=fs.length * 3 + k) (by simp only [List.length_cons]; omega) u
  rw [frs_set f fs k u hk,hf',← frs_cons] at this
  exact this
theorem stk_pop (h:StkOf E w0 w gs (some ⟨b,0,none⟩) c (f :: fs)):StkOf E w0 (w.setCell ⟨gs,0,none⟩ (.slice (some ⟨b,0,none⟩) fs.length c)) gs (some ⟨b,0,none⟩) c fs ∧ StkCh gs w (w.setCell ⟨gs,0,none⟩ (.slice (some ⟨b,0,none⟩) fs.length c)) (some ⟨b,0,none⟩) (some ⟨b,0,none⟩):=by
  obtain ⟨⟨h1,h2,h3⟩,h4,h5,h6⟩:=h
  have hset:Fr [some gs] w (w.setCell ⟨gs,0,none⟩ (.slice (some ⟨b,0,none⟩) fs.length c)):=(Fr.refl _ w).setB (by simp) 0 _
  refine ⟨⟨⟨h1.set_ 0 _,?_,h3⟩,h4.setB (by omega) _ _,h5,h6⟩,[some gs],hset,fun k hk => by rw [List.mem_singleton] at hk; injection hk with hk; exact .inl hk,.inl rfl⟩
  have:=ORow.trunc h2 (m:=fs.length) (by simp) (by simp)
  rw [frs_cons,List.take_append_of_le_length (by rw [frs_len]; omega),List.take_of_length_le (by rw [frs_len]; omega)] at this
  exact ORow.fr this hset (.inr (by rw [List.mem_singleton]; exact h3))
end
def ForthAns (E:List (Option Nat)) (w0 w:World) (gs N:Nat) (A:Option Addr) (n:Nat) (L:List RV) (en:Ending) (w':World):Prop :=
  ∃ (A':Option Addr) (c':Nat) (fs':List (Nat × Nat × Nat)),en = .returned (.bool true) ∧ StkOf E w0 w' gs A' c' fs' ∧ TopAt E w0 N fs' L ∧ StkCh gs w w' A A' ∧ fs'.length ≤ n
theorem kids_at {w:World} {h:Nat} {ks:List (Nat × List RV)} (hks:NodesAt TN E w h 3 ks) {k:Nat} (hk:k < ks.length):w.cell? ⟨ks[k].1,2,none⟩ = some (.int .i64 (ks[k].2.length:Nat)):=(hks _ (List.getElem_mem hk)).cell2
set_option maxRecDepth 100000 in
set_option maxHeartbeats 1600000 in
theorem forth_any (w0 w:World) (gs a0 nx0 g0 c xl N:Nat) (A:Option Addr) (fs:List (Nat × Nat × Nat)) (L:List RV) (hst:StkOf E w0 w gs A c ((g0,a0,nx0) :: fs)) (ha:AncAt E w0 N 0 fs a0 xl L) (hL:L ≠ []) (hN:N ≤ 100000) (hl:fs.length ≤ 800) :
    Calls Tryz.prog 81 #[.pointer (some ⟨gs,0,none⟩)] w (ForthAns E w0 w gs N A (fs.length + 1) L):=by
  obtain ⟨b,rfl⟩:=ORow.some_ hst.1.2.1 (by simp)
  obtain ⟨n,hn⟩:∃ n,n = fs.length:=⟨_,rfl⟩
  rw [← hn] at hl ⊢
  have e0:w.cell? ⟨gs,0,none⟩ = some (.slice (some ⟨b,0,none⟩) (n + 1) c):=by rw [hn]; exact hst.1.1.cell 0
  have f0:=hst.1.1.frozen 0
  have l0:=hst.1.1.lt
  have hcn:n + 1 ≤ c:=by rw [hn]; exact ORow.cap hst.1.2.1
  have HPOP:Hid (StkOf E w0 (w.setCell ⟨gs,0,none⟩ (.slice (some ⟨b,0,none⟩) n c)).drew gs (some ⟨b,0,none⟩) c fs ∧ StkCh gs w (w.setCell ⟨gs,0,none⟩ (.slice (some ⟨b,0,none⟩) n c)).drew (some ⟨b,0,none⟩) (some ⟨b,0,none⟩)):=by
    rw [hn]
    exact ⟨(stk_pop hst).1.grow (Fr.drew (Fr.refl [] _)),(stk_pop hst).2.trans (StkCh.fr0 (Fr.drew (Fr.refl [] _)) rfl)⟩
  have r1:=run_upto (P:=Tryz.prog) 149 (some ⟨b,0,none⟩) (n + 1) c n (by kernel_rfl) 3 (by kernel_rfl) (by omega)
  have hw1:IntKind.i64.wrap ((n:Int) + 1 - 1) = (n:Int):=by rw [Int.add_sub_cancel]; exact IntWalk.i64_in _ (by omega)
  have hw2:IntKind.i64.wrap (n:Int) = (n:Int):=IntWalk.i64_in _ (by omega)
  have b1:(0:Int) ≤ (n:Int):=by omega
  have b2:(n:Int) ≤ (c:Int):=by omega
  have HA0:=Lib.hid ha
  have HNL:Hid (fs.length = n):=hn.symm
  have HLL:=Lib.hid hL
  clear hst ha hn hL
  go_enter Tryz.func81,Tryz.ntmps81
  go_wp2_with fail
  go_still_tail 14,(by kernel_rfl)
  go_wp2_with fail
  go_loopg [3] n (fun gk fv wr => ∃ (h a cc:Nat) (fs:List (Nat × Nat × Nat)),gk = fs.length ∧ Hid (StkOf E w0 wr gs (some ⟨b,0,none⟩) c fs) ∧ Hid (AncAt E w0 N h fs a cc L) ∧ Hid (StkCh gs w wr (some ⟨b,0,none⟩) (some ⟨b,0,none⟩)) ∧ fs.length + h = n)
  case atStart => exact ⟨0,a0,xl,fs,HNL.out.symm,HPOP.out.1,HA0.out,HPOP.out.2,by have:=HNL.out; omega⟩
  case round =>
    clear HPOP HA0 HNL e0 f0 l0 r1 hw1 hw2 b1 b2 hcn
    obtain ⟨h,a,cc,fs,rfl,HST,HA,HCH,hnh⟩:=hrel
    cases fs with
    | nil => exact absurd HA.out.2.2 HLL.out
    | cons f fs =>
      obtain ⟨g,fa,k⟩:=f
      have hlen:=HA.out.len
      obtain ⟨ks,A2,cp,rest',hK,h6,hks,⟨hk,hcc⟩,hfa,hsa,hL,hA'⟩:=HA.out
      simp only at hK hk hcc hfa hsa hL hA'
      have hlen2:=hA'.len
      subst hfa
      obtain ⟨nn,hnn⟩:∃ nn,nn = fs.length:=⟨_,rfl⟩
      have hnh:nn + 1 + h = n:=by rw [hnn]; simpa using hnh
      have HTOP:=Lib.hid (top_any gs b c nn wr (by rw [hnn]; exact HST.out.1.1) (by omega))
      have e0:wr.cell? ⟨gs,0,none⟩ = some (.slice (some ⟨b,0,none⟩) (nn + 1) c):=by rw [hnn]; exact HST.out.1.1.cell 0
      have hnn1:(0:Int) < (nn:Int) + 1:=by omega
      have HNN:=Lib.hid hnn
      have HK:=Lib.hid hK
      have HKS:=Lib.hid hks
      have HA':=Lib.hid hA'
      have HL:=Lib.hid hL
      clear hK hks hA' hL hnn
      go_wp2_with fail
      refine HTOP.out.mono ?_
      rintro e w1 ⟨rfl,hf1⟩
      have hst1:=HST.out.grow hf1
      obtain ⟨t0,t1,t2⟩:=hst1.1.top
      rw [← HNN.out] at t0 t1 t2
      simp only at t0 t1 t2
      have hkr:=HK.out.fr hst1.2.1
      have m0:w1.cell? ⟨g,0,none⟩ = some (.slice A2 ks.length cp):=hkr.now.1.cell 0
      obtain ⟨ad,rfl,m1⟩:=sl_ptrs hkr.now.2 (j:=k) (by rw [List.length_map]; exact hk)
      rw [List.getElem_map] at m1
      have m2:=kids_at (NodesAt.frE HKS.out hst1.2.1) hk
      obtain ⟨kg,hkg⟩:∃ kg,kg = ks[k].1:=⟨_,rfl⟩
      obtain ⟨km,hkm⟩:∃ km,km = ks[k].2.length:=⟨_,rfl⟩
      rw [← hkg] at m1 m2
      rw [← hkm] at m2 hcc
      subst hcc
      have hkl:(k:Int) < (ks.length:Int):=by omega
      have hw1:IntKind.i64.wrap ((fa:Int) + (cc:Int)) = (fa:Int) + (cc:Int):=IntWalk.i64_in _ (by omega)
      have f1:w1.frozen? ⟨b,nn * 3 + 1,none⟩ = false:=orow_frozen hst1.1.2.1 _
      have f2:w1.frozen? ⟨b,nn * 3 + 2,none⟩ = false:=orow_frozen hst1.1.2.1 _
      obtain ⟨fc,hfc⟩:∃ fc,fc = fa + cc:=⟨_,rfl⟩
      obtain ⟨k1,hk1⟩:∃ k1,k1 = k + 1:=⟨_,rfl⟩
      have HFC:=Lib.hid hfc
      have HK1:=Lib.hid hk1
      obtain ⟨w3,hw3⟩:∃ w3,w3 = ((w1.setCell ⟨b,nn * 3 + 1,none⟩ (.int .i64 ((fa:Int) + (cc:Int)))).setCell ⟨b,nn * 3 + 2,none⟩ (.int .i64 ((k:Int) + 1))).drew:=⟨_,rfl⟩
      have hst3:StkOf E w0 w3 gs (some ⟨b,0,none⟩) c ((g,fc,k1) :: fs) ∧ StkCh gs w1 w3 (some ⟨b,0,none⟩) (some ⟨b,0,none⟩):=by
        have q1:=stk_setk hst1 1 (by omega) (.int .i64 ((fa:Int) + (cc:Int))) (g,fa + cc,k) (by rw [← Int.natCast_add]; rfl)
        have q2:=stk_setk q1.1 2 (by omega) (.int .i64 ((k:Int) + 1)) (g,fa + cc,k + 1) (by rfl)
        rw [← HNN.out] at q1 q2
        rw [hw3,hfc,hk1]
        exact ⟨q2.1.grow (Fr.drew (Fr.refl [] _)),(q1.2.trans q2.2).trans (StkCh.fr0 (Fr.drew (Fr.refl [] _)) rfl)⟩
      have HS3:=Lib.hid hst3
      have l1:b < w1.heap.size:=World.block_lt_of_cell? w1 _ t0
      have HS1:=Lib.hid hst1
      have HC1:=Lib.hid (HCH.out.trans (StkCh.fr0 hf1 rfl))
      have HKM:=Lib.hid hkm
      clear hst1 hkr hkg hkm hf1 HTOP HST e0 hst3 hfc hk1
      go_wp2_with fail
      go_still_tail 23,(by kernel_rfl)
      go_wp2_with fail
      rw [← hw3]
      obtain ⟨s0,s1,s2⟩:=HS3.out.1.1.top
      rw [← HNN.out] at s0 s1 s2
      simp only at s0 s1 s2
      have hk3:=HK.out.fr HS3.out.1.2.1
      have n0:w3.cell? ⟨g,0,none⟩ = some (.slice (some ad) ks.length cp):=hk3.now.1.cell 0
      have e3:w3.cell? ⟨gs,0,none⟩ = some (.slice (some ⟨b,0,none⟩) (nn + 1) c):=by rw [HNN.out]; exact HS3.out.1.1.1.cell 0
      have HC3:=Lib.hid (HC1.out.trans HS3.out.2)
      have HK3:=Lib.hid hk3
      clear t0 t1 t2 m0 m1 m2 f1 f2 l1 hw3 hk3
      have hk1k:k1 = k + 1:=HK1.out
      have hw1k:IntKind.i64.wrap ((k1:Nat):Int) = (k1:Int):=IntWalk.i64_in _ (by omega)
      by_cases hlast:k1 < ks.length
      · have hlt:(k1:Int) < (ks.length:Int):=by omega
        have hltd:decide ((k1:Int) < (ks.length:Int)) = true:=decide_eq_true hlt
        obtain ⟨ad',he,m3⟩:=sl_ptrs HK3.out.now.2 (j:=k1) (by rw [List.length_map]; exact hlast)
        injection he with he
        subst he
        rw [List.getElem_map] at m3
        have HDN:Hid (∀ W,Fr [] w3 W → Calls Tryz.prog 78 #[.pointer (some ⟨gs,0,none⟩),.pointer (some ⟨ks[k1].1,0,none⟩),.int .i64 (fc:Nat),.int .i64 (fc:Nat)] W (DownAns E w0 W gs N (some ⟨b,0,none⟩) (n + 1) L)):=by
          show ∀ _,_
          intro W hf
          have hsn:=sumOf_snoc ks k (by omega)
          have hk2:=HKM.out
          have h1:=HFC.out
          have hx:=(HKS.out ks[k1] (List.getElem_mem hlast)).pos (by omega)
          have hnn:=HNN.out
          have:=down_any w0 W gs ks[k1].1 h 3 fc 0 fc c N (some ⟨b,0,none⟩) ((g,fc,k1) :: fs) ks[k1].2 (allOf (ks.drop (k1 + 1)) ++ rest') (HS3.out.1.grow hf) (HKS.out _ (List.getElem_mem hlast)) ⟨ks,some ad,cp,rest',HK.out,h6,HKS.out,⟨hlast,rfl⟩,rfl,by show sumOf (ks.take k1) ≤ fc; rw [hk1k,hsn]; omega,rfl,by
            show AncAt E w0 N (h + 1) fs (fc - sumOf (ks.take k1)) (sumOf ks) rest'
            rw [show fc - sumOf (ks.take k1) = fa - sumOf (ks.take k) by rw [hk1k,hsn]; omega]
            exact HA'.out⟩ (by omega) rfl hN (by simp; omega)
          rw [show ks[k1].2.drop 0 ++ (allOf (ks.drop (k1 + 1)) ++ rest') = L by
            have hal:allOf (ks.drop k1) = ks[k1].2 ++ allOf (ks.drop (k1 + 1)):=by
              rw [List.drop_eq_getElem_cons hlast]
              simp only [allOf,List.map_cons,List.flatten_cons]
            rw [HL.out,← hk1k,hal,List.drop_zero,List.append_assoc],show ((g,fc,k1) :: fs).length + h + 1 = n + 1 by simp; omega] at this
          exact this
        obtain ⟨kg1,hkg1⟩:∃ kg1,kg1 = ks[k1].1:=⟨_,rfl⟩
        rw [← hkg1] at m3 HDN
        have m4:∀ w4,Fr [] w3 w4 → w4.cell? (ad.add k1) = some (.pointer (some ⟨kg1,0,none⟩)):=fun w4 hf => (hf.cell (World.block_lt_of_cell? _ _ m3) (by simp)).trans m3
        have HM4:=Lib.hid m4
        clear hkg1 hk1k HK3 HKS HA' HL m3 m4
        go_quiet (fail)
        clear s0 s1 s2 n0 e3
        obtain ⟨w4,hw4⟩:∃ w4,w4 = w3.drewN nq:=⟨_,rfl⟩
        rw [← hw4]
        have hf4:Fr [] w3 w4:=by rw [hw4]; exact (Fr.refl [] w3).drewN nq
        have hst4:=HS3.out.1.grow hf4
        obtain ⟨s0,s1,s2⟩:=hst4.1.top
        rw [← HNN.out] at s0 s1 s2
        simp only at s0 s1 s2
        have n0:w4.cell? ⟨g,0,none⟩ = some (.slice (some ad) ks.length cp):=(HK.out.fr hst4.2.1).now.1.cell 0
        have e3:w4.cell? ⟨gs,0,none⟩ = some (.slice (some ⟨b,0,none⟩) (nn + 1) c):=by rw [HNN.out]; exact hst4.1.1.cell 0
        have m5:=HM4.out w4 hf4
        have HS4:=Lib.hid hst4
        have HC4:=Lib.hid (HC3.out.trans (StkCh.fr0 (A:=some ⟨b,0,none⟩) (A':=some ⟨b,0,none⟩) hf4 rfl))
        have HF4:=Lib.hid hf4
        clear HK hst4 hf4 hw4
        go_wp2_with fail
        go_still_tail 22,(by kernel_rfl)
        go_wp2_with fail
        refine (HDN.out _ HF4.out.drew).mono ?_
        rintro e w5 ⟨A5,c5,fs5,rfl,p1,p2,p3,p4⟩
        have HEND:Hid (ForthAns E w0 w gs N (some ⟨b,0,none⟩) (n + 1) L (.returned (.bool true)) w5):=⟨A5,c5,fs5,rfl,p1,p2,(HC4.out.trans (StkCh.fr0 (A:=some ⟨b,0,none⟩) (A':=some ⟨b,0,none⟩) ((Fr.refl [] w4).drew) rfl)).trans p3,p4⟩
        clear p1 p2 p3 p4
        go_wp2_with fail
        go_ret
        exact HEND.out
      · have hlt:¬ (k1:Int) < (ks.length:Int):=by omega
        have hltd:decide ((k1:Int) < (ks.length:Int)) = false:=decide_eq_false hlt
        have f3:=HS3.out.1.1.1.frozen 0
        have l3:=HS3.out.1.1.1.lt
        have hcn:nn + 1 ≤ c:=by rw [HNN.out]; exact ORow.cap HS3.out.1.1.2.1
        have r1:=run_upto (P:=Tryz.prog) 149 (some ⟨b,0,none⟩) (nn + 1) c nn (by kernel_rfl) 3 (by kernel_rfl) (by omega)
        have hw1:IntKind.i64.wrap ((nn:Int) + 1 - 1) = (nn:Int):=by rw [Int.add_sub_cancel]; exact IntWalk.i64_in _ (by omega)
        have hw2:IntKind.i64.wrap (nn:Int) = (nn:Int):=IntWalk.i64_in _ (by omega)
        have b1:(0:Int) ≤ (nn:Int):=by omega
        have b2:(nn:Int) ≤ (c:Int):=by omega
        clear hk1k HK3
        go_quiet (fail)
        clear s0 s1 s2 n0 e3 f3 l3
        obtain ⟨w4,hw4⟩:∃ w4,w4 = w3.drewN nq:=⟨_,rfl⟩
        rw [← hw4]
        have hf4:Fr [] w3 w4:=by rw [hw4]; exact (Fr.refl [] w3).drewN nq
        have hst4:=HS3.out.1.grow hf4
        obtain ⟨s0,s1,s2⟩:=hst4.1.top
        rw [← HNN.out] at s0 s1 s2
        simp only at s0 s1 s2
        have n0:w4.cell? ⟨g,0,none⟩ = some (.slice (some ad) ks.length cp):=(HK.out.fr hst4.2.1).now.1.cell 0
        have e3:w4.cell? ⟨gs,0,none⟩ = some (.slice (some ⟨b,0,none⟩) (nn + 1) c):=by rw [HNN.out]; exact hst4.1.1.cell 0
        have f4:=hst4.1.1.frozen 0
        have l4:=hst4.1.1.lt
        have HS4:=Lib.hid hst4
        have HC4:=Lib.hid (HC3.out.trans (StkCh.fr0 (A:=some ⟨b,0,none⟩) (A':=some ⟨b,0,none⟩) hf4 rfl))
        have HF4:=Lib.hid hf4
        clear hst4 hf4 hw4
        go_wp2_with fail
        go_still_tail 14,(by kernel_rfl)
        go_wp2_with fail
        go_roundg nn
        case rel =>
          have hpop:=stk_pop HS4.out
          rw [← HNN.out] at hpop
          have hz:allOf (ks.drop (k + 1)) = []:=by rw [List.drop_eq_nil_of_le (by have:=HK1.out; omega)]; rfl
          have hL2:L = rest':=by rw [HL.out,hz,List.nil_append]
          have hfd:Fr [] (w4.setCell ⟨gs,0,none⟩ (.slice (some ⟨b,0,none⟩) nn c)) (w4.setCell ⟨gs,0,none⟩ (.slice (some ⟨b,0,none⟩) nn c)).drew:=Fr.drew (Fr.refl [] _)
          exact ⟨h + 1,fa - sumOf (ks.take k),sumOf ks,fs,HNN.out,hpop.1.grow hfd,by show AncAt E _ _ _ _ _ _ _; rw [hL2]; exact HA'.out,(HC4.out.trans hpop.2).trans (StkCh.fr0 (A:=some ⟨b,0,none⟩) (A':=some ⟨b,0,none⟩) hfd rfl),by rw [← HNN.out]; omega⟩
        case measure => rw [List.length_cons,← HNN.out]; omega
end Go.Proofs.YteohomdiklkbfaaGreat
