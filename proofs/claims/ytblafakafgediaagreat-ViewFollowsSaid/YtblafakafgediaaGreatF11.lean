import Derived.Test.YtblafakafgediaaGreatF10
namespace Go.Proofs.Dm
def cutP (s:List UInt8) (a n:Nat):List UInt8:=(s.drop a).take n
end Go.Proofs.Dm
namespace Go.Proofs.YtblafakafgediaaGreat
open Go.RowKit Go.Proofs.Dm

theorem CellAt.fr0 {N:Nat} {x:CV} {w w':World} (h:CellAt N x w) (hf:Fr [] w w'):CellAt N x w':=⟨h.1.fr hf (.inr List.not_mem_nil),h.2⟩
theorem RowAt.fr0 {N:Nat} {A:Option Addr} {cs:List CV} {w w':World} (h:RowAt N A cs w) (hf:Fr [] w w'):RowAt N A cs w':=⟨h.1.fr hf (.inr List.not_mem_nil),fun c hc => (h.2 c hc).fr0 hf⟩
set_option maxHeartbeats 800000 in
theorem cellbytes_any (w:World) (g m d q a n:Nat) (b:Bool) (B:Option Addr) (sp:List (Nat × Nat)) (s:List UInt8) (ha:ArAt g s w) (hc:CellAt s.length ⟨B,m,d,sp,q,a,n,b⟩ w) (hp:(plc sp).length ≤ 1000000) (hl:s.length ≤ 1000000) :
    Calls Tryz.prog 120 #[.agg #[.slice B m d,.int .i64 (q:Nat),.int .i64 (a:Nat),.int .i64 (n:Nat),.bool b],.pointer (some ⟨g,0,none⟩)] w (BytesAns w (atP s (plc sp))):=by
  have HC:Hid (∀ w',Fr [] w w' → Calls Tryz.prog 173 #[.agg #[.slice B m d,.int .i64 (q:Nat)],.pointer (some ⟨g,0,none⟩)] w' (BytesAns w' (atP s (plc sp)))):=by
    show ∀ _,_
    intro w' hf
    have h:=hc.fr0 hf
    exact flat_any w' g m d q B sp s (ha.fr0 hf) h.1 h.2.1 h.2.2.2.1 hp hl
  have HF:Hid (Fr [] w (w.alloc (.cells #[.slice B m d,.int .i64 (q:Nat),.int .i64 (a:Nat),.int .i64 (n:Nat),.bool b] TCl))):=(Fr.refl [] w).alloc _
  clear ha hc hp hl
  go_enter Tryz.func120,Tryz.ntmps120
  go_wp2_with fail
  refine (HC.out _ HF.out).mono ?_
  rintro e w2 ⟨B2,k2,d2,rfl,hk2,ho2,hf2,hn2⟩
  have HE:Hid (BytesAns w (atP s (plc sp)) (.returned (.slice B2 k2 d2)) w2):=⟨B2,k2,d2,rfl,hk2,ho2,HF.out.trans hf2,fun j hj => by have:=hn2 j hj; have:=HF.out.size; omega⟩
  clear hk2 ho2 hf2 hn2
  go_wp2_with fail
  go_ret
  exact HE.out
end Go.Proofs.YtblafakafgediaaGreat
namespace Go.Proofs.YtblafakafgediaaGreat
open Go.RowKit Go.Proofs.Dm

end Go.Proofs.YtblafakafgediaaGreat
