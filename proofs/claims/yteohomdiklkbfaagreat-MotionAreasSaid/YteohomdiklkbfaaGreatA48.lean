import Derived.Test.YteohomdiklkbfaaGreatA47
import Derived.Test.YteohomdiklkbfaaGreatA43
namespace Go.Proofs.YteohomdiklkbfaaGreat
open Go.RowKit Go.Proofs.Dm
attribute [local go_sem] run_store_func

section
variable {s:List UInt8} {g:Nat} {p:Option Addr} {tl:Bool} {eo:Int} {rs:List RW} {x:GD} {w:World}
theorem Sett.ok {xs:List RV} {pr pc:Int} {R C:Nat} (h:Sett xs pr pc R C):PlaceOK xs R C:=⟨h.set_,by have:=h.col; omega⟩
end
end Go.Proofs.YteohomdiklkbfaaGreat
