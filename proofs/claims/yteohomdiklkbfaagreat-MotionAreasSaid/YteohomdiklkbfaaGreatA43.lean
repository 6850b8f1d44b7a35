import Derived.Test.YteohomdiklkbfaaGreatA42
import Derived.Test.YteohomdiklkbfaaGreatA40
import Derived.Test.YteohomdiklkbfaaGreatA29
namespace Go.Proofs.YteohomdiklkbfaaGreat
open Go.RowKit Go.Proofs.Dm

section
variable {s:List UInt8} {g:Nat} {p:Option Addr} {tl:Bool} {eo:Int} {rs:List RW} {x:GD} {w:World}
end
end Go.Proofs.YteohomdiklkbfaaGreat
namespace Go.Proofs.YteohomdiklkbfaaGreat
open Go.RowKit Go.Proofs.Dm

theorem run_store_func {P:Program} {w:World} {a:Addr} {m:Mode} (f:Fn) (x y:Array Value):(store a (.func f x y) m).run P w = stored P w a (.func f x y) m:=run_store P w a _ m rfl
attribute [local go_sem] run_store_func
end Go.Proofs.YteohomdiklkbfaaGreat
namespace Go.Proofs.YteohomdiklkbfaaGreat
open Go.RowKit Go.Proofs.Dm
attribute [local go_sem] run_store_func
theorem run_eql_func_nil (w:World) (f:Fn) (x y:Array Value):(binOp .eql 97 (.func f x y) .nilFunc).run Tryz.prog w = .ok (.bool false) w:=by
  have h:∀ d:Nat,(Op.equalIn (d + 1) 97 (.func f x y) .nilFunc).run Tryz.prog w = .ok false w:=fun d => by simp [Op.equalIn,run_underlying Tryz.underlying97]
  simp only [binOp]
  simp [Op.equal,Op.maxDepth,h 9999]
attribute [local go_sem] run_eql_func_nil

end Go.Proofs.YteohomdiklkbfaaGreat
