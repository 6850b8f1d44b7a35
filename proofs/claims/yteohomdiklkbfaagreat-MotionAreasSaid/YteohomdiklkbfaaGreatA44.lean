import Derived.Test.YteohomdiklkbfaaGreatA43
namespace Go.Proofs.YteohomdiklkbfaaGreat
open Go.RowKit Go.Proofs.Dm
attribute [local go_sem] run_store_func
attribute [local go_sem] run_eql_func_nil
def CntK (n:Int) (k:Nat):Prop:=(k:Int) = min (max n 1) 9999

end Go.Proofs.YteohomdiklkbfaaGreat
