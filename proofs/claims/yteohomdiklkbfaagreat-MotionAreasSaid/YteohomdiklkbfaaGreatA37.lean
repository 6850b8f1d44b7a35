import Derived.Test.YteohomdiklkbfaaGreatA35
import Derived.Test.YteohomdiklkbfaaGreatA17
import Derived.Test.YteohomdiklkbfaaGreatA36
namespace Go.Proofs.YteohomdiklkbfaaGreat
open Go.RowKit Go.Proofs.Dm

end Go.Proofs.YteohomdiklkbfaaGreat
