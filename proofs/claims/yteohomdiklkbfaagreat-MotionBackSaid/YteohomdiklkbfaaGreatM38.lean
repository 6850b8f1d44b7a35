import Derived.Test.YteohomdiklkbfaaGreatM36
import Derived.Test.YteohomdiklkbfaaGreatM17
import Derived.Test.YteohomdiklkbfaaGreatM37
namespace Go.Proofs.YteohomdiklkbfaaGreat
open Go.RowKit Go.Proofs.Dm

end Go.Proofs.YteohomdiklkbfaaGreat
