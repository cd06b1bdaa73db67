/- Texts of general use, one behind another. -/
import Derived.Test.YtdafiipedlglpaaGreatIdxz
import Derived.Test.YtdafiipedlglpaaGreatMrc
import Derived.Test.YtdafiipedlglpaaGreatSets

/- A pool of patches as it lies; the names of those that wait, rising: walked. -/
namespace Go.Proofs.YtdafiipedlglpaaGreat
open Go.RowKit

end Go.Proofs.YtdafiipedlglpaaGreat

/- A pool: how many wait, for how many there is room; of a nil pool there is nothing: walked. -/
namespace Go.Proofs.YtdafiipedlglpaaGreat
open Go.RowKit

end Go.Proofs.YtdafiipedlglpaaGreat

/- Of a nil pool nothing is pruned, nothing is ready, there is nothing: walked. -/
namespace Go.Proofs.YtdafiipedlglpaaGreat
open Go.RowKit

end Go.Proofs.YtdafiipedlglpaaGreat

/- A pool's entries: found by a name, added, taken out. Plain law. -/
namespace Go.Proofs.YtdafiipedlglpaaGreat
open Go.RowKit

section
variable {w : World} {D : Nat → Prop} {E : List (Value × Value)} {M : List PatV}
end
end Go.Proofs.YtdafiipedlglpaaGreat

/- What a pool answers, and what waits then: plain laws. -/
namespace Go.Proofs.YtdafiipedlglpaaGreat
open Go.RowKit

end Go.Proofs.YtdafiipedlglpaaGreat
