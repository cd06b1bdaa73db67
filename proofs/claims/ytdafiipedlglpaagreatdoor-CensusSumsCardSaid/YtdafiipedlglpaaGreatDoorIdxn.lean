/- The document's vector with one patch more; which patches of a list there are: walked. -/
import Derived.Test.YtdafiipedlglpaaGreatDoorIdxz
namespace Go.Proofs.YtdafiipedlglpaaGreatDoor
open Go.RowKit

end Go.Proofs.YtdafiipedlglpaaGreatDoor
