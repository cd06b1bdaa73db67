/- Vectors: the document's number of an author, the patch that comes next, whether a patch is had, one patch more. -/
import Derived.Test.YtdafiipedlglpaaGreatDoorVecs
import Derived.Test.YtdafiipedlglpaaGreatDoorIdxw
import Derived.Deep.DeepCutAuto
namespace Go.Proofs.YtdafiipedlglpaaGreatDoor
open Go.RowKit

end Go.Proofs.YtdafiipedlglpaaGreatDoor
