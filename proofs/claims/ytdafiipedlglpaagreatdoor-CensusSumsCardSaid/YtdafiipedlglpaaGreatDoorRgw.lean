/- Texts of general use, one behind another. -/
import Derived.Test.YtdafiipedlglpaaGreatDoorRgf
import Derived.Test.YtdafiipedlglpaaGreatDoorRgs
import Derived.Test.YtdafiipedlglpaaGreatDoorGrns
import Derived.Test.YtdafiipedlglpaaGreatDoorGras

/- The document's graph: a patch that is applied: walked. -/
namespace Go.Proofs.YtdafiipedlglpaaGreatDoor
open Go.RowKit

end Go.Proofs.YtdafiipedlglpaaGreatDoor

/- Whatever patches come, each error, and all that is there, is what the document says: the statement walked. -/
namespace Go.Proofs.YtdafiipedlglpaaGreatDoor
open Go.RowKit

end Go.Proofs.YtdafiipedlglpaaGreatDoor
