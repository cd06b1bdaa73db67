/- Texts of general use, one behind another. -/
import Derived.Test.YtdafiipedlglpaaGreatDoorGrhs
import Derived.Test.YtdafiipedlglpaaGreatDoorVids
import Derived.Test.YtdafiipedlglpaaGreatDoorGre

/- The document's graph: was a patch applied; is a vertex killed: walked. -/
namespace Go.Proofs.YtdafiipedlglpaaGreatDoor
open Go.RowKit

end Go.Proofs.YtdafiipedlglpaaGreatDoor

/- The document's graph: a vertex by its name: walked. -/
namespace Go.Proofs.YtdafiipedlglpaaGreatDoor
open Go.RowKit

end Go.Proofs.YtdafiipedlglpaaGreatDoor
