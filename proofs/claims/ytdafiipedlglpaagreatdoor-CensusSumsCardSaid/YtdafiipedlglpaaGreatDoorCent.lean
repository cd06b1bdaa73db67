/- Texts of general use, one behind another. -/
import Derived.Test.YtdafiipedlglpaaGreatDoorCens
import Derived.Test.YtdafiipedlglpaaGreatDoorGen
import Derived.Test.YtdafiipedlglpaaGreatDoorRpg
import Derived.Test.YtdafiipedlglpaaGreatDoorIdxw
import Derived.Test.YtdafiipedlglpaaGreatDoorRgw
import Derived.Test.YtdafiipedlglpaaGreatDoorRgs

/- The document's side of a census: how many operations of a kind; what one patch adds: walked. -/
namespace Go.Proofs.YtdafiipedlglpaaGreatDoor
open Go.RowKit

end Go.Proofs.YtdafiipedlglpaaGreatDoor

/- The document's rows of patches: walked. -/
namespace Go.Proofs.YtdafiipedlglpaaGreatDoor
open Go.RowKit

end Go.Proofs.YtdafiipedlglpaaGreatDoor
