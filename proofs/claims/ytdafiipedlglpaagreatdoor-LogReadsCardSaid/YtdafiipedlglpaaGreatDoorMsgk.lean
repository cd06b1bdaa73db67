/- The document's bytes; a vector is read: walked. -/
import Derived.Test.YtdafiipedlglpaaGreatDoorMsgj
import Derived.Test.YtdafiipedlglpaaGreatDoorCrcs
import Derived.Test.YtdafiipedlglpaaGreatDoorPcds
namespace Go.Proofs.YtdafiipedlglpaaGreatDoor
open Go.RowKit

end Go.Proofs.YtdafiipedlglpaaGreatDoor
