/- The reference's reading of an operation: walked. -/
import Derived.Test.YtdafiipedlglpaaGreatDoorRps
import Derived.Test.YtdafiipedlglpaaGreatDoorPcds
namespace Go.Proofs.YtdafiipedlglpaaGreatDoor
open Go.RowKit

end Go.Proofs.YtdafiipedlglpaaGreatDoor
