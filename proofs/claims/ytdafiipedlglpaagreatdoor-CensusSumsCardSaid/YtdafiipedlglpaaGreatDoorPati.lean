/- Whether two patches are the same: the document's, walked. -/
import Derived.Test.YtdafiipedlglpaaGreatDoorOps
namespace Go.Proofs.YtdafiipedlglpaaGreatDoor
open Go.RowKit

end Go.Proofs.YtdafiipedlglpaaGreatDoor
