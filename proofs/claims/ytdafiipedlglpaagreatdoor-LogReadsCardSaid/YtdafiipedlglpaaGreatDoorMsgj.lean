/- A message is encoded by the document: walked. -/
import Derived.Test.YtdafiipedlglpaaGreatDoorMsgi
import Derived.Test.YtdafiipedlglpaaGreatDoorRpg
namespace Go.Proofs.YtdafiipedlglpaaGreatDoor
open Go.RowKit

end Go.Proofs.YtdafiipedlglpaaGreatDoor
