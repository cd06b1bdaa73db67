/- A message is encoded by the program: walked. -/
import Derived.Test.YtdafiipedlglpaaGreatDoorMsgs
import Derived.Test.YtdafiipedlglpaaGreatDoorMsgh
import Derived.Test.YtdafiipedlglpaaGreatDoorCrcv
namespace Go.Proofs.YtdafiipedlglpaaGreatDoor
open Go.RowKit

end Go.Proofs.YtdafiipedlglpaaGreatDoor
