/- The document's graph: an error: walked. -/
import Derived.Test.YtdafiipedlglpaaGreatDoorRgs
import Derived.Test.YtdafiipedlglpaaGreatDoorGrns
import Derived.Test.YtdafiipedlglpaaGreatDoorVrefs
import Derived.Test.YtdafiipedlglpaaGreatDoorGrhs
import Derived.Test.YtdafiipedlglpaaGreatDoorIdxy
namespace Go.Proofs.YtdafiipedlglpaaGreatDoor
open Go.RowKit

section
variable {A : List PatV} {o : OpV}
end
end Go.Proofs.YtdafiipedlglpaaGreatDoor
