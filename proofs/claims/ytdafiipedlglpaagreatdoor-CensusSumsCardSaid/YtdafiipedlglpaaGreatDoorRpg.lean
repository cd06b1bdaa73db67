/- The reference's texts and patches as bytes: walked. -/
import Derived.Test.YtdafiipedlglpaaGreatDoorRpf
namespace Go.Proofs.YtdafiipedlglpaaGreatDoor
open Go.RowKit

end Go.Proofs.YtdafiipedlglpaaGreatDoor
