/- Names of patches: their texts. -/
import Derived.Test.YtdafiipedlglpaaGreatDoorPidw
import Derived.Test.YtdafiipedlglpaaGreatDoorShelf
import Derived.Laws.IdiomStrings
import Derived.Lib.ItoaLen
import Derived.Sort.Grow
namespace Go.Proofs.YtdafiipedlglpaaGreatDoor
open Go.RowKit

end Go.Proofs.YtdafiipedlglpaaGreatDoor
