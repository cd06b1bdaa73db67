/- Names of patches: their texts. -/
import Derived.Test.YtdafiipedlglpaaDoorPidw
import Derived.Test.YtdafiipedlglpaaDoorShelf
import Derived.Laws.IdiomStrings
import Derived.Lib.ItoaLen
import Derived.Sort.Grow
namespace Go.Proofs.YtdafiipedlglpaaDoor
open Go.RowKit

end Go.Proofs.YtdafiipedlglpaaDoor
