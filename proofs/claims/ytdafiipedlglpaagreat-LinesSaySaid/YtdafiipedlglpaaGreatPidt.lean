/- Names of patches: their texts. -/
import Derived.Test.YtdafiipedlglpaaGreatPidw
import Derived.Test.YtdafiipedlglpaaGreatShelf
import Derived.Laws.IdiomStrings
import Derived.Lib.ItoaLen
import Derived.Sort.Grow
namespace Go.Proofs.YtdafiipedlglpaaGreat
open Go.RowKit

end Go.Proofs.YtdafiipedlglpaaGreat
