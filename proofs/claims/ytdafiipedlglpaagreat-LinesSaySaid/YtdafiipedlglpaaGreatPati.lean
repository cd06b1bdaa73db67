/- Whether two patches are the same: the document's, walked. -/
import Derived.Test.YtdafiipedlglpaaGreatOps
namespace Go.Proofs.YtdafiipedlglpaaGreat
open Go.RowKit

end Go.Proofs.YtdafiipedlglpaaGreat
