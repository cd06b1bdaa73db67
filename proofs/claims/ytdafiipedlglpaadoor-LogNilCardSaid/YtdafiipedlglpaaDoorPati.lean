/- Whether two patches are the same: the document's, walked. -/
import Derived.Test.YtdafiipedlglpaaDoorOps
namespace Go.Proofs.YtdafiipedlglpaaDoor
open Go.RowKit

end Go.Proofs.YtdafiipedlglpaaDoor
