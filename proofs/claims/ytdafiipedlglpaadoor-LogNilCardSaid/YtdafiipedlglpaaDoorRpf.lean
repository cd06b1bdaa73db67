/- The reference's reading of an operation: walked. -/
import Derived.Test.YtdafiipedlglpaaDoorRps
import Derived.Test.YtdafiipedlglpaaDoorPcds
namespace Go.Proofs.YtdafiipedlglpaaDoor
open Go.RowKit

end Go.Proofs.YtdafiipedlglpaaDoor
