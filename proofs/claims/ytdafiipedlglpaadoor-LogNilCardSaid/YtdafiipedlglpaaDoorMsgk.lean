/- The document's bytes; a vector is read: walked. -/
import Derived.Test.YtdafiipedlglpaaDoorMsgj
import Derived.Test.YtdafiipedlglpaaDoorCrcs
import Derived.Test.YtdafiipedlglpaaDoorPcds
namespace Go.Proofs.YtdafiipedlglpaaDoor
open Go.RowKit

end Go.Proofs.YtdafiipedlglpaaDoor
