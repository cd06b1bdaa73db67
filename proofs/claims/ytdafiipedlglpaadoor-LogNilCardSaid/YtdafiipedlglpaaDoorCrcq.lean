/- Bytes are opened by the document, and spoilt: walked. -/
import Derived.Test.YtdafiipedlglpaaDoorCrcv
import Derived.Test.YtdafiipedlglpaaDoorIdxw
import Derived.Test.YtdafiipedlglpaaDoorPcds
namespace Go.Proofs.YtdafiipedlglpaaDoor
open Go.RowKit

end Go.Proofs.YtdafiipedlglpaaDoor
