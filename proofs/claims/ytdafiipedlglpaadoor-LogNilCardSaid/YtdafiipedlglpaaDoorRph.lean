/- The reference's decoding of a patch: walked. -/
import Derived.Test.YtdafiipedlglpaaDoorRpg
import Derived.Test.YtdafiipedlglpaaDoorGen
import Derived.Test.YtdafiipedlglpaaDoorIdxw
namespace Go.Proofs.YtdafiipedlglpaaDoor
open Go.RowKit

end Go.Proofs.YtdafiipedlglpaaDoor
