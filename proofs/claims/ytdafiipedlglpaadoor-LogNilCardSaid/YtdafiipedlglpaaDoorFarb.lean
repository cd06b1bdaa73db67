/- What the document decodes lies in new blocks: walked. -/
import Derived.Test.YtdafiipedlglpaaDoorFara
import Derived.Test.YtdafiipedlglpaaDoorRph
namespace Go.Proofs.YtdafiipedlglpaaDoor
open Go.RowKit

end Go.Proofs.YtdafiipedlglpaaDoor
