/- A message is encoded by the document: walked. -/
import Derived.Test.YtdafiipedlglpaaDoorMsgi
import Derived.Test.YtdafiipedlglpaaDoorRpg
namespace Go.Proofs.YtdafiipedlglpaaDoor
open Go.RowKit

end Go.Proofs.YtdafiipedlglpaaDoor
