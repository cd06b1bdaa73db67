/- A message is encoded by the program: walked. -/
import Derived.Test.YtdafiipedlglpaaDoorMsgs
import Derived.Test.YtdafiipedlglpaaDoorMsgh
import Derived.Test.YtdafiipedlglpaaDoorCrcv
namespace Go.Proofs.YtdafiipedlglpaaDoor
open Go.RowKit

end Go.Proofs.YtdafiipedlglpaaDoor
