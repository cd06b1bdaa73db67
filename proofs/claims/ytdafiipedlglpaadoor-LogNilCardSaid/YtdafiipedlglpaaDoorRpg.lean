/- The reference's texts and patches as bytes: walked. -/
import Derived.Test.YtdafiipedlglpaaDoorRpf
namespace Go.Proofs.YtdafiipedlglpaaDoor
open Go.RowKit

end Go.Proofs.YtdafiipedlglpaaDoor
