/- Whether an operation may stand in a patch: the document's, walked. -/
import Derived.Test.YtnhbbggpgieipaaPato
namespace Go.Proofs.Ytnhbbggpgieipaa
open Go.RowKit

end Go.Proofs.Ytnhbbggpgieipaa
