/- Whether two patches are the same: the document's, walked. -/
import Derived.Test.YtnhbbggpgieipaaOps
namespace Go.Proofs.Ytnhbbggpgieipaa
open Go.RowKit

end Go.Proofs.Ytnhbbggpgieipaa
