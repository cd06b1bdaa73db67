/- Whether two patches are the same: the document's, walked. -/
import Derived.Test.YtnhbbggpgieipaaGreatOps
namespace Go.Proofs.YtnhbbggpgieipaaGreat
open Go.RowKit

end Go.Proofs.YtnhbbggpgieipaaGreat
