/- Vectors: the document's number of an author, the patch that comes next, whether a patch is had, one patch more. -/
import Derived.Test.YtnhbbggpgieipaaVecs
import Derived.Test.YtnhbbggpgieipaaIdxw
import Derived.Deep.DeepCutAuto
namespace Go.Proofs.Ytnhbbggpgieipaa
open Go.RowKit

end Go.Proofs.Ytnhbbggpgieipaa
