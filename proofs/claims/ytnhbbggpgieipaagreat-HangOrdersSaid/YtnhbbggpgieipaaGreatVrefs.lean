/- Vectors: the document's number of an author, the patch that comes next, whether a patch is had, one patch more. -/
import Derived.Test.YtnhbbggpgieipaaGreatVecs
import Derived.Test.YtnhbbggpgieipaaGreatIdxw
import Derived.Deep.DeepCutAuto
namespace Go.Proofs.YtnhbbggpgieipaaGreat
open Go.RowKit

end Go.Proofs.YtnhbbggpgieipaaGreat
