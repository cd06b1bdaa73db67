/- Whether a patch may be: the document's, walked. -/
import Derived.Test.YtnhbbggpgieipaaPatq
import Derived.Deep.RegionHeld3
namespace Go.Proofs.Ytnhbbggpgieipaa
open Go.RowKit

end Go.Proofs.Ytnhbbggpgieipaa
