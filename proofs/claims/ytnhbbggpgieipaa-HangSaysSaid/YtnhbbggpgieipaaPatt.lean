/- Patches made: walked. -/
import Derived.Test.YtnhbbggpgieipaaPats
import Derived.Test.YtnhbbggpgieipaaGen
namespace Go.Proofs.Ytnhbbggpgieipaa
open Go.RowKit

end Go.Proofs.Ytnhbbggpgieipaa
