/- A patch copied: walked. -/
import Derived.Test.YtnhbbggpgieipaaPatv
import Derived.Test.YtnhbbggpgieipaaGen
namespace Go.Proofs.Ytnhbbggpgieipaa
open Go.RowKit

end Go.Proofs.Ytnhbbggpgieipaa
