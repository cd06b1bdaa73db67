/- Of a nil index there is nothing: walked. -/
import Derived.Test.YtnhbbggpgieipaaIdxj
namespace Go.Proofs.Ytnhbbggpgieipaa
open Go.RowKit

end Go.Proofs.Ytnhbbggpgieipaa
