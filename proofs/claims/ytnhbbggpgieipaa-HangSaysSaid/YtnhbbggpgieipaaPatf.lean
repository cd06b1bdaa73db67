/- Which patches come ahead: the program's, walked. -/
import Derived.Test.YtnhbbggpgieipaaOps
namespace Go.Proofs.Ytnhbbggpgieipaa
open Go.RowKit

end Go.Proofs.Ytnhbbggpgieipaa
