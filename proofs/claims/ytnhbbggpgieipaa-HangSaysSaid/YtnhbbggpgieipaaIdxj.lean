/- Who lacks some can put the first one at once, and then all, in order: walked. -/
import Derived.Test.YtnhbbggpgieipaaIdxh
namespace Go.Proofs.Ytnhbbggpgieipaa
open Go.RowKit

end Go.Proofs.Ytnhbbggpgieipaa
