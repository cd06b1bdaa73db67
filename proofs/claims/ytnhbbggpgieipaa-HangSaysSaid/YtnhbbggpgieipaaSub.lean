/- Regions that draw their order and whose operations keep a condition on the world: one walk in the order of the text. No program in sight but as a variable. -/
import Derived.Test.YtnhbbggpgieipaaIdxw
namespace Go.Proofs.Ytnhbbggpgieipaa
open Go.RowKit

end Go.Proofs.Ytnhbbggpgieipaa
