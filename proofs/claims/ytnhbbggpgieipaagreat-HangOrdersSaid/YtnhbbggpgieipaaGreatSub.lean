/- Regions that draw their order and whose operations keep a condition on the world: one walk in the order of the text. No program in sight but as a variable. -/
import Derived.Test.YtnhbbggpgieipaaGreatIdxw
namespace Go.Proofs.YtnhbbggpgieipaaGreat
open Go.RowKit

end Go.Proofs.YtnhbbggpgieipaaGreat
