/- Names of patches: their texts. -/
import Derived.Test.YtnhbbggpgieipaaGreatPidw
import Derived.Test.YtnhbbggpgieipaaGreatShelf
import Derived.Laws.IdiomStrings
import Derived.Lib.ItoaLen
import Derived.Sort.Grow
namespace Go.Proofs.YtnhbbggpgieipaaGreat
open Go.RowKit

end Go.Proofs.YtnhbbggpgieipaaGreat
