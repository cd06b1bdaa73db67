/- Names of patches: their texts. -/
import Derived.Test.YtnhbbggpgieipaaPidw
import Derived.Test.YtnhbbggpgieipaaShelf
import Derived.Laws.IdiomStrings
import Derived.Lib.ItoaLen
import Derived.Sort.Grow
namespace Go.Proofs.Ytnhbbggpgieipaa
open Go.RowKit

end Go.Proofs.Ytnhbbggpgieipaa
