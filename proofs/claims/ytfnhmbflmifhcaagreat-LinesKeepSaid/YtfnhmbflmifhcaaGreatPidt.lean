/- Names of patches: their texts. -/
import Derived.Test.YtfnhmbflmifhcaaGreatPidw
import Derived.Test.YtfnhmbflmifhcaaGreatShelf
import Derived.Laws.IdiomStrings
import Derived.Lib.ItoaLen
import Derived.Sort.Grow
namespace Go.Proofs.YtfnhmbflmifhcaaGreat
open Go.RowKit

end Go.Proofs.YtfnhmbflmifhcaaGreat
