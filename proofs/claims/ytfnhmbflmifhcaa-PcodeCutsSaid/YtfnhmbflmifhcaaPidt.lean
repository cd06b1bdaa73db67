/- Names of patches: their texts. -/
import Derived.Test.YtfnhmbflmifhcaaPidw
import Derived.Test.YtfnhmbflmifhcaaShelf
import Derived.Laws.IdiomStrings
import Derived.Lib.ItoaLen
import Derived.Sort.Grow
namespace Go.Proofs.Ytfnhmbflmifhcaa
open Go.RowKit

end Go.Proofs.Ytfnhmbflmifhcaa
