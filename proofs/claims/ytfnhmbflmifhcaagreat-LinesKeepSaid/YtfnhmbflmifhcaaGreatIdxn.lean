/- The document's vector with one patch more; which patches of a list there are: walked. -/
import Derived.Test.YtfnhmbflmifhcaaGreatIdxz
namespace Go.Proofs.YtfnhmbflmifhcaaGreat
open Go.RowKit

end Go.Proofs.YtfnhmbflmifhcaaGreat
