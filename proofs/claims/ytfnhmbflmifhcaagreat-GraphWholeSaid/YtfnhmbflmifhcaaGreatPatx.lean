/- Patches made: the statement walked. -/
import Derived.Test.YtfnhmbflmifhcaaGreatPatv
import Derived.Test.YtfnhmbflmifhcaaGreatPati
import Derived.Deep.RegionHeld3
namespace Go.Proofs.YtfnhmbflmifhcaaGreat
open Go.RowKit

end Go.Proofs.YtfnhmbflmifhcaaGreat
