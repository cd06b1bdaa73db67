/- A patch copied: walked. -/
import Derived.Test.YtfnhmbflmifhcaaGreatPatv
import Derived.Test.YtfnhmbflmifhcaaGreatGen
namespace Go.Proofs.YtfnhmbflmifhcaaGreat
open Go.RowKit

end Go.Proofs.YtfnhmbflmifhcaaGreat
