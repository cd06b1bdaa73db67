/- A patch copied: walked. -/
import Derived.Test.YtfnhmbflmifhcaaPatv
import Derived.Test.YtfnhmbflmifhcaaGen
namespace Go.Proofs.Ytfnhmbflmifhcaa
open Go.RowKit

end Go.Proofs.Ytfnhmbflmifhcaa
