/- The document's graph: was a patch applied; is a vertex killed: walked. -/
import Derived.Test.YtfnhmbflmifhcaaGreatGri
import Derived.Test.YtfnhmbflmifhcaaGreatVids
namespace Go.Proofs.YtfnhmbflmifhcaaGreat
open Go.RowKit

end Go.Proofs.YtfnhmbflmifhcaaGreat
