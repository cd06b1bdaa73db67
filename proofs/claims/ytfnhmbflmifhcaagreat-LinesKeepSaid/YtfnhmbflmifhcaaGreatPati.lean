/- Whether two patches are the same: the document's, walked. -/
import Derived.Test.YtfnhmbflmifhcaaGreatOps
namespace Go.Proofs.YtfnhmbflmifhcaaGreat
open Go.RowKit

end Go.Proofs.YtfnhmbflmifhcaaGreat
