/- Vectors: the document's number of an author, the patch that comes next, whether a patch is had, one patch more. -/
import Derived.Test.YtfnhmbflmifhcaaGreatVecs
import Derived.Test.YtfnhmbflmifhcaaGreatIdxw
import Derived.Deep.DeepCutAuto
namespace Go.Proofs.YtfnhmbflmifhcaaGreat
open Go.RowKit

end Go.Proofs.YtfnhmbflmifhcaaGreat
