/- A vertex' name; the chapter's example of patches: walked. -/
import Derived.Test.YtfnhmbflmifhcaaPatt
import Derived.Test.YtfnhmbflmifhcaaGen
namespace Go.Proofs.Ytfnhmbflmifhcaa
open Go.RowKit

def vid0 : VidV := ((0, 0), 0)
end Go.Proofs.Ytfnhmbflmifhcaa
