/- A vertex' name; the chapter's example of patches: walked. -/
import Derived.Test.YtfnhmbflmifhcaaGreatPatt
import Derived.Test.YtfnhmbflmifhcaaGreatGen
namespace Go.Proofs.YtfnhmbflmifhcaaGreat
open Go.RowKit

def vid0 : VidV := ((0, 0), 0)
end Go.Proofs.YtfnhmbflmifhcaaGreat
