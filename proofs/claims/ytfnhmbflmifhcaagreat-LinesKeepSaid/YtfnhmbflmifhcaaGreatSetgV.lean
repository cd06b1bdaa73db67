/- Sets of names: the document's, walked. -/
import Derived.Test.YtfnhmbflmifhcaaGreatVids
import Derived.Test.YtfnhmbflmifhcaaGreatGen
namespace Go.Proofs.YtfnhmbflmifhcaaGreat
open Go.RowKit

end Go.Proofs.YtfnhmbflmifhcaaGreat
