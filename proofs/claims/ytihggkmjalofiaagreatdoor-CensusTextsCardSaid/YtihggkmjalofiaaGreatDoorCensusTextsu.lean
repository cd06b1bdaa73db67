/- The law CensusTexts: what its function goes by. -/
import Derived.Test.YtihggkmjalofiaaGreatDoorDoort
namespace Go.Proofs.YtihggkmjalofiaaGreatDoor
open Go.ChangeShapes Go.WideShapes Go.ChangeAt Go.RowKit Go.Deep

set_option maxRecDepth 100000 in
theorem censusTexts_goes : false = Rows.censusTextsRow.goesBy Tryz.pinned.checked.prog := by kernel_rfl
end Go.Proofs.YtihggkmjalofiaaGreatDoor
