/- The law ImageSpoilt: what its function goes by. -/
import Derived.Test.YtihggkmjalofiaaGreatDoorDoorz
namespace Go.Proofs.YtihggkmjalofiaaGreatDoor
open Go.ChangeShapes Go.WideShapes Go.ChangeAt Go.RowKit Go.Deep

set_option maxRecDepth 100000 in
theorem imageSpoilt_goes : false = Rows.imageSpoiltRow.goesBy Tryz.pinned.checked.prog := by kernel_rfl
end Go.Proofs.YtihggkmjalofiaaGreatDoor
