/- The law ImageSpoilt: its tables are tied. -/
import Derived.Test.YtihggkmjalofiaaGreatDoorDoorz
namespace Go.Proofs.YtihggkmjalofiaaGreatDoor
open Go.ChangeShapes Go.WideShapes Go.ChangeAt Go.RowKit Go.Deep

theorem imageSpoilt_tied : Rows.imageSpoiltRow.laidByTextAt .later Tryz.pinned laidKs true := OpenClaim.laidByTextAt_later rfl rfl tie (by kernel_rfl)
end Go.Proofs.YtihggkmjalofiaaGreatDoor
