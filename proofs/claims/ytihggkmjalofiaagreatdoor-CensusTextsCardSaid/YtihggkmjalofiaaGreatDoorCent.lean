/- Texts of general use, one behind another. -/
import Derived.Test.YtihggkmjalofiaaGreatDoorCens
import Derived.Test.YtihggkmjalofiaaGreatDoorGen
import Derived.Test.YtihggkmjalofiaaGreatDoorRps
import Derived.Test.YtihggkmjalofiaaGreatDoorPcds
import Derived.Test.YtihggkmjalofiaaGreatDoorIdxw
import Derived.Test.YtihggkmjalofiaaGreatDoorVecs
import Derived.Deep.DeepCutAuto
import Derived.Test.YtihggkmjalofiaaGreatDoorGrhs
import Derived.Test.YtihggkmjalofiaaGreatDoorGras

/- The document's side of a census: how many operations of a kind; what one patch adds: walked. -/
namespace Go.Proofs.YtihggkmjalofiaaGreatDoor
open Go.RowKit

end Go.Proofs.YtihggkmjalofiaaGreatDoor

/- The document's rows of patches: walked. -/
namespace Go.Proofs.YtihggkmjalofiaaGreatDoor
open Go.RowKit

theorem allocRR (w : World) : (Instr.alloc 109 true (.tuple #[])).run Tryz.prog w = .ok (.pointer (some ⟨w.heap.size, 0, none⟩)) (w.alloc (.cells (encR zeroR).toArray 109)) := by kernel_rfl
theorem underRR : Tryz.prog.underlying 109 = some (.struct (Tryz.prog.fieldsOf 109)) := by kernel_rfl
theorem infoRR : (Tryz.prog.info? 109).map (·.size) = some 9 := by kernel_rfl
theorem rrSl : SlT Tryz.prog 112 109 9 72 := slT_of Tryz.underlying112 (z := .agg (encR zeroR).toArray) (by kernel_rfl) rfl (by omega)
end Go.Proofs.YtihggkmjalofiaaGreatDoor
