/- The document's graph: a vertex by its name: walked. -/
import Derived.Test.YtfnhmbflmifhcaaGreatRga
import Derived.Test.YtfnhmbflmifhcaaGreatGre
namespace Go.Proofs.YtfnhmbflmifhcaaGreat
open Go.RowKit

theorem allocVid20 (w : World) : (Instr.alloc 43 true (.tuple #[])).run Tryz.prog w = .ok (.pointer (some ⟨w.heap.size, 0, none⟩)) (w.alloc (.cells #[.int .u8 0, .int .u16 0, .int .u8 0] 43)) := by kernel_rfl
theorem encV_all20 (v : VidV) : (encV v).toArray.all (·.oneCell') = true := by simp [encV, Value.oneCell']
theorem buildXz (w : World) : (Instr.build 46 #[]).run Tryz.prog w = .ok (.agg (encX zeroVert).toArray) w := by kernel_rfl
end Go.Proofs.YtfnhmbflmifhcaaGreat
