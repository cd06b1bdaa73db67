/- The chapter's example of an index: walked. -/
import Derived.Test.YtnhbbggpgieipaaGreatIdxg
import Derived.Test.YtnhbbggpgieipaaGreatSub
namespace Go.Proofs.YtnhbbggpgieipaaGreat
open Go.RowKit

def w31o : OpV := (1, vid0, vid0, ByteArray.empty)
theorem w31_ops (w : World) : OpsAt (w.alloc (.cells (encO w31o).toArray 78)) (some ⟨w.heap.size, 0, none⟩) 1 [w31o] := by
  have := ops_new w [w31o] (by simp [OpV.ok, w31o, maxLen])
  simpa using this
theorem buildO31 (w : World) : (Instr.build 78 #[(0, .int .u8 1)]).run Tryz.prog w = .ok (.agg (encO w31o).toArray) w := by kernel_rfl
theorem buildP11 (w : World) : (Instr.build 33 #[(0, .int .u8 1), (1, .int .u16 1)]).run Tryz.prog w = .ok (.agg #[.int .u8 1, .int .u16 1]) w := by kernel_rfl
theorem buildP12 (w : World) : (Instr.build 33 #[(0, .int .u8 1), (1, .int .u16 2)]).run Tryz.prog w = .ok (.agg #[.int .u8 1, .int .u16 2]) w := by kernel_rfl
end Go.Proofs.YtnhbbggpgieipaaGreat
