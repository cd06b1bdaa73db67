/- Whether an operation may stand in a patch: the document's, walked. -/
import Derived.Test.YtihggkmjalofiaaGreatDoorPato
namespace Go.Proofs.YtihggkmjalofiaaGreatDoor
open Go.RowKit

theorem allocOp (w : World) : (Instr.alloc 122 true (.tuple #[])).run Tryz.prog w = .ok (.pointer (some ⟨w.heap.size, 0, none⟩)) (w.alloc (.cells #[.int .u8 0, .int .u8 0, .int .u16 0, .int .u8 0, .int .u8 0, .int .u16 0, .int .u8 0, .string ByteArray.empty] 122)) := by kernel_rfl
theorem kind_eq (o : OpV) (c : Nat) : ((((o.1.val : Nat) : Int) == (c : Int)) = decide (o.1.val = c)) := by
  by_cases h : o.1.val = c
  · rw [decide_eq_true h, h]; exact beq_self_eq_true _
  · rw [decide_eq_false h]; exact beq_eq_false_iff_ne.2 (by omega)

end Go.Proofs.YtihggkmjalofiaaGreatDoor
