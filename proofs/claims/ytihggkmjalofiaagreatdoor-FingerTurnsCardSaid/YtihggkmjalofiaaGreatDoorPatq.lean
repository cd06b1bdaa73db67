/- Whether an operation may stand in a patch: the document's, walked. -/
import Derived.Test.YtihggkmjalofiaaGreatDoorPato
namespace Go.Proofs.YtihggkmjalofiaaGreatDoor
open Go.RowKit

theorem allocOp (w : World) : (Instr.alloc 122 true (.tuple #[])).run Tryz.prog w = .ok (.pointer (some ⟨w.heap.size, 0, none⟩)) (w.alloc (.cells #[.int .u8 0, .int .u8 0, .int .u16 0, .int .u8 0, .int .u8 0, .int .u16 0, .int .u8 0, .string ByteArray.empty] 122)) := by kernel_rfl
theorem blk_off {w : World} {g : Nat} {t : TypeId} {cs : Array Value} (h : Blk w g t cs) {n : Nat} {l : List Value} (hl : ∀ j v, l[j]? = some v → cs[n + j]? = some v) : w.rangeAt g n l := fun j v hj => by
  rw [h.cell]
  exact hl j v hj
theorem op_at1 {w : World} {g : Nat} {t : TypeId} {o : OpV} (h : Blk w g t (encO o).toArray) : w.rangeAt g 1 (encV o.2.1) := blk_off h fun j v hj => by
  match j, hj with
  | 0, hj => exact hj
  | 1, hj => exact hj
  | 2, hj => exact hj
  | j + 3, hj => simp [encV] at hj
theorem op_at4 {w : World} {g : Nat} {t : TypeId} {o : OpV} (h : Blk w g t (encO o).toArray) : w.rangeAt g 4 (encV o.2.2.1) := blk_off h fun j v hj => by
  match j, hj with
  | 0, hj => exact hj
  | 1, hj => exact hj
  | 2, hj => exact hj
  | j + 3, hj => simp [encV] at hj
theorem kind_eq (o : OpV) (c : Nat) : ((((o.1.val : Nat) : Int) == (c : Int)) = decide (o.1.val = c)) := by
  by_cases h : o.1.val = c
  · rw [decide_eq_true h, h]; exact beq_self_eq_true _
  · rw [decide_eq_false h]; exact beq_eq_false_iff_ne.2 (by omega)

end Go.Proofs.YtihggkmjalofiaaGreatDoor
