/- Any patch is encoded, and any bytes are decoded, as the document says: walked. -/
import Derived.Test.YtdafiipedlglpaaGreatDoorRph
import Derived.Test.YtdafiipedlglpaaGreatDoorPcds
import Derived.Test.YtdafiipedlglpaaGreatDoorKinds
import Derived.Test.YtdafiipedlglpaaGreatDoorPatr
namespace Go.Proofs.YtdafiipedlglpaaGreatDoor
open Go.RowKit

theorem wp_convB {P : Program} {Q : Exit → Act → World → Prop} {K : Act → World → Prop} {a : Act} {w : World} {d : Option Tmp} {ty s t : TypeId} {pos : String} {after : Array Edge} {gd : Option (Nat × Bool)} {x : Operand} {xv v : Value} (hx : a.eval x = xv) (hr : (convert s t xv).run P w = .ok v w) (h : K (a.put d v) w) : Oper.wp P ⟨d, .convert s t x, ty, pos, after, gd⟩ a w K Q := by
  unfold Oper.wp execOp
  simp only [hx, Sem.run_bind, hr, Result.andThen_ok, Sem.run_pure]
  exact h
theorem blk_rng {w : World} {g : Nat} {t : TypeId} {cs : List Value} (h : Blk w g t cs.toArray) : w.rangeAt g 0 cs := by
  intro j u hj
  rw [Nat.zero_add, h.cell j]
  simpa using hj
theorem neI (w : World) : (binOp .neq 36 (.int .i64 0) (.int .i64 0)).run Tryz.prog w = .ok (.bool false) w := by kernel_rfl
theorem neS {s : ByteArray} (w : World) : (binOp .neq 9 (.string s) (.string s)).run Tryz.prog w = .ok (.bool false) w := by simp [go_sem]
end Go.Proofs.YtdafiipedlglpaaGreatDoor
