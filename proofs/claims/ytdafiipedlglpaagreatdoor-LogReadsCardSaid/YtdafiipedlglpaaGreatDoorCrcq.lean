/- Bytes are opened by the document, and spoilt: walked. -/
import Derived.Test.YtdafiipedlglpaaGreatDoorCrcv
import Derived.Test.YtdafiipedlglpaaGreatDoorIdxw
import Derived.Test.YtdafiipedlglpaaGreatDoorPcds
namespace Go.Proofs.YtdafiipedlglpaaGreatDoor
open Go.RowKit

theorem exSlice5 {P : Program} {ρ : Operand → Value} {w : World} {d : Option Tmp} {ty t : TypeId} {pos : String} {after : Array Edge} {gd : Option (Nat × Bool)} {x : Operand} {lo hi mx : Option Operand} {xv v : Value} {lv hv mv : Option Value} (hx : ρ x = xv) (hl : lo.map ρ = lv) (hh : hi.map ρ = hv) (hm : mx.map ρ = mv) (hr : (Instr.sliceAt t xv lv hv mv).run P w = .ok v w) : (execOp ρ ⟨d, .slice t x lo hi mx, ty, pos, after, gd⟩).run P w = .ok (.value v) w := by
  unfold execOp
  simp only [hx, hl, hh, hm, Sem.run_bind, hr, Result.andThen_ok, Sem.run_pure]
theorem wp_conv5 {P : Program} {Q : Exit → Act → World → Prop} {K : Act → World → Prop} {a : Act} {w : World} {d : Option Tmp} {ty s t : TypeId} {pos : String} {after : Array Edge} {gd : Option (Nat × Bool)} {x : Operand} {xv v : Value} (hx : a.eval x = xv) (hr : (convert s t xv).run P w = .ok v w) (h : K (a.put d v) w) : Oper.wp P ⟨d, .convert s t x, ty, pos, after, gd⟩ a w K Q := by
  unfold Oper.wp execOp
  simp only [hx, Sem.run_bind, hr, Result.andThen_ok, Sem.run_pure]
  exact h
theorem str_ne5 {s t : ByteArray} (h : s ≠ t) : (s.toList == t.toList) = false := by
  rw [beq_eq_false_iff_ne]
  intro e
  rw [Lib.toList_data, Lib.toList_data] at e
  exact h (ByteArray.ext (Array.toList_inj.1 e))
theorem neqSt (s t : ByteArray) (w : World) : (binOp .neq 9 (.string s) (.string t)).run Tryz.prog w = .ok (.bool (!decide (s = t))) w := by
  by_cases h : s = t
  · subst h; simp [go_sem]
  · have := str_ne5 h
    simp [go_sem, this, h]
theorem neqSg (x y : Operand) (s t : ByteArray) (w : World) : (eqGuard .neq 9 x y (.string s) (.string t)).run Tryz.prog w = .ok () w := by simp [eqGuard, go_sem]
theorem bytesOf_inj {a b : List UInt8} : bytesOf a = bytesOf b ↔ a = b := by
  constructor
  · intro h
    have := congrArg (fun s : ByteArray => s.data.toList) h
    simpa [bytesOf] using this
  · intro h; rw [h]
end Go.Proofs.YtdafiipedlglpaaGreatDoor
