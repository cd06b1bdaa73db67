/- A call of a function value. No program in sight but as a variable. -/
import Derived.Test.YtfnhmbflmifhcaaGreatGen
namespace Go.Proofs.YtfnhmbflmifhcaaGreat
open Go.RowKit

/-- a call of a function value whose function is not known but by its contract -/
theorem wpList_calledV {P : Program} {ops : Array Oper} {rest : List Oper} {a : Act} {w : World} {Q : Exit → Act → World → Prop} {d : Option Tmp} {ty : TypeId} {pos : String} {after : Array Edge} {x y : Operand} {ts : Array TypeId} {f : FuncId} {caps : Array Value} {yv : Value} {R : Ending → World → Prop}
    (hf : ∀ args w, (callFunc f args).run P w = .ok (.enter f args) w) (hx : a.eval x = .func (.func f) #[] caps) (hy : a.eval y = yv) (hc : Calls P f (#[yv] ++ caps) w R)
    (h : ∀ e w', R e w' → ∃ v, e = .returned v ∧ wpList P ops Q rest (a.put d v) w') : wpList P ops Q (⟨d, .call { callee := .value x, args := #[y], argTypes := ts }, ty, pos, after, none⟩ :: rest) a w :=
  wpList_plain rfl fun K hK => by
    have e1 : execOp a.eval ⟨d, .call { callee := .value x, args := #[y], argTypes := ts }, ty, pos, after, none⟩ = callFunc f (#[yv] ++ caps) := by
      unfold execOp resolve
      simp [hx, hy, Deferred.ofValue, invoke]
    unfold Oper.wp
    rw [e1, hf]
    refine hc.mono fun e w' hr => ?_
    obtain ⟨v, rfl, hk⟩ := h e w' hr
    exact hK _ _ hk
end Go.Proofs.YtfnhmbflmifhcaaGreat
