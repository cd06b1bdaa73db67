/- Regions that draw their order, step by step: a map's entry looked up, taken and stored. No program in sight but as a variable. -/
import Derived.Test.YtmfdggolnfoniaaDoorHeld
import Derived.Test.YtmfdggolnfoniaaDoorMid
namespace Go.Proofs.YtmfdggolnfoniaaDoor
open Go.RowKit

section
variable {P : Program} {ops : Array Oper} {Q : Exit → Act → World → Prop} {S : World → Prop} {K : Act → World → Prop} {a : Act} {w w' : World} {d : Option Tmp} {ty t : TypeId} {pos : String} {after : Array Edge} {gd : Option (Nat × Bool)}
theorem wp_moved {x : Operand} {v : Value} (hx : a.eval x = v) (h : K (a.put d v) w) : Oper.wp P ⟨d, .move x, ty, pos, after, gd⟩ a w K Q := by
  unfold Oper.wp execOp
  simp only [hx, Sem.run_pure]
  exact h
theorem wp_looked {m x : Operand} {mv kv v : Value} {ok : Bool} (hm : a.eval m = mv) (hx : a.eval x = kv) (hr : (Instr.lookup t mv kv ok).run P w = .ok v w) (h : K (a.put d v) w) : Oper.wp P ⟨d, .lookup t m x ok, ty, pos, after, gd⟩ a w K Q := by
  unfold Oper.wp execOp
  simp only [hm, hx, Sem.run_bind, hr, Result.andThen_ok, Sem.run_pure]
  exact h
theorem wp_entered {m x : Operand} {mv kv v : Value} (hm : a.eval m = mv) (hx : a.eval x = kv) (hr : (Instr.mapEntry t mv kv).run P w = .ok v w') (h : K (a.put d v) w') : Oper.wp P ⟨d, .mapEntry t m x, ty, pos, after, gd⟩ a w K Q := by
  unfold Oper.wp execOp
  simp only [hm, hx, Sem.run_bind, hr, Result.andThen_ok, Sem.run_pure]
  exact h
theorem wp_estored {m s x : Operand} {mv sv v : Value} (hm : a.eval m = mv) (hs : a.eval s = sv) (hx : a.eval x = v) (hr : (Instr.entryStore t mv sv v).run P w = .ok () w') (h : K a w') : Oper.wp P ⟨none, .entryStore t m s x, ty, pos, after, gd⟩ a w K Q := by
  unfold Oper.wp execOp
  simp only [hm, hs, hx, Sem.run_bind, hr, Result.andThen_ok, Sem.run_pure]
  exact h
theorem wp_extracted {x : Operand} {vs : Array Value} {i : Nat} {v : Value} (hx : a.eval x = .tuple vs) (hi : vs[i]? = some v) (h : K (a.put d v) w) : Oper.wp P ⟨d, .extract x i, ty, pos, after, gd⟩ a w K Q := by
  unfold Oper.wp execOp
  simp [hx, Instr.extract, hi]
  exact h
theorem wp_computed {op : BinOp} {x y : Operand} {xv yv v : Value} {rt : TypeId} (hx : a.eval x = xv) (hy : a.eval y = yv) (hg : (eqGuard op t x y xv yv).run P w = .ok () w) (hr : (binOp op t xv yv).run P w = .ok v w) (h : K (a.put d v) w) : Oper.wp P ⟨d, .binOp op t x y rt, ty, pos, after, gd⟩ a w K Q := by
  unfold Oper.wp execOp
  simp only [hx, hy, Sem.run_bind, hg, hr, Result.andThen_ok, Sem.run_pure]
  exact h
theorem wp_assigned {x : Operand} {v : Value} (hx : a.eval x = v) (h : K (a.put d v) w) : Oper.wp P ⟨d, .assign x, ty, pos, after, gd⟩ a w K Q := by
  unfold Oper.wp execOp
  simp only [hx, Sem.run_pure]
  exact h
theorem wp_picked {x y z : Operand} {b : Bool} {v : Value} (hx : a.eval x = .bool b) (hv : (if b = true then a.eval y else a.eval z) = v) (h : K (a.put d v) w) : Oper.wp P ⟨d, .pick x y z, ty, pos, after, gd⟩ a w K Q := by
  subst hv
  unfold Oper.wp execOp
  simp only [hx, asBool, Sem.run_bind, Sem.run_pure, Result.andThen_ok]
  exact h
theorem take_move {d : Tmp} {x : Operand} {v : Value} {i fuel : Nat} {ls : Array Bool} {md : Region.Mode} (hi : ops[i]? = some ⟨some d, .move x, ty, pos, after, gd⟩)
    (hs : Region.noSelect ops = true) (hf : Region.free md ops ls i = true) (hr : (Region.ready md ops ls).contains i = true) (hQ : ∀ c (a : Act) (w : World), Q (.panic c) (a.put (some d) v) w → Q (.panic c) a w)
    (hw : Region.wanted ⟨some d, .move x, ty, pos, after, gd⟩ (yielded ops a.tmps) = true) (hx : a.eval x = v) (hS : S w)
    (h : wpAnyH P md ops Q S fuel (ls.setIfInBounds i true) (a.put (some d) v) w) : wpAnyH P md ops Q S (fuel + 1) ls a w :=
  wpAnyH_take (oi := ⟨some d, .move x, ty, pos, after, gd⟩) hi hs hf hr hQ (.inl ⟨hw, fun w' _ => by unfold execOp; simp only [hx, Sem.run_pure]⟩) hS h
end
end Go.Proofs.YtmfdggolnfoniaaDoor
