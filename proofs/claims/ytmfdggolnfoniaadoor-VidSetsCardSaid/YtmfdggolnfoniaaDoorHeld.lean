/- Regions that draw their order, step by step: loads of whole rows first, then whatever comes up. No program in sight but as a variable. -/
import Derived.Test.YtmfdggolnfoniaaDoorTail
import Derived.OrdersHeld
import Derived.Laws.Tables
namespace Go.Proofs.YtmfdggolnfoniaaDoor
open Go.RowKit

section
variable {P : Program} {ops : Array Oper} {Q : Exit → Act → World → Prop} {S : World → Prop} {K : Act → World → Prop} {a : Act} {w : World} {o : Oper} {i : Nat}
theorem wpOp_of (hi : ops[i]? = some o) (hw : Region.wanted o (yielded ops a.tmps) = true) (h : o.wp P a w K Q) : wpOp P ops Q i K a w := by
  unfold wpOp
  simp only [hi, hw, if_true]
  exact .inl h
theorem wp_called {d : Option Tmp} {ty : TypeId} {pos : String} {after : Array Edge} {gd : Option (Nat × Bool)} {xs : Array Operand} {ts : Array TypeId} {f : FuncId} {args : Array Value} {R : Ending → World → Prop}
    (hf : ∀ args w, (callFunc f args).run P w = .ok (.enter f args) w) (he : xs.map a.eval = args)
    (hc : Calls P f args w R) (h : ∀ e w', R e w' → ∃ v, e = .returned v ∧ K (a.put d v) w') : Oper.wp P ⟨d, .call { callee := .value (.func f), args := xs, argTypes := ts }, ty, pos, after, gd⟩ a w K Q := by
  have e1 : execOp a.eval ⟨d, .call { callee := .value (.func f), args := xs, argTypes := ts }, ty, pos, after, gd⟩ = callFunc f (#[] ++ xs.map a.eval ++ #[]) := rfl
  unfold Oper.wp
  rw [e1, hf]
  simp only [Array.empty_append, Array.append_empty, he]
  refine hc.mono fun e w' hr => ?_
  obtain ⟨v, rfl, hk⟩ := h e w' hr
  exact hk
theorem wp_alloced {d : Option Tmp} {ty : TypeId} {pos : String} {after : Array Edge} {gd : Option (Nat × Bool)} {e : TypeId} {v : Value} {w' : World} (hr : (Instr.alloc e true (.tuple #[])).run P w = .ok v w') (h : K (a.put d v) w') : Oper.wp P ⟨d, .alloc e, ty, pos, after, gd⟩ a w K Q := by
  unfold Oper.wp execOp
  simp only [Sem.run_bind, hr, Result.andThen_ok]
  exact h
theorem wp_stored {rt : TypeId} {pos : String} {after : Array Edge} {gd : Option (Nat × Bool)} {ty t : TypeId} {x y : Operand} {g : Nat} {cs old : Array Value} (hx : a.eval x = .pointer (some ⟨g, 0, none⟩)) (hy : a.eval y = .agg cs)
    (hg : Blk w g t old) (hi : (P.info? ty).map (·.size) = some cs.size) (hold : old.size = cs.size) (h1 : cs.all (·.oneCell') = true) (h : K a (w.setRow g cs)) : Oper.wp P ⟨none, .store ty x y, rt, pos, after, gd⟩ a w K Q :=
  wp_store_row ty x y rfl g cs hx hy t old hg hi hold h1 h
theorem yieldsIf_row {ty t : TypeId} {x : Operand} {g : Nat} {cs : Array Value} {D : TypeDesc} (hw : Region.wanted o (yielded ops a.tmps) = true) (ho : o.op = .load ty x) (hx : a.eval x = .pointer (some ⟨g, 0, none⟩))
    (hB : ∀ w', S w' → Blk w' g t cs) (hu : P.underlying ty = some D) (hd : (match D with | .struct _ | .array _ _ => true | _ => false) = true) (hi : (P.info? ty).map (·.size) = some cs.size) : YieldsIf P ops S o (.agg cs) a := by
  refine .inl ⟨hw, fun w' hS => ?_⟩
  have hb := hB w' hS
  unfold Blk at hb
  unfold execOp
  simp only [ho, hx, Instr.loadAt, Instr.sureAddr, Sem.run_bind, Sem.run_pure, Result.andThen_ok, run_loadVar_row w' g t ty cs (0, 0) D hb hu hd hi]
theorem take_row {d : Tmp} {rt ty t : TypeId} {x : Operand} {pos : String} {after : Array Edge} {gd : Option (Nat × Bool)} {g : Nat} {cs : Array Value} {D : TypeDesc} {fuel : Nat} {ls : Array Bool} {md : Region.Mode} (hi : ops[i]? = some ⟨some d, .load ty x, rt, pos, after, gd⟩)
    (hs : Region.noSelect ops = true) (hf : Region.free md ops ls i = true) (hr : (Region.ready md ops ls).contains i = true) (hQ : ∀ c (a : Act) (w : World), Q (.panic c) (a.put (some d) (.agg cs)) w → Q (.panic c) a w)
    (hw : Region.wanted ⟨some d, .load ty x, rt, pos, after, gd⟩ (yielded ops a.tmps) = true) (hx : a.eval x = .pointer (some ⟨g, 0, none⟩))
    (hB : ∀ w', S w' → Blk w' g t cs) (hu : P.underlying ty = some D) (hd : (match D with | .struct _ | .array _ _ => true | _ => false) = true) (hsz : (P.info? ty).map (·.size) = some cs.size) (hS : S w)
    (h : wpAnyH P md ops Q S fuel (ls.setIfInBounds i true) (a.put (some d) (.agg cs)) w) : wpAnyH P md ops Q S (fuel + 1) ls a w :=
  wpAnyH_take (oi := ⟨some d, .load ty x, rt, pos, after, gd⟩) hi hs hf hr hQ (yieldsIf_row hw rfl hx hB hu hd hsz) hS h
end
end Go.Proofs.YtmfdggolnfoniaaDoor
