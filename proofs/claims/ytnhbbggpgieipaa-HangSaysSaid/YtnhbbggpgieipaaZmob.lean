/- A value in a quiet walk; a map written in a region that draws its order. No program in sight but as a variable. -/
import Derived.Test.YtnhbbggpgieipaaIdxw
namespace Go.Proofs.Ytnhbbggpgieipaa
open Go.RowKit

theorem wpQuiet_val {P : Program} {ops : Array Oper} {S : World → Prop} {Q : Act → Prop} {rest : List Oper} {tmps : List Value} {ds : List Deferred} {d : Nat} {op : Op} {ty : TypeId} {v : Value} {pos : String} {after : Array Edge} {gd : Option (Nat × Bool)}
    (hr : ∀ w', S w' → (execOp (Act.eval ⟨tmps.toArray, ds⟩) ⟨some d, op, ty, pos, after, gd⟩).run P w' = .ok (.value v) w')
    (hw : Region.wanted ⟨some d, op, ty, pos, after, gd⟩ (yielded ops tmps.toArray) = true)
    (h : wpQuiet P ops S Q rest ⟨(tmps.set d v).toArray, ds⟩) :
    wpQuiet P ops S Q (⟨some d, op, ty, pos, after, gd⟩ :: rest) ⟨tmps.toArray, ds⟩ := by
  refine wpQuiet_step fun K hK => ?_
  rw [if_pos hw]
  refine ⟨v, ?_, hK _ ?_⟩
  · intro w hw'
    unfold Oper.quietAt
    rw [hr w hw']
    exact ⟨rfl, rfl⟩
  · have e : (Act.put ⟨tmps.toArray, ds⟩ (some d) v) = ⟨(tmps.set d v).toArray, ds⟩ := by simp [Act.put]
    rw [e]; exact h
theorem wp_mapputted {P : Program} {Q : Exit → Act → World → Prop} {K : Act → World → Prop} {a : Act} {w w' : World} {d : Option Tmp} {ty t : TypeId} {pos : String} {after : Array Edge} {gd : Option (Nat × Bool)} {m x y : Operand} {mv kv v : Value} (hm : a.eval m = mv) (hx : a.eval x = kv) (hy : a.eval y = v) (hr : (Instr.mapUpdate t mv kv v).run P w = .ok () w')
    (h : K (a.put d undef) w') : Oper.wp P ⟨d, .mapUpdate t m x y, ty, pos, after, gd⟩ a w K Q := by
  unfold Oper.wp execOp
  simp only [hm, hx, hy, Sem.run_bind, hr, Result.andThen_ok, Sem.run_pure]
  exact h
theorem loadIntC (b o : Nat) (w : World) (n : Int) (h : w.cell? ⟨b, o, none⟩ = some (.int .i64 n)) : (Instr.loadAt 3 (.pointer (some ⟨b, o, none⟩))).run Try.prog w = .ok (.int .i64 n) w := by simp [go_sem, h]
end Go.Proofs.Ytnhbbggpgieipaa
