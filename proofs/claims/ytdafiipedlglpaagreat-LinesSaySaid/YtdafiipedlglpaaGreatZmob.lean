/- A value in a quiet walk; a map written in a region that draws its order. No program in sight but as a variable. -/
import Derived.Test.YtdafiipedlglpaaGreatIdxw
namespace Go.Proofs.YtdafiipedlglpaaGreat
open Go.RowKit

theorem Qfc {P : Program} {Q : Exit → Act → World → Prop} {K : Act → World → Prop} {a : Act} {w w' : World} {d : Option Tmp} {ty t : TypeId} {pos : String} {after : Array Edge} {gd : Option (Nat × Bool)} {m x y : Operand} {mv kv v : Value} (hm : a.eval m = mv) (hx : a.eval x = kv) (hy : a.eval y = v) (hr : (Instr.mapUpdate t mv kv v).run P w = .ok () w')
  (h : K (a.put d undef) w') : Oper.wp P ⟨d,.mapUpdate t m x y,ty,pos,after,gd⟩ a w K Q:=by
 unfold Oper.wp execOp
 simp only [hm,hx,hy,Sem.run_bind,hr,Result.andThen_ok,Sem.run_pure]
 exact h
theorem loadIntC (b o : Nat) (w : World) (n : Int) (h : w.cell? ⟨b,o,none⟩ = some (.int .i64 n)) : (Instr.loadAt 3 (.pointer (some ⟨b,o,none⟩))).run Tryz.prog w = .ok (.int .i64 n) w:=by simp [go_sem,h]
end Go.Proofs.YtdafiipedlglpaaGreat
