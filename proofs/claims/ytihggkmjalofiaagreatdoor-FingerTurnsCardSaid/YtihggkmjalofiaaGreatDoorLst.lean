/- A region that is walked in its own order, one operation at a time, with no simplification of numbers. -/
import Derived.Test.YtihggkmjalofiaaGreatDoorBufs
import Derived.Test.YtihggkmjalofiaaGreatDoorIdxw
namespace Go.Proofs.YtihggkmjalofiaaGreatDoor
open Go.RowKit

theorem wpL_w {P : Program} {ops : Array Oper} {rest : List Oper} {o : Oper} {a : Act} {w w' : World} {Q : Exit → Act → World → Prop} {v : Value} (hg : o.guard = none) (hx : (execOp a.eval o).run P w = .ok (.value v) w')
    (h : wpList P ops Q rest (a.put o.dst v) w') : wpList P ops Q (o :: rest) a w :=
  wpList_plain hg fun _ hK => by
    unfold Oper.wp
    rw [hx]
    exact hK _ _ h
theorem wpL_val {P : Program} {ops : Array Oper} {rest : List Oper} {o : Oper} {a : Act} {w : World} {Q : Exit → Act → World → Prop} {v : Value} (hg : o.guard = none) (hx : (execOp a.eval o).run P w = .ok (.value v) w)
    (h : wpList P ops Q rest (a.put o.dst v) w) : wpList P ops Q (o :: rest) a w := wpL_w hg hx h
theorem buildByte1 (X : UInt8) (w : World) : (Instr.buildSlice 46 1 #[(0, .int .u8 ((X.toNat : Nat) : Int))]).run Tryz.prog w = .ok (.slice (some ⟨w.heap.size, 0, none⟩) 1 1) (w.alloc (.cells #[.int .u8 ((X.toNat : Nat) : Int)] 5)) := by kernel_rfl
theorem wpList_bs1 {ops : Array Oper} {rest : List Oper} {a : Act} {w : World} {Q : Exit → Act → World → Prop} {d : Option Tmp} {ty : TypeId} {pos : String} {after : Array Edge} {x : Operand} (X : UInt8) (hx : a.eval x = .int .u8 ((X.toNat : Nat) : Int))
    (h : wpList Tryz.prog ops Q rest (a.put d (.slice (some ⟨w.heap.size, 0, none⟩) 1 1)) (w.alloc (.cells #[.int .u8 ((X.toNat : Nat) : Int)] 5))) : wpList Tryz.prog ops Q (⟨d, .buildSlice 46 1 #[(0, x)], ty, pos, after, none⟩ :: rest) a w := by
  refine wpL_w (v := .slice (some ⟨w.heap.size, 0, none⟩) 1 1) (w' := w.alloc (.cells #[.int .u8 ((X.toNat : Nat) : Int)] 5)) rfl ?_ h
  unfold execOp
  simp only [List.map_toArray, List.map_cons, List.map_nil, hx, Sem.run_bind, buildByte1, Result.andThen_ok, Sem.run_pure]
end Go.Proofs.YtihggkmjalofiaaGreatDoor
