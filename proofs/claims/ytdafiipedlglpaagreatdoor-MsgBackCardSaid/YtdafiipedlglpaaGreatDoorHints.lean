/- Texts of general use, one behind another. -/
import Derived.Test.YtdafiipedlglpaaGreatDoorGen
import Derived.Laws.BitsAllLaws
import Derived.IntWalk
import Derived.Test.YtdafiipedlglpaaGreatDoorSets
import Derived.Test.YtdafiipedlglpaaGreatDoorPidw
import Derived.Laws.Shifts
import Derived.Deep.DeepCutAuto

/- A number as its bits: plain laws. No program in sight. -/
namespace Go.Proofs.YtdafiipedlglpaaGreatDoor
open Go.RowKit

/-- 64 bits, by their places -/
def bl (f : Nat → Bool) : List Bool := (List.range 64).map f
end Go.Proofs.YtdafiipedlglpaaGreatDoor

/- A number as its bits, mixed: walked. -/
namespace Go.Proofs.YtdafiipedlglpaaGreatDoor
open Go.RowKit

end Go.Proofs.YtdafiipedlglpaaGreatDoor

/- Numbers mixed: walked. -/
namespace Go.Proofs.YtdafiipedlglpaaGreatDoor
open Go.RowKit

end Go.Proofs.YtdafiipedlglpaaGreatDoor

/- Hints of which patches there are: plain laws. -/
namespace Go.Proofs.YtdafiipedlglpaaGreatDoor
open Go.RowKit

/-- a hint: four numbers -/
def BlOk (xs : List Nat) : Prop := xs.length = 4 ∧ ∀ x ∈ xs, x < 18446744073709551616
def encBl (xs : List Nat) : List Value := xs.map fun (x : Nat) => Value.int .u64 (x : Int)
theorem encBl_len {xs : List Nat} (h : BlOk xs) : (encBl xs).length = 4 := by simp [encBl, h.1]
theorem encBl_set (xs : List Nat) (i v : Nat) : (encBl xs).set i (.int .u64 (v : Int)) = encBl (xs.set i v) := by
  unfold encBl; rw [List.map_set]
end Go.Proofs.YtdafiipedlglpaaGreatDoor

/- Hints of which patches there are: the program's, walked. -/
namespace Go.Proofs.YtdafiipedlglpaaGreatDoor
open Go.RowKit

end Go.Proofs.YtdafiipedlglpaaGreatDoor

/- Hints: a patch put, asked for; the program's, walked. -/
namespace Go.Proofs.YtdafiipedlglpaaGreatDoor
open Go.RowKit

theorem underBl : Tryz.prog.underlying 27 = some (.array 4 25) := by kernel_rfl
theorem infoBl : (Tryz.prog.info? 27).map (·.size) = some 4 := by kernel_rfl
def zeroBl : List Nat := [0, 0, 0, 0]
theorem zeroBl_ok : BlOk zeroBl := ⟨rfl, by decide⟩
theorem wpList_comp {P : Program} {ops : Array Oper} {rest : List Oper} {a : Act} {w : World} {Q : Exit → Act → World → Prop} {d : Option Tmp} {ty t rt : TypeId} {pos : String} {after : Array Edge} {op : BinOp} {x y : Operand} {xv yv v : Value} (hx : a.eval x = xv) (hy : a.eval y = yv) (hg : (eqGuard op t x y xv yv).run P w = .ok () w) (hr : (binOp op t xv yv).run P w = .ok v w)
    (h : wpList P ops Q rest (a.put d v) w) : wpList P ops Q (⟨d, .binOp op t x y rt, ty, pos, after, none⟩ :: rest) a w :=
  wpList_plain rfl fun _ hK => wp_computed hx hy hg hr (hK _ _ h)
theorem store64_run (g i y : Nat) (w : World) {u : Value} (h : w.cell? ⟨g, i, none⟩ = some u) (hf : w.frozen? ⟨g, i, none⟩ = false) : (Instr.storeAt 25 (.pointer (some ⟨g, i, none⟩)) (.int .u64 (y : Int))).run Tryz.prog w = .ok () (w.setCell ⟨g, i, none⟩ (.int .u64 (y : Int))) := by simp [go_sem, h, hf]
section
variable {P : Program} {ops : Array Oper} {rest : List Oper} {a : Act} {w w' : World} {Q : Exit → Act → World → Prop} {d : Option Tmp} {ty t s : TypeId} {pos : String} {after : Array Edge} {x y : Operand} {pv iv v : Value}
theorem wpList_idx (hx : a.eval x = pv) (hy : a.eval y = iv) (hr : (Instr.indexAt s pv iv).run P w = .ok v w) (h : wpList P ops Q rest (a.put d v) w) : wpList P ops Q (⟨d, .indexAddr s x y, ty, pos, after, none⟩ :: rest) a w :=
  wpList_plain rfl fun _ hK => by
    unfold Oper.wp execOp
    simp only [hx, hy, Sem.run_bind, hr, Result.andThen_ok, Sem.run_pure]
    exact hK _ _ h
theorem wpList_ld (hx : a.eval x = pv) (hr : (Instr.loadAt s pv).run P w = .ok v w) (h : wpList P ops Q rest (a.put d v) w) : wpList P ops Q (⟨d, .load s x, ty, pos, after, none⟩ :: rest) a w :=
  wpList_plain rfl fun _ hK => by
    unfold Oper.wp execOp
    simp only [hx, Sem.run_bind, hr, Result.andThen_ok, Sem.run_pure]
    exact hK _ _ h
theorem wpList_st (hx : a.eval x = pv) (hy : a.eval y = v) (hr : (Instr.storeAt s pv v).run P w = .ok () w') (h : wpList P ops Q rest a w') : wpList P ops Q (⟨none, .store s x y, ty, pos, after, none⟩ :: rest) a w :=
  wpList_plain rfl fun _ hK => by
    unfold Oper.wp execOp
    simp only [hx, hy, Sem.run_bind, hr, Result.andThen_ok, Sem.run_pure]
    exact hK _ _ h
end
theorem blOk_four {xs : List Nat} (h : BlOk xs) : ∃ a b c d, xs = [a, b, c, d] := by
  match xs, h.1 with
  | [a, b, c, d], _ => exact ⟨a, b, c, d, rfl⟩
theorem bl_ints (xs : List Nat) : (encBl xs).toArray = ((xs.map fun (x : Nat) => (x : Int)).map (Value.int .u64)).toArray := by
  unfold encBl; rw [List.map_map]; rfl
theorem cast_inj (xs ys : List Nat) : decide ((xs.map fun (x : Nat) => (x : Int)) = ys.map fun (x : Nat) => (x : Int)) = decide (xs = ys) := by
  rw [decide_eq_decide]
  refine ⟨fun h => ?_, fun h => by rw [h]⟩
  exact (List.map_inj_right (f := fun (x : Nat) => (x : Int)) (fun a b (h : (a : Int) = (b : Int)) => by omega)).1 h
theorem bl_eq (xs ys : List Nat) (hx : BlOk xs) (hy : BlOk ys) (w : World) : (binOp .eql 27 (.agg (encBl xs).toArray) (.agg (encBl ys).toArray)).run Tryz.prog w = .ok (.bool (decide (xs = ys))) w := by
  rw [bl_ints, bl_ints, ← cast_inj]
  exact run_eql_ints underBl (by kernel_rfl) (fun u => by kernel_rfl) (fun u => by kernel_rfl) _ _ (by simp [hx.1]) (by simp [hy.1]) w
end Go.Proofs.YtdafiipedlglpaaGreatDoor

/- Hints: the document's, walked. -/
namespace Go.Proofs.YtdafiipedlglpaaGreatDoor
open Go.RowKit

end Go.Proofs.YtdafiipedlglpaaGreatDoor

/- Hints: the document's asking; a hint of patches: walked. -/
namespace Go.Proofs.YtdafiipedlglpaaGreatDoor
open Go.RowKit

end Go.Proofs.YtdafiipedlglpaaGreatDoor

/- Hints: the hint of patches, walked. -/
namespace Go.Proofs.YtdafiipedlglpaaGreatDoor
open Go.RowKit

end Go.Proofs.YtdafiipedlglpaaGreatDoor
