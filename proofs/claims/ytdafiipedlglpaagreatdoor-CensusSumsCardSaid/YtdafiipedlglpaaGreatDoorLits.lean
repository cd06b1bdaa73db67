/- A slice literal of structs, in a region that draws its order. -/
import Derived.Test.YtdafiipedlglpaaGreatDoorIdxw
namespace Go.Proofs.YtdafiipedlglpaaGreatDoor
open Go.RowKit

/-- a slice literal of structs, in a region that draws its order -/
theorem wp_lits {P : Program} {Q : Exit → Act → World → Prop} {K : Act → World → Prop} {a : Act} {w : World} {d : Option Tmp} {ty : TypeId} {pos : String} {after : Array Edge} {gd : Option (Nat × Bool)} {t e : TypeId} {size bytes : Nat} (T : SlT P t e size bytes) {len : Nat} {parts : Array (Nat × Operand)} (vs : List (List Value)) (hlen : len = vs.length) (hl : 0 < vs.length) (hv : ∀ x ∈ vs, x.length = size)
    (hs : vs.length * size ≤ 16777216) (hx : (parts.map fun (i, x) => (i, a.eval x)).toList = ((vs.map fun x => Value.agg x.toArray).zipIdx 0).map fun x => (x.2, x.1))
    (h : K (a.put d (.slice (some ⟨w.heap.size, 0, none⟩) len len)) (w.alloc (.cells vs.flatten.toArray e))) : Oper.wp P ⟨d, .buildSlice t len parts, ty, pos, after, gd⟩ a w K Q := by
  obtain ⟨i, z, hi, hz, hsz, hby, hzs⟩ := T.hi
  have hpos := T.pos
  subst hlen
  have h1 : 0 < vs.length * size := Nat.mul_pos hl hpos
  refine wp_buildSlice t e vs.length parts rfl vs.flatten.toArray i z T.ht hi hz (by rw [hsz]; omega) (by rw [hsz]; omega) ?_ h
  rw [hx, hsz]
  exact fill_vals hpos vs hv _ (by simp)
end Go.Proofs.YtdafiipedlglpaaGreatDoor
