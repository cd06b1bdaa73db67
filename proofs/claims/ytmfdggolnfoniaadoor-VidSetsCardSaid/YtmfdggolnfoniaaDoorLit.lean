/- A slice literal of structs, whatever their cells. No program in sight but as a variable. -/
import Derived.Test.YtmfdggolnfoniaaDoorMid
import Derived.Great.BuildSlice
namespace Go.Proofs.YtmfdggolnfoniaaDoor
open Go.RowKit

theorem fill_vals {size : Nat} (hpos : 0 < size) (vs : List (List Value)) (hv : ∀ x ∈ vs, x.length = size) (cells : Array Value) (hc : cells.size = vs.length * size) :
    Instr.fill (fun i => some (i * size, size)) cells (((vs.map fun x => Value.agg x.toArray).zipIdx 0).map fun x => (x.2, x.1)) = some vs.flatten.toArray := by
  obtain ⟨r, hr, hsz, hk⟩ := Great.fill_dense hpos (vs.map fun x => Value.agg x.toArray) 0 cells (fun v h => by
    obtain ⟨x, hx, rfl⟩ := List.mem_map.1 h
    simpa [Value.cells] using hv x hx) (by rw [List.length_map, Nat.zero_add, hc]; exact Nat.le_refl _)
  rw [hr]
  congr 1
  apply Array.ext_getElem?
  intro k
  have hf := flatten_len vs hv
  rw [hk k]
  simp only [Nat.zero_mul, Nat.zero_le, true_and, Nat.zero_add, List.length_map, Nat.sub_zero]
  by_cases h : k < vs.length * size
  · rw [if_pos h]
    have hq : k / size < vs.length := (Nat.div_lt_iff_lt_mul hpos).2 h
    have hm := Nat.mod_lt k hpos
    have hg := flatten_get vs hv (k / size) (k % size) hm
    rw [Nat.mul_comm (k / size), Nat.div_add_mod] at hg
    simp only [List.getElem?_toArray]
    rw [hg]
    simp [hq, Value.cells]
  · rw [if_neg h, Array.getElem?_eq_none (by omega)]
    simp only [List.getElem?_toArray]
    rw [List.getElem?_eq_none (by omega)]
section
variable {P : Program} {w : World} {ops : Array Oper} {rest : List Oper} {a : Act} {Q : Exit → Act → World → Prop}
/-- a slice literal of structs -/
theorem wpList_lits {t e : TypeId} {size bytes : Nat} (T : SlT P t e size bytes) {d : Option Tmp} {ty : TypeId} {pos : String} {after : Array Edge} {len : Nat} {parts : Array (Nat × Operand)} (vs : List (List Value)) (hlen : len = vs.length) (hl : 0 < vs.length) (hv : ∀ x ∈ vs, x.length = size)
    (hs : vs.length * size ≤ 16777216) (hx : (parts.map fun (i, x) => (i, a.eval x)).toList = ((vs.map fun x => Value.agg x.toArray).zipIdx 0).map fun x => (x.2, x.1))
    (h : wpList P ops Q rest (a.put d (.slice (some ⟨w.heap.size, 0, none⟩) len len)) (w.alloc (.cells vs.flatten.toArray e))) : wpList P ops Q (⟨d, .buildSlice t len parts, ty, pos, after, none⟩ :: rest) a w := by
  obtain ⟨i, z, hi, hz, hsz, hby, hzs⟩ := T.hi
  have hpos := T.pos
  subst hlen
  have h1 : 0 < vs.length * size := Nat.mul_pos hl hpos
  refine wpList_buildSlice rfl t e vs.length parts rfl vs.flatten.toArray i z T.ht hi hz (by rw [hsz]; omega) (by rw [hsz]; omega) ?_ h
  rw [hx, hsz]
  exact fill_vals hpos vs hv _ (by simp)
/-- .. of one -/
theorem wpList_lit1 {t e : TypeId} {size bytes : Nat} (T : SlT P t e size bytes) {d : Option Tmp} {ty : TypeId} {pos : String} {after : Array Edge} {x : Operand} {cs : List Value} (hl : cs.length = size) (hs : size ≤ 16777216) (hx : a.eval x = .agg cs.toArray)
    (h : wpList P ops Q rest (a.put d (.slice (some ⟨w.heap.size, 0, none⟩) 1 1)) (w.alloc (.cells cs.toArray e))) : wpList P ops Q (⟨d, .buildSlice t 1 #[(0, x)], ty, pos, after, none⟩ :: rest) a w := by
  refine wpList_lits T [cs] rfl (by simp) (by simpa using hl) (by simpa using hs) (by simp [hx]) ?_
  simpa using h
end
end Go.Proofs.YtmfdggolnfoniaaDoor
