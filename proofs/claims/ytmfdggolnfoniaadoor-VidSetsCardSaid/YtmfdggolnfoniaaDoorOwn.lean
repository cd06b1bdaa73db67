/- Elements of a row of the call's own: written, cleared, cut. No program in sight but as a variable. -/
import Derived.Test.YtmfdggolnfoniaaDoorMid
import Derived.Laws.OwnMore
import Derived.Laws.IdiomCopy
import Derived.Lib.SliceRun
namespace Go.Proofs.YtmfdggolnfoniaaDoor
open Go.RowKit

section
variable {P : Program} {w : World} {base : Nat} {e : TypeId} {size : Nat} {g n cap : Nat} {xs : List Value}
theorem own_setCells : ∀ (cs : List Value) (o : Nat) (w : World) (xs : List Value), w.ownsRow base e size (.slice (some ⟨g, 0, none⟩) n cap) n xs → o + cs.length ≤ n * size →
    (w.setCells g o cs).ownsRow base e size (.slice (some ⟨g, 0, none⟩) n cap) n (xs.take o ++ cs ++ xs.drop (o + cs.length)) ∧ Below base w (w.setCells g o cs)
  | [], o, w, xs, h, _ => by
    simp only [World.setCells, List.append_nil, List.length_nil, Nat.add_zero, List.take_append_drop]
    exact ⟨h, Below.refl _ _⟩
  | c :: cs, o, w, xs, h, hl => by
    simp only [List.length_cons] at hl
    have hx := h.1
    obtain ⟨h1, h2⟩ := h.stored o c
    obtain ⟨i1, i2⟩ := own_setCells cs (o + 1) _ _ h1 (by omega)
    have hg := (h.lt g rfl).1
    refine ⟨?_, (Below.setCell (Below.refl base w) (p := ⟨g, o, none⟩) hg c).trans i2⟩
    have e1 : (xs.set o c).take (o + 1) = xs.take o ++ [c] := by
      rw [List.take_succ_eq_append_getElem (by rw [List.length_set]; omega), List.take_set_of_le (Nat.le_refl _)]
      simp
    have e2 : (xs.set o c).drop (o + 1 + cs.length) = xs.drop (o + (cs.length + 1)) := by
      rw [List.drop_set_of_lt (by omega)]
      congr 1; omega
    rw [e1, e2] at i1
    show ((w.setCell ⟨g, o, none⟩ c).setCells g (o + 1) cs).ownsRow base e size (.slice (some ⟨g, 0, none⟩) n cap) n _
    simpa using i1
theorem own_cut (h : w.ownsRow base e size (.slice (some ⟨g, 0, none⟩) n cap) n xs) {k : Nat} (hk : k ≤ n) : w.ownsRow base e size (.slice (some ⟨g, 0, none⟩) k cap) k (xs.take (k * size)) := by
  have hx := h.1
  have hks : k * size ≤ n * size := Nat.mul_le_mul_right _ hk
  rcases h.2 with ⟨h', _⟩ | ⟨g', cap', cur, h', hb, hg, hnc, hcm, hcs, htake⟩
  · simp at h'
  · simp only [Value.slice.injEq, Option.some.injEq, Addr.mk.injEq, and_true, true_and] at h'
    obtain ⟨rfl, rfl⟩ := h'
    refine ⟨by rw [List.length_take]; omega, .inr ⟨g, cap, cur, rfl, hb, hg, by omega, hcm, hcs, ?_⟩⟩
    rw [← htake, List.take_take, Nat.min_eq_left hks]
theorem own_there (h : w.ownsRow base e size (.slice (some ⟨g, 0, none⟩) n cap) n xs) {o m : Nat} (hl : o + m ≤ n * size) : w.there g o m := fun j hj => by
  refine ⟨?_, h.frozenAt _⟩
  rw [h.cellAt _ (by omega), List.getElem?_eq_getElem (by rw [h.1]; omega)]
  rfl
theorem own_range {α : Type} {enc : α → List Value} {l : List α} (h : w.ownsRow base e size (.slice (some ⟨g, 0, none⟩) n cap) n (l.flatMap enc)) (henc : ∀ x, (enc x).length = size) {k : Nat} {x : α} (hx : l[k]? = some x) (hk : k < n) : w.rangeAt g (k * size) (enc x) := fun j v hj => by
  obtain ⟨hkl, rfl⟩ := List.getElem?_eq_some_iff.1 hx
  have hjl : j < size := by
    have := henc l[k]
    have := (List.getElem?_eq_some_iff.1 hj).1
    omega
  have hlt : k * size + j < n * size := by
    have : k * size + size ≤ n * size := by rw [← Nat.succ_mul]; exact Nat.mul_le_mul_right _ hk
    omega
  rw [h.cellAt _ hlt, flatMap_get enc l (fun y _ => henc y) k j hkl hjl]
  exact hj
theorem set_flat {α : Type} {enc : α → List Value} (henc : ∀ x, (enc x).length = size) (l : List α) {k : Nat} (hk : k < l.length) (y : α) : (l.flatMap enc).take (k * size) ++ enc y ++ (l.flatMap enc).drop (k * size + size) = (l.set k y).flatMap enc := by
  have hl : l = l.take k ++ l[k] :: l.drop (k + 1) := by rw [List.getElem_cons_drop, List.take_append_drop]
  have hlen : ((l.take k).flatMap enc).length = k * size := by
    rw [flatMap_len enc _ (fun x _ => henc x), List.length_take, Nat.min_eq_left (by omega)]
  have e0 : l.flatMap enc = (l.take k).flatMap enc ++ (enc l[k] ++ (l.drop (k + 1)).flatMap enc) := by
    have := congrArg (List.flatMap enc) hl
    rw [List.flatMap_append, List.flatMap_cons] at this
    exact this
  have e1 : (l.set k y).flatMap enc = (l.take k).flatMap enc ++ (enc y ++ (l.drop (k + 1)).flatMap enc) := by
    rw [List.set_eq_take_append_cons_drop, if_pos hk]
    simp
  rw [e0, e1, ← hlen, List.take_left, List.drop_append, ← henc l[k]]
  simp
theorem cut_flat {α : Type} {enc : α → List Value} (henc : ∀ x, (enc x).length = size) (l : List α) {k : Nat} (hk : k ≤ l.length) : (l.flatMap enc).take (k * size) = (l.take k).flatMap enc := by
  have hlen : ((l.take k).flatMap enc).length = k * size := by
    rw [flatMap_len enc _ (fun x _ => henc x), List.length_take, Nat.min_eq_left (by omega)]
  have hl : l.flatMap enc = (l.take k).flatMap enc ++ (l.drop k).flatMap enc := by
    rw [← List.flatMap_append, List.take_append_drop]
  rw [hl, ← hlen, List.take_left]
/-- 'clear(s)' on a slice of structs -/
theorem run_clear_rows (w : World) (t e ty : TypeId) (z : Value) (ht : P.underlying t = some (.slice e)) (hv : ∀ w, (zeroValue e).run P w = .ok z w) (hz : z.cells.size = size) (hpos : 0 < size) (h1 : ∀ v ∈ z.cells, v.oneCell' = true) (b o n c : Nat) (hn : 0 < n)
    (hc : w.there b o (n * size)) :
    (Builtin.clear_ #[t] ty #[.slice (some ⟨b, o, none⟩) n c]).run P w = .ok (.tuple #[]) (w.setCells b o (Builtin.zeroCells z.cells n).toList) ∧ (Builtin.zeroCells z.cells n).toList.length = n * size := by
  have hlen : (Builtin.zeroCells z.cells n).toList.length = n * size := by simp [Builtin.zeroCells, hz]
  have hone : ∀ v ∈ (Builtin.zeroCells z.cells n).toList, v.oneCell' = true := by
    intro v hv'
    simp only [Builtin.zeroCells, Array.toList_map, List.mem_map] at hv'
    obtain ⟨i, _, rfl⟩ := hv'
    have hi : i % z.cells.size < z.cells.size := Nat.mod_lt _ (by omega)
    rw [getElem!_pos z.cells _ hi]
    exact h1 _ (Array.getElem_mem hi)
  have hst := run_storeCells_cells (P := P) b o (Builtin.zeroCells z.cells n).toList 0 w (by rw [hlen]; intro j hj; exact (hc j hj).1) (by rw [hlen]; intro j hj; exact (hc j hj).2) hone
  simp only [Nat.add_zero] at hst
  refine ⟨?_, hlen⟩
  obtain ⟨m, rfl⟩ : ∃ m, n = m + 1 := ⟨n - 1, by omega⟩
  simp [Builtin.clear_, run_underlying ht, hv, hst]
end
end Go.Proofs.YtmfdggolnfoniaaDoor
