/- Texts of general use, one behind another. -/
import Derived.Test.YtihggkmjalofiaaGreatDoorPaws
import Derived.Test.YtihggkmjalofiaaGreatDoorOps

/- Lists of patches as they lie; whether they are few and small: walked. -/
namespace Go.Proofs.YtihggkmjalofiaaGreatDoor
open Go.RowKit

theorem PatAt.len4 {w : World} {r : List Value} {p : PatV} (h : PatAt w r p) : r.length = 4 := by
 obtain ⟨⟨A, c, A', c', rfl, _, _⟩, _, _⟩ := h
 rfl
/-- rows of patches, each as it lies -/
def RowsP (w : World) (rows : List (List Value)) (l : List PatV) : Prop := rows.length = l.length ∧ ∀ (k : Nat) (r : List Value) (p : PatV), rows[k]? = some r → l[k]? = some p → PatAt w r p
theorem RowsP.ext {w w' : World} {rows : List (List Value)} {l : List PatV} (h : RowsP w rows l) (hb : Below w.heap.size w w') : RowsP w' rows l := ⟨h.1, fun k r p h1 h2 => (h.2 k r p h1 h2).ext hb⟩
theorem RowsP.nil (w : World) : RowsP w [] [] := ⟨rfl, fun _ _ _ h => by simp at h⟩
theorem RowsP.snoc {w : World} {rows : List (List Value)} {l : List PatV} {r : List Value} {p : PatV} (h : RowsP w rows l) (hp : PatAt w r p) : RowsP w (rows ++ [r]) (l ++ [p]) := by
 refine ⟨by simp [h.1], fun k r' p' h1 h2 => ?_⟩
 rcases Nat.lt_or_ge k rows.length with hk | hk
 ·rw [List.getElem?_append_left hk] at h1
  rw [List.getElem?_append_left (by rw [← h.1]; exact hk)] at h2
  exact h.2 k r' p' h1 h2
 ·rw [List.getElem?_append_right hk] at h1
  rw [List.getElem?_append_right (by rw [← h.1]; exact hk), ← h.1] at h2
  match k - rows.length, h1, h2 with
  | 0, h1, h2 =>
   obtain rfl : r = r' := by simpa using h1
   obtain rfl : p = p' := by simpa using h2
   exact hp
  | j + 1, h1, _ => simp at h1
theorem RowsP.len4 {w : World} {rows : List (List Value)} {l : List PatV} (h : RowsP w rows l) : ∀ r ∈ rows, r.length = 4 := by
 intro r hr
 obtain ⟨k, hk, rfl⟩ := List.getElem_of_mem hr
 have hk' : k < l.length := by rw [← h.1]; exact hk
 exact (h.2 k _ _ (List.getElem?_eq_getElem hk) (List.getElem?_eq_getElem hk')).len4
/-- a slice of patches -/
structure PatsAt (w : World) (A : Option Addr) (n : Nat) (l : List PatV) : Prop where
 len : l.length = n
 ex : ∃ rows, RowsP w rows l ∧ Sl w w.heap.size 4 A n rows.flatten
theorem PatsAt.ext {w w' : World} {A : Option Addr} {n : Nat} {l : List PatV} (h : PatsAt w A n l) (hb : Below w.heap.size w w') : PatsAt w' A n l := by
 obtain ⟨rows, h1, h2⟩ := h.ex
 exact ⟨h.len, rows, h1.ext hb, (h2.below hb (Nat.le_refl _)).more hb.size⟩
theorem PatsAt.at_ {w : World} {A : Option Addr} {n : Nat} {l : List PatV} (h : PatsAt w A n l) {k : Nat} (hk : k < n) : ∃ b o x r, A = some ⟨b, o, none⟩ ∧ b < w.heap.size ∧ l[k]? = some x ∧ PatAt w r x ∧ w.rangeAt b (o + k * 4) r := by
 obtain ⟨rows, h1, h2⟩ := h.ex
 have hk1 : k < l.length := by rw [h.len]; exact hk
 have hk2 : k < rows.length := by rw [h1.1]; exact hk1
 have e : rows.flatten = rows.flatMap id := by simp [List.flatMap_def]
 rw [e] at h2
 obtain ⟨b, o, rfl, hb, hr⟩ := h2.rowAt (by rw [h1.1, h.len]) (fun x hx => h1.len4 x hx) hk2
 exact ⟨b, o, l[k], rows[k], rfl, hb, List.getElem?_eq_getElem hk1, h1.2 k _ _ (List.getElem?_eq_getElem hk2) (List.getElem?_eq_getElem hk1), hr⟩
theorem allL_snoc {α : Type} {l : List α} {f : α → Bool} {k : Nat} {x : α} (h : l[k]? = some x) (hk : (l.take k).all f = true) (hx : f x = true) : (l.take (k + 1)).all f = true := by
 rw [take_snoc' h, List.all_append, hk]; simp [hx]
theorem allL_false {α : Type} {l : List α} {f : α → Bool} {k : Nat} {x : α} (h : l[k]? = some x) (hx : f x = false) : l.all f = false := by
 obtain ⟨h1, rfl⟩ := List.getElem?_eq_some_iff.1 h
 exact List.all_eq_false.2 ⟨_, List.getElem_mem h1, by simp [hx]⟩
end Go.Proofs.YtihggkmjalofiaaGreatDoor

/- Lists of patches: two that are the same, walked. -/
namespace Go.Proofs.YtihggkmjalofiaaGreatDoor
open Go.RowKit

end Go.Proofs.YtihggkmjalofiaaGreatDoor

/- Lists of patches that are handed back. -/
namespace Go.Proofs.YtihggkmjalofiaaGreatDoor
open Go.RowKit

theorem patSl : SlT Tryz.prog 22 31 4 56 := slT_of (z := .agg #[.int .u8 0, .int .u16 0, .slice none 0 0, .slice none 0 0]) Tryz.underlying22 (by kernel_rfl) rfl (by omega)
theorem PatAt.one {w : World} {r : List Value} {p : PatV} (h : PatAt w r p) : ∀ u ∈ r, u.oneCell' = true := by
 obtain ⟨⟨A, c, A', c', rfl, _, _⟩, _, _⟩ := h
 intro u hu
 simp only [patC, List.mem_cons, List.not_mem_nil, or_false] at hu
 rcases hu with rfl | rfl | rfl | rfl <;> rfl
end Go.Proofs.YtihggkmjalofiaaGreatDoor
