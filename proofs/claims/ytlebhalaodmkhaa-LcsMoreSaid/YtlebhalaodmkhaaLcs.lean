/- The table of what two lists have in common: walked. -/
import Derived.Test.YtlebhalaodmkhaaLcsm
import Derived.Test.YtlebhalaodmkhaaTail
import Derived.Laws.MakeOwn
namespace Go.Proofs.Ytlebhalaodmkhaa
open Go.RowKit

theorem run_makeN {P : Program} (t e : TypeId) (i : TypeInfo) (z : Value) (ht : P.underlying t = some (.slice e)) (hi : P.info? e = some i) (hz : i.zero = some z) (hsz : i.size = 1) (hb : i.bytes ≤ 1000)
    (n : Nat) (hn : n ≤ 1000) (w : World) :
    (Instr.makeSlice t (.int .i64 ((n : Int) + 1)) (.int .i64 ((n : Int) + 1))).run P w = .ok (.slice (some ⟨w.heap.size, 0, none⟩) (n + 1) (n + 1)) (w.alloc (.cells (madeCells z.cells (n + 1)) e)) := by
  have h : (i.bytes : Int) * ((n : Int) + 1) ≤ 281474976710656 := by
    have h1 : i.bytes * (n + 1) ≤ 1000 * 1001 := Nat.mul_le_mul hb (by omega)
    have h2 : ((i.bytes * (n + 1) : Nat) : Int) ≤ 1000 * 1001 := by omega
    rw [Int.natCast_mul] at h2
    have h3 : ((n + 1 : Nat) : Int) = (n : Int) + 1 := by omega
    rw [h3] at h2; omega
  have hr := run_make (P := P) w t e i z ht hi hz .i64 .i64 ((n : Int) + 1) ((n : Int) + 1) (by omega) (by omega) h (by omega)
  have e1 : ((n : Int) + 1).toNat = n + 1 := by omega
  rw [e1, hsz, Nat.mul_one] at hr
  exact hr

theorem str_ne {s t : ByteArray} (h : s ≠ t) : (s.toList == t.toList) = false := by
  rw [beq_eq_false_iff_ne]
  intro e
  rw [ByteArray.toList_eq, ByteArray.toList_eq] at e
  exact h (ByteArray.ext (Array.ext' e))
def rowV (g n p : Nat) : Value := .slice (some ⟨g + 1 + p, 0, none⟩) (n + 1) (n + 1)
def outC (g m n k : Nat) : Array Value := ((List.range (m + 1)).map fun p => if p < k then rowV g n p else .slice none 0 0).toArray
def rowC (n : Nat) (f : Nat → Int) : Array Value := ((List.range (n + 1)).map fun q => Value.int .i64 (f q)).toArray
theorem outC_get {g m n k p : Nat} (hp : p < m + 1) : (outC g m n k)[p]? = some (if p < k then rowV g n p else .slice none 0 0) := by
  simp [outC, hp]
theorem rowC_get {n q : Nat} {f : Nat → Int} (hq : q < n + 1) : (rowC n f)[q]? = some (.int .i64 (f q)) := by
  simp [rowC, hq]
theorem outC_set {g m n k : Nat} : (outC g m n k).setIfInBounds k (rowV g n k) = outC g m n (k + 1) := by
  apply Array.ext_getElem?
  intro i
  rw [Array.getElem?_setIfInBounds]
  by_cases hi : i < m + 1
  · rw [outC_get hi]
    by_cases h : k = i
    · subst h
      have hs : k < (outC g m n k).size := by simp [outC]; omega
      rw [outC_get hi, if_pos (by omega : k < k + 1)]
      simp [hs]
    · rw [if_neg h, outC_get hi]
      by_cases h2 : i < k
      · rw [if_pos h2, if_pos (by omega)]
      · rw [if_neg h2, if_neg (by omega)]
  · have hn1 : (outC g m n k).size = m + 1 := by simp [outC]
    have hn2 : (outC g m n (k+1)).size = m + 1 := by simp [outC]
    rw [Array.getElem?_eq_none (by omega : (outC g m n (k+1)).size ≤ i), Array.getElem?_eq_none (by omega : (outC g m n k).size ≤ i)]
    by_cases h : k = i
    · subst h; rw [if_pos rfl, if_neg (by omega)]
    · rw [if_neg h]
theorem rowC_set {n q : Nat} {f : Nat → Int} {v : Int} : (rowC n f).setIfInBounds q (.int .i64 v) = rowC n (fun j => if j = q then v else f j) := by
  apply Array.ext_getElem?
  intro i
  rw [Array.getElem?_setIfInBounds]
  have hn1 : (rowC n f).size = n + 1 := by simp [rowC]
  have hn2 : (rowC n (fun j => if j = q then v else f j)).size = n + 1 := by simp [rowC]
  by_cases hi : i < n + 1
  · rw [rowC_get hi, rowC_get hi]
    by_cases h : q = i
    · subst h
      simp [hn1, hi]
    · rw [if_neg h, if_neg (by omega)]
  · rw [Array.getElem?_eq_none (by omega : (rowC n (fun j => if j = q then v else f j)).size ≤ i), Array.getElem?_eq_none (by omega : (rowC n f).size ≤ i)]
    by_cases h : q = i
    · subst h; rw [if_pos rfl, if_neg (by omega)]
    · rw [if_neg h]
theorem madeCells_one (z : Value) (n : Nat) : madeCells #[z] n = Array.replicate n z := by
  unfold madeCells
  apply Array.ext_getElem?
  intro i
  simp
  by_cases hi : i < n
  · simp [hi, Nat.mod_one]
  · simp [hi]

/-- a table of k rows, g its block, the rows behind it -/
structure TabAt (w : World) (g m n k : Nat) (f : Nat → Nat → Int) : Prop where
  out : Blk w g 44 (outC g m n k)
  row : ∀ p, p < k → Blk w (g + 1 + p) 3 (rowC n (f p))
section
variable {w w' : World} {g m n k : Nat} {f : Nat → Nat → Int}
theorem TabAt.ext (h : TabAt w g m n k f) (hb : Below w.heap.size w w') : TabAt w' g m n k f := ⟨h.out.ext hb, fun p hp => (h.row p hp).ext hb⟩
theorem TabAt.drew (h : TabAt w g m n k f) : TabAt w.drew g m n k f := ⟨h.out, h.row⟩
theorem TabAt.drewN (h : TabAt w g m n k f) (j : Nat) : TabAt (w.drewN j) g m n k f := ⟨h.out, h.row⟩
theorem TabAt.co (h : TabAt w g m n k f) {p : Nat} (hk : k ≤ m + 1) (hp : p < k) : w.cell? ⟨g, p, none⟩ = some (.slice (some ⟨g + 1 + p, 0, none⟩) (n + 1) (n + 1)) := by
  rw [h.out.cell, outC_get (by omega), if_pos hp]; rfl
theorem TabAt.cr (h : TabAt w g m n k f) {p q : Nat} (hp : p < k) (hq : q < n + 1) : w.cell? ⟨g + 1 + p, q, none⟩ = some (.int .i64 (f p q)) := by
  rw [(h.row p hp).cell, rowC_get hq]
theorem TabAt.fr (h : TabAt w g m n k f) {p q : Nat} (hp : p < k) : w.frozen? ⟨g + 1 + p, q, none⟩ = false := (h.row p hp).fr q
theorem TabAt.set (h : TabAt w g m n k f) {p q : Nat} {v : Int} (hp : p < k) : TabAt (w.setCell ⟨g + 1 + p, q, none⟩ (.int .i64 v)) g m n k (fun i j => if i = p ∧ j = q then v else f i j) := by
  refine ⟨h.out.far (by show g ≠ g + 1 + p; omega) _, fun i hi => ?_⟩
  by_cases e : i = p
  · subst e
    have h1 := (h.row i hi).set_ q (.int .i64 v)
    rw [rowC_set] at h1
    have e2 : (fun j => if i = i ∧ j = q then v else f i j) = (fun j => if j = q then v else f i j) := by funext j; simp
    rw [e2]; exact h1
  · have e2 : (fun j => if i = p ∧ j = q then v else f i j) = f i := by funext j; rw [if_neg (fun h => e h.1)]
    rw [e2]; exact (h.row i hi).far (by show g + 1 + i ≠ g + 1 + p; omega) _
theorem TabAt.more (h : TabAt w g m n k (fun _ _ => 0)) (hs : w.heap.size = g + 1 + k) :
    TabAt ((w.setCell ⟨g, k, none⟩ (.slice (some ⟨w.heap.size, 0, none⟩) (n + 1) (n + 1))).alloc (.cells (Array.replicate (n + 1) (Value.int .i64 0)) 3)) g m n (k + 1) (fun _ _ => 0) := by
  have hv : Value.slice (some ⟨w.heap.size, 0, none⟩) (n + 1) (n + 1) = rowV g n k := by rw [hs]; rfl
  rw [hv]
  have hz : Array.replicate (n + 1) (Value.int .i64 0) = rowC n (fun _ => 0) := by
    rw [← List.toArray_replicate]
    unfold rowC
    congr 1
    apply List.ext_getElem
    · simp
    · intro i h1 h2; simp
  rw [hz]
  refine ⟨?_, fun p hp => ?_⟩
  · rw [← outC_set]; exact (h.out.set_ k _).alloc _
  · by_cases e : p < k
    · exact ((h.row p e).far (by show g + 1 + p ≠ g; omega) _).alloc _
    · have : p = k := by omega
      subst this
      exact Blk.newAt (by simp [World.setCell, hs]) _ _
theorem TabAt.congr {f' : Nat → Nat → Int} (h : TabAt w g m n k f) (he : ∀ p q, p < k → q < n + 1 → f p q = f' p q) : TabAt w g m n k f' :=
  ⟨h.out, fun p hp => by
    have e : rowC n (f' p) = rowC n (f p) := by
      unfold rowC
      congr 1
      apply List.map_congr_left
      intro q hq
      rw [he p q hp (List.mem_range.1 hq)]
    rw [e]; exact h.row p hp⟩
end
/-- the table, filled from its end: x rows, and y of the next one -/
def fillT (xs ys : List ByteArray) (x y : Nat) (p q : Nat) : Int := if xs.length ≤ p + x ∨ (p + x + 1 = xs.length ∧ ys.length ≤ q + y) then (lcsT xs ys p q : Int) else 0
theorem fillT_zero (xs ys : List ByteArray) (p q : Nat) : fillT xs ys 0 0 p q = 0 := by
  unfold fillT
  split
  · rename_i h
    rw [lcsT_end xs ys p q (by omega)]; rfl
  · rfl
theorem fillT_next (xs ys : List ByteArray) (x p q : Nat) (hq : q < ys.length + 1) : fillT xs ys x ys.length p q = fillT xs ys (x + 1) 0 p q := by
  unfold fillT
  by_cases h1 : xs.length ≤ p + x
  · rw [if_pos (.inl h1), if_pos (.inl (by omega))]
  · by_cases h2 : p + x + 1 = xs.length
    · rw [if_pos (.inr ⟨h2, by omega⟩), if_pos (.inl (by omega))]
    · rw [if_neg (by omega)]
      split
      · rename_i h3
        have : ys.length = q := by omega
        rw [lcsT_end xs ys p q (by omega)]; rfl
      · rfl
theorem fillT_all (xs ys : List ByteArray) (p q : Nat) : fillT xs ys xs.length 0 p q = lcsT xs ys p q := by
  unfold fillT; rw [if_pos (.inl (by omega))]
theorem fillT_step (xs ys : List ByteArray) {x y i j : Nat} (hi : i + x + 1 = xs.length) (hj : j + y + 1 = ys.length) (p q : Nat) :
    (if p = i ∧ q = j then ((lcsT xs ys i j : Nat) : Int) else fillT xs ys x y p q) = fillT xs ys x (y + 1) p q := by
  by_cases h : p = i ∧ q = j
  · obtain ⟨rfl, rfl⟩ := h
    rw [if_pos ⟨rfl, rfl⟩]; unfold fillT; rw [if_pos (.inr ⟨hi, by omega⟩)]
  · rw [if_neg h]; unfold fillT
    by_cases h1 : xs.length ≤ p + x ∨ (p + x + 1 = xs.length ∧ ys.length ≤ q + y)
    · rw [if_pos h1, if_pos (by omega)]
    · rw [if_neg h1, if_neg (by omega)]
theorem fillT_old (xs ys : List ByteArray) {x y i j : Nat} (hi : i + x + 1 = xs.length) (hj : j + y + 1 = ys.length) :
    fillT xs ys x y (i + 1) (j + 1) = lcsT xs ys (i + 1) (j + 1) ∧ fillT xs ys x y (i + 1) j = lcsT xs ys (i + 1) j ∧ fillT xs ys x y i (j + 1) = lcsT xs ys i (j + 1) := by
  unfold fillT
  exact ⟨by rw [if_pos (by omega)], by rw [if_pos (by omega)], by rw [if_pos (by omega)]⟩
end Go.Proofs.Ytlebhalaodmkhaa
