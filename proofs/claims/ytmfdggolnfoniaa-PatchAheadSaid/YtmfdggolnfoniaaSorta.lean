/- What the library's sort leaves of a row of structs of the call's own. No program in sight. -/
import Derived.Test.YtmfdggolnfoniaaGen
import Derived.Shelf.SlSortCmp.WholeK
namespace Go.Proofs.Ytmfdggolnfoniaa
open Go.RowKit Go.Sort

section
variable {α : Type} [Inhabited α] {enc : α → List Value} {size : Nat}
theorem flatK_list (henc : ∀ x, (enc x).length = size) (l : List α) : (Go.Sort.flatK enc size l.toArray).toList = l.flatMap enc := by
  have hl : (l.flatMap enc).length = l.length * size := flatMap_len enc l (fun x _ => henc x)
  apply List.ext_getElem?
  intro t
  by_cases ht : t < l.length * size
  · have hpos : 0 < size := by
      rcases Nat.eq_zero_or_pos size with h | h
      · subst h; simp at ht
      · exact h
    have hq : t / size < l.length := (Nat.div_lt_iff_lt_mul hpos).2 ht
    have hm := Nat.mod_lt t hpos
    have hg := flatMap_get enc l (fun x _ => henc x) (t / size) (t % size) hq hm
    rw [Nat.mul_comm (t / size), Nat.div_add_mod] at hg
    rw [hg]
    have hm' : t % size < (enc l[t / size]).length := by rw [henc]; exact hm
    have h1 : t < (Go.Sort.flatK enc size l.toArray).size := by rw [size_flatK]; simpa using ht
    rw [Array.getElem?_toList, Array.getElem?_eq_getElem h1, ← getElem!_pos (Go.Sort.flatK enc size l.toArray) t h1, get_flatK _ _ _ _ (by simpa using ht)]
    rw [getElem!_pos l.toArray _ (by simpa using hq), List.getElem_toArray, getElem!_pos (enc _) _ hm', List.getElem?_eq_getElem hm']
  · rw [List.getElem?_eq_none (by rw [Array.length_toList, size_flatK]; simpa using Nat.le_of_not_lt ht), List.getElem?_eq_none (by omega)]
theorem take_put (cur : Array Value) (F : Array Value) (h : F.size ≤ cur.size) : (putCells id 0 F cur).toList.take F.size = F.toList := by
  apply List.ext_getElem?
  intro k
  rw [List.getElem?_take]
  by_cases hk : k < F.size
  · rw [if_pos hk, Array.getElem?_toList, Array.getElem?_toList]
    unfold putCells
    rw [Array.getElem?_mapIdx, Array.getElem?_eq_getElem (show k < cur.size by omega), Array.getElem?_eq_getElem hk]
    simp [hk]
  · rw [if_neg hk, List.getElem?_eq_none (by rw [Array.length_toList]; omega)]
variable {w : World} {base : Nat} {e : TypeId} {g n cap : Nat} {l : List α}
theorem own_holds (henc : ∀ x, (enc x).length = size) (h : w.ownsRow base e size (.slice (some ⟨g, 0, none⟩) n cap) n (l.flatMap enc)) (hn : l.length = n) : HoldsK enc size w g 0 l.toArray := fun j hj => by
  have hj' : j < n * size := by simpa [hn] using hj
  have e1 := flatK_list henc l
  have e2 : (Go.Sort.flatK enc size l.toArray)[j]? = (l.flatMap enc)[j]? := by rw [← e1, Array.getElem?_toList]
  rw [Nat.zero_add, h.cellAt j hj', ← e2, Array.getElem?_eq_getElem hj, getElem!_pos (Go.Sort.flatK enc size l.toArray) j hj]
  exact ⟨rfl, h.frozenAt j⟩
theorem own_sorted (henc : ∀ x, (enc x).length = size) (h : w.ownsRow base e size (.slice (some ⟨g, 0, none⟩) n cap) n (l.flatMap enc)) (d' : List α) (hd : d'.length = n) (m : Nat) (os : Array Obj) :
    (sortWorldK enc size w g 0 m d'.toArray os).ownsRow base e size (.slice (some ⟨g, 0, none⟩) n cap) n (d'.flatMap enc) ∧ Below base w (sortWorldK enc size w g 0 m d'.toArray os) := by
  have hlt := (h.lt g rfl).2
  rcases h.2 with ⟨h', _⟩ | ⟨g', cap', cur, h', hb, hg, hnc, hcm, hcs, htake⟩
  · simp at h'
  · simp only [Value.slice.injEq, Option.some.injEq, Addr.mk.injEq, and_true, true_and] at h'
    obtain ⟨rfl, rfl⟩ := h'
    have hks : n * size ≤ cap * size := Nat.mul_le_mul_right _ hnc
    have hF : (Go.Sort.flatK enc size d'.toArray).size = n * size := by rw [size_flatK]; simp [hd]
    have hblk : ∀ k, (sortWorldK enc size w g 0 m d'.toArray os).heap[k]? = if k < w.heap.size then (if g = k then (w.heap[k]?).map (onCells (putCells id 0 (Go.Sort.flatK enc size d'.toArray))) else w.heap[k]?) else os[k - w.heap.size]? := by
      intro k
      unfold sortWorldK grow putRowK putRow mapBlock Sort.ahead
      simp only [Array.getElem?_append, Array.size_modify, Array.getElem?_modify]
    refine ⟨⟨by rw [flatMap_len enc d' (fun x _ => henc x), hd], .inr ⟨g, cap, putCells id 0 (Go.Sort.flatK enc size d'.toArray) cur, rfl, hb, ?_, hnc, hcm, by unfold putCells; simpa using hcs, ?_⟩⟩, ?_⟩
    · rw [hblk, if_pos hlt, if_pos rfl, hg]; rfl
    · rw [← hF, take_put cur _ (by rw [hF, hcs]; exact hks), flatK_list henc]
    · refine ⟨rfl, rfl, rfl, ?_, fun k hk => ?_⟩
      · unfold sortWorldK grow putRowK putRow mapBlock Sort.ahead
        simp
      · rw [hblk]
        by_cases hkw : k < w.heap.size
        · rw [if_pos hkw, if_neg (by omega)]
        · omega
theorem perm_of_in {l d' : List α} (h : PermIn 0 l.toArray.size l.toArray d'.toArray) : d'.Perm l ∧ d'.length = l.length := by
  obtain ⟨h1, _, h3⟩ := h
  have hs : d'.length = l.length := by simpa using h1
  refine ⟨?_, hs⟩
  have e1 : (d'.toArray.extract 0 l.toArray.size).toList = d' := by simp [← hs]
  have e2 : (l.toArray.extract 0 l.toArray.size).toList = l := by simp
  rw [e1, e2] at h3
  exact h3
theorem pair_of_sorted {key : α → Int} {lt : α → α → Bool} (hk : ∀ x y, lt x y = decide (key x < key y)) {d' : List α} (h : SortedIn lt 0 d'.length d'.toArray) : d'.Pairwise fun a b => key a ≤ key b := by
  rw [List.pairwise_iff_getElem]
  intro i j hi hj hij
  have := h i j (Nat.zero_le _) hij hj
  rw [hk, decide_eq_false_iff_not, getElem!_pos d'.toArray j (by simpa using hj), getElem!_pos d'.toArray i (by simpa using hi)] at this
  simp only [List.getElem_toArray] at this
  omega
end
end Go.Proofs.Ytmfdggolnfoniaa
