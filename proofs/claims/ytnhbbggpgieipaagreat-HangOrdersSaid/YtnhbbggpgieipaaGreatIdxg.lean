/- An index made of patches; what any vector lacks, by the document: walked. -/
import Derived.Test.YtnhbbggpgieipaaGreatIdxf
import Derived.Test.YtnhbbggpgieipaaGreatVrefs
namespace Go.Proofs.YtnhbbggpgieipaaGreat
open Go.RowKit

def madeL (l : List PatV) : List PatV := l.foldl idxL []
theorem madeL_snoc {l : List PatV} {k : Nat} {p : PatV} (h : l[k]? = some p) : madeL (l.take (k + 1)) = idxL (madeL (l.take k)) p := by
  rw [take_snoc' h]
  unfold madeL
  rw [List.foldl_append]; rfl
theorem idxL_len (L : List PatV) (p : PatV) : (idxL L p).length ≤ L.length + 1 := by
  unfold idxL; split <;> simp
theorem madeL_go (l : List PatV) : ∀ acc : List PatV, (l.foldl idxL acc).length ≤ acc.length + l.length := by
  induction l with
  | nil => intro acc; simp
  | cons p l ih =>
    intro acc
    have h1 := ih (idxL acc p)
    have h2 := idxL_len acc p
    simp only [List.foldl_cons, List.length_cons]
    omega
theorem madeL_len (l : List PatV) : (madeL l).length ≤ l.length := by have := madeL_go l []; simpa [madeL] using this
theorem fews_at {l : List PatV} {m : Int} (h : fewsB l m = true) : (l.length : Int) ≤ m ∧ ∀ p ∈ l, p.2.1.length ≤ 100 ∧ p.2.2.length ≤ 60 := by
  unfold fewsB at h
  rw [Bool.and_eq_true, decide_eq_true_eq, List.all_eq_true] at h
  refine ⟨h.1, fun p hp => ?_⟩
  have := h.2 p hp
  unfold fewOne fewP at this
  simp only [Bool.and_eq_true, decide_eq_true_eq] at this
  exact ⟨this.1.1, this.2⟩
end Go.Proofs.YtnhbbggpgieipaaGreat
