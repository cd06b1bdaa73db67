/- Texts of general use, one behind another. -/
import Derived.Test.YtdafiipedlglpaaGreatDoorGrjs
import Derived.Test.YtdafiipedlglpaaGreatDoorGrhs
import Derived.Test.YtdafiipedlglpaaGreatDoorPaws
import Derived.Test.YtdafiipedlglpaaGreatDoorLits
import Derived.Test.YtdafiipedlglpaaGreatDoorGras
import Derived.Test.YtdafiipedlglpaaGreatDoorVrefs

/- The chapter's example of a graph: walked. -/
namespace Go.Proofs.YtdafiipedlglpaaGreatDoor
open Go.RowKit

end Go.Proofs.YtdafiipedlglpaaGreatDoor

/- The same patches make the same graph: the statement walked. -/
namespace Go.Proofs.YtdafiipedlglpaaGreatDoor
open Go.RowKit

/-- no two of the first k with one name -/
def OneN (l : List PatV) (k : Nat) : Prop := ∀ a b p q, a < k → b < a → l[a]? = some p → l[b]? = some q → p.1 = q.1 → p = q
def OneI (l : List PatV) (p : PatV) (j : Nat) : Prop := ∀ b q, b < j → l[b]? = some q → p.1 = q.1 → p = q
theorem OneN.snoc {l : List PatV} {k : Nat} {p : PatV} (h : OneN l k) (hp : l[k]? = some p) (hi : OneI l p k) : OneN l (k + 1) := fun a b p' q ha hb hp' hq e => by
  by_cases hk : a = k
  · subst hk
    rw [hp] at hp'
    obtain rfl := Option.some.inj hp'
    exact hi b q hb hq e
  · exact h a b p' q (by omega) hb hp' hq e
theorem OneI.snoc {l : List PatV} {p q : PatV} {j : Nat} (h : OneI l p j) (hq : l[j]? = some q) (hi : p.1 = q.1 → p = q) : OneI l p (j + 1) := fun b q' hb hq' e => by
  by_cases hk : b = j
  · subst hk
    rw [hq] at hq'
    obtain rfl := Option.some.inj hq'
    exact hi e
  · exact h b q' (by omega) hq' e
theorem OneN.all {l : List PatV} (h : OneN l l.length) : ∀ p ∈ l, ∀ q ∈ l, p.1 = q.1 → p = q := fun p hp q hq e => by
  obtain ⟨a, ha⟩ := List.mem_iff_getElem?.1 hp
  obtain ⟨b, hb⟩ := List.mem_iff_getElem?.1 hq
  have la := (List.getElem?_eq_some_iff.1 ha).1
  have lb := (List.getElem?_eq_some_iff.1 hb).1
  rcases Nat.lt_trichotomy b a with c | c | c
  · exact h a b p q la c ha hb e
  · subst c
    rw [ha] at hb
    exact Option.some.inj hb
  · exact (h b a q p lb c hb ha e.symm).symm
end Go.Proofs.YtdafiipedlglpaaGreatDoor

/- What GraphWhole needs beside: comparisons, walked again; what is applied hangs together. -/
namespace Go.Proofs.YtdafiipedlglpaaGreatDoor
open Go.RowKit

end Go.Proofs.YtdafiipedlglpaaGreatDoor

/- What is applied hangs together: the statement walked. -/
namespace Go.Proofs.YtdafiipedlglpaaGreatDoor
open Go.RowKit

end Go.Proofs.YtdafiipedlglpaaGreatDoor
