/- Texts of general use, one behind another. -/
import Derived.Test.YtdafiipedlglpaaGreatDoorRgab
import Derived.Test.YtdafiipedlglpaaGreatDoorGrjs
import Derived.Test.YtdafiipedlglpaaGreatDoorIdxn
import Derived.Test.YtdafiipedlglpaaGreatDoorVids
import Derived.Test.YtdafiipedlglpaaGreatDoorPaws
import Derived.Test.YtdafiipedlglpaaGreatDoorSgs

/- The document's graph: an error, the steps, the names: plain laws; no program in sight. -/
namespace Go.Proofs.YtdafiipedlglpaaGreatDoor
open Go.RowKit

section
variable {α : Type} (key : α → Int) [DecidableEq α]
variable {key}
end
end Go.Proofs.YtdafiipedlglpaaGreatDoor

/- The document's graph: is a vertex one of a kind; are two lists the same: walked. -/
namespace Go.Proofs.YtdafiipedlglpaaGreatDoor
open Go.RowKit

end Go.Proofs.YtdafiipedlglpaaGreatDoor

/- The document's graph: which patches there are: walked. -/
namespace Go.Proofs.YtdafiipedlglpaaGreatDoor
open Go.RowKit

end Go.Proofs.YtdafiipedlglpaaGreatDoor

/- The document's graph: a step put into a list: walked. -/
namespace Go.Proofs.YtdafiipedlglpaaGreatDoor
open Go.RowKit

end Go.Proofs.YtdafiipedlglpaaGreatDoor

/- The document's graph: the names of all vertices; all steps: walked. -/
namespace Go.Proofs.YtdafiipedlglpaaGreatDoor
open Go.RowKit

end Go.Proofs.YtdafiipedlglpaaGreatDoor

/- The document's graph: all vertices, all files, what is of a kind, a file's steps: walked. -/
namespace Go.Proofs.YtdafiipedlglpaaGreatDoor
open Go.RowKit

end Go.Proofs.YtdafiipedlglpaaGreatDoor

/- The document's graph: what is of a kind, a file's steps: walked. -/
namespace Go.Proofs.YtdafiipedlglpaaGreatDoor
open Go.RowKit

end Go.Proofs.YtdafiipedlglpaaGreatDoor

/- The document's graph, and the program's, of the same patches, are the same: walked. -/
namespace Go.Proofs.YtdafiipedlglpaaGreatDoor
open Go.RowKit

theorem VidsAtS.of_own {w : World} {base n : Nat} {v : Value} {l : List VidV} (h : w.ownsRow base 98 3 v n (l.flatMap encV)) (hn : l.length = n) : ∃ A c, v = .slice A n c ∧ n ≤ c ∧ VidsAt w A n l := by
  obtain ⟨A, c, rfl, hc, hs⟩ := Sl.of_own h
  exact ⟨A, c, rfl, hc, hn, hs⟩
end Go.Proofs.YtdafiipedlglpaaGreatDoor
