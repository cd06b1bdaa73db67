/- Texts of general use, one behind another. -/
import Derived.Test.YtdafiipedlglpaaDoorMsgc
import Derived.Test.YtdafiipedlglpaaDoorPcds
import Derived.Test.YtdafiipedlglpaaDoorLists
import Derived.Test.YtdafiipedlglpaaDoorPaws
import Derived.Test.YtdafiipedlglpaaDoorOps
import Derived.Test.YtdafiipedlglpaaDoorPati

/- Whether a message may be: walked, the program's and the document's. -/
namespace Go.Proofs.YtdafiipedlglpaaDoor
open Go.RowKit

section
variable {P : Program} {ops : Array Oper} {rest : List Oper} {a : Act} {w : World} {Q : Exit → Act → World → Prop} {d : Option Tmp} {ty t rt : TypeId} {pos : String} {after : Array Edge} {gd : Option (Nat × Bool)}
end
end Go.Proofs.YtdafiipedlglpaaDoor

/- A vector that is written: walked; texts up to 100000 bytes. -/
namespace Go.Proofs.YtdafiipedlglpaaDoor
open Go.RowKit

theorem WrB.less {w : World} {B g : Nat} {l : List UInt8} {N M : Nat → Prop} (h : WrB w B g l N) (hM : ∀ q, M q → N q) : WrB w B g l M := h.away (Below.refl _ _) fun q m => .inl (hM q m)
end Go.Proofs.YtdafiipedlglpaaDoor

/- Whether two messages are the same: walked, the program's and the document's. -/
namespace Go.Proofs.YtdafiipedlglpaaDoor
open Go.RowKit

end Go.Proofs.YtdafiipedlglpaaDoor
