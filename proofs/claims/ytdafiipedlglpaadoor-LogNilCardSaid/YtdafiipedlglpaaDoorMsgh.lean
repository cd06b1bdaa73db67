/- Whether two messages are the same: walked, the program's and the document's. -/
import Derived.Test.YtdafiipedlglpaaDoorMsgs
namespace Go.Proofs.YtdafiipedlglpaaDoor
open Go.RowKit

section
variable {ops : Array Oper} {rest : List Oper} {a : Act} {w : World} {Q : Exit → Act → World → Prop} {d : Option Tmp} {ty t rt : TypeId} {pos : String} {after : Array Edge} {gd : Option (Nat × Bool)}
end
end Go.Proofs.YtdafiipedlglpaaDoor
