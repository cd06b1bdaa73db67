/- A message as it lies; whether a vector, and a message, may be: walked. -/
import Derived.Test.YtdafiipedlglpaaDoorMsga
import Derived.Test.YtdafiipedlglpaaDoorLists
import Derived.Test.YtdafiipedlglpaaDoorIdxw
import Derived.Test.YtdafiipedlglpaaDoorPats
import Derived.Test.YtdafiipedlglpaaDoorPatr
namespace Go.Proofs.YtdafiipedlglpaaDoor
open Go.RowKit

def vecK (v : List Int) : List Value := v.map (Value.int .u16)
/-- a message's cells -/
def msgC (m : MsgV) (A : Option Addr) (n c : Nat) : List Value := .int .u8 ((m.1.1.val : Nat) : Int) :: .int .u8 ((m.1.2.1.val : Nat) : Int) :: .int .u8 ((m.1.2.2.val : Nat) : Int) :: (vecK m.2.1 ++ (encBl m.2.2.1 ++ [.slice A n c]))
/-- a message as it lies -/
structure MsgAt (w : World) (cs : List Value) (m : MsgV) : Prop where
  ok : MsgOk m
  ex : ∃ A c, cs = msgC m A m.2.2.2.length c ∧ PatsAt w A m.2.2.2.length m.2.2.2
  small : m.2.2.2.length ≤ maxLen
theorem MsgAt.ext {w w' : World} {cs : List Value} {m : MsgV} (h : MsgAt w cs m) (hb : Below w.heap.size w w') : MsgAt w' cs m := by
  obtain ⟨A, c, e, h1⟩ := h.ex
  exact ⟨h.ok, ⟨A, c, e, h1.ext hb⟩, h.small⟩
section
variable {w : World} {g : Nat} {t : TypeId} {m : MsgV} {A : Option Addr} {n c : Nat}
end
end Go.Proofs.YtdafiipedlglpaaDoor
