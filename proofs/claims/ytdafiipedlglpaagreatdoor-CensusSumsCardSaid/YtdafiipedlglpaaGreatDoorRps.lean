/- Texts of general use, one behind another. -/
import Derived.Test.YtdafiipedlglpaaGreatDoorBufs

/- The reference's numbers as bytes: walked. -/
namespace Go.Proofs.YtdafiipedlglpaaGreatDoor
open Go.RowKit

end Go.Proofs.YtdafiipedlglpaaGreatDoor

/- The reference's reading of a number: walked. -/
namespace Go.Proofs.YtdafiipedlglpaaGreatDoor
open Go.RowKit

/-- the number of its groups of seven bits -/
def hv : List UInt8 → Nat
  | [] => 0
  | x :: t => x.toNat % 128 + 128 * hv t
end Go.Proofs.YtdafiipedlglpaaGreatDoor

/- The reference's reader: a byte, a number, the end: walked. -/
namespace Go.Proofs.YtdafiipedlglpaaGreatDoor
open Go.RowKit

/-- the reference's reader: what was not read, and what was wrong; the bytes lie below block B -/
structure RrAt (w : World) (B g : Nat) (l : List UInt8) (e : Nat) : Prop where
  ge : B ≤ g
  ex : ∃ A c, Blk w g 146 #[.slice A l.length c, .int .i64 (e : Int)] ∧ l.length ≤ c ∧ c ≤ maxLen ∧ Sl w B 1 A l.length (encB l)
theorem RrAt.ext {w w' : World} {B g e : Nat} {l : List UInt8} (h : RrAt w B g l e) (hb : Below w.heap.size w w') : RrAt w' B g l e := by
  obtain ⟨A, c, h1, h2, h3, h4⟩ := h.ex
  exact ⟨h.ge, A, c, h1.ext hb, h2, h3, h4.below hb (by have := h1.lt; have := h.ge; omega)⟩
end Go.Proofs.YtdafiipedlglpaaGreatDoor

/- The reference's reader: a text: walked. -/
namespace Go.Proofs.YtdafiipedlglpaaGreatDoor
open Go.RowKit

end Go.Proofs.YtdafiipedlglpaaGreatDoor
