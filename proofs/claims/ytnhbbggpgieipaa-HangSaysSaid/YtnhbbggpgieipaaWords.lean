/- Texts of general use, one behind another. -/
import Derived.Test.YtnhbbggpgieipaaGen
import Derived.Test.YtnhbbggpgieipaaShelf

/- What the words' functions and the reference's return, as plain functions on bytes. -/
namespace Go.Proofs.Ytnhbbggpgieipaa
open Go.RowKit

def letterB (c : Int) : Bool := decide (97 ≤ c ∧ c ≤ 122 ∨ 48 ≤ c ∧ c ≤ 57 ∨ c = 46 ∨ c = 95 ∨ c = 45)
/-- the bytes of a text that may be a name -/
def nameB (l : List UInt8) : Bool := l.all (fun c => letterB c.toNat) && decide (1 ≤ l.length ∧ l.length ≤ 16)

/-- whether the bytes begin a mark -/
def markB (l : List UInt8) : Bool := match l with
  | a :: b :: c :: d :: e :: f :: g :: _ => (a == 60 || a == 61 || a == 62 || a == 124) && (b == a && c == a && d == a && e == a && f == a && g == a)
  | _ => false
def lineB (l : List UInt8) : Bool := !l.contains 10 && decide (l.length ≤ 60) && !markB l

end Go.Proofs.Ytnhbbggpgieipaa

/- Lines, and the chapter's example. -/
namespace Go.Proofs.Ytnhbbggpgieipaa
open Go.RowKit

end Go.Proofs.Ytnhbbggpgieipaa
