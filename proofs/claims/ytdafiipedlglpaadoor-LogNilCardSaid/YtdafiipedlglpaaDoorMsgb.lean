/- What is spoilt is told to be: plain law; no program in sight. -/
import Derived.Test.YtdafiipedlglpaaDoorMsga
namespace Go.Proofs.YtdafiipedlglpaaDoor

/-- the bits of bytes, the highest one of each first -/
def bitsU (l : List UInt8) : List Bool := (toB8 l).flatMap bitsB
theorem toB8_len (l : List UInt8) : (toB8 l).length = l.length := List.length_map ..
/-- bytes that differ in 32 bits in a row at most -/
structure Near (l m : List UInt8) (at_ : Int) : Prop where
  len : m.length = l.length
  win : ∀ p : Nat, (bitsU m)[p]? ≠ (bitsU l)[p]? → at_ ≤ (p : Int) ∧ (p : Int) < at_ + 32
theorem Near.refl (l : List UInt8) (a : Int) : Near l l a := ⟨rfl, fun _ h => absurd rfl h⟩
end Go.Proofs.YtdafiipedlglpaaDoor
