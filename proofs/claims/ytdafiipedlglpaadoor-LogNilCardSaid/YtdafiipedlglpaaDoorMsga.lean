/- A message's bytes, and the message that bytes tell: plain law; no program in sight. -/
import Derived.Test.YtdafiipedlglpaaDoorPcds
import Derived.Test.YtdafiipedlglpaaDoorCrcp
import Derived.Test.YtdafiipedlglpaaDoorVecs
import Derived.Test.YtdafiipedlglpaaDoorHints
namespace Go.Proofs.YtdafiipedlglpaaDoor

/-- a message -/
abbrev MsgV := (Fin 256 × Fin 256 × Fin 256) × List Int × List Nat × List PatV
structure MsgOk (m : MsgV) : Prop where
  vec : VecOk m.2.1
  bl : BlOk m.2.2.1
/-- bytes with their sum -/
def toB8 (l : List UInt8) : List B8 := l.map (·.toBitVec)
def fourU (s : B32) : List UInt8 := (fourB s).map fun x => UInt8.ofBitVec x
def sealB (l : List UInt8) : List UInt8 := l ++ fourU (sumC (toB8 l))
theorem fourU_len (s : B32) : (fourU s).length = 4 := rfl
theorem sealB_len (l : List UInt8) : (sealB l).length = l.length + 4 := by unfold sealB; rw [List.length_append, fourU_len]
end Go.Proofs.YtdafiipedlglpaaDoor
