/- A message's bytes, and the message that bytes tell: plain law; no program in sight. -/
import Derived.Test.YtdafiipedlglpaaGreatDoorPcds
import Derived.Test.YtdafiipedlglpaaGreatDoorCrcp
import Derived.Test.YtdafiipedlglpaaGreatDoorVecs
import Derived.Test.YtdafiipedlglpaaGreatDoorHints
namespace Go.Proofs.YtdafiipedlglpaaGreatDoor

/-- a message -/
abbrev MsgV := (Fin 256 × Fin 256 × Fin 256) × List Int × List Nat × List PatV
structure MsgOk (m : MsgV) : Prop where
  vec : VecOk m.2.1
  bl : BlOk m.2.2.1
/-- bytes with their sum -/
def toB8 (l : List UInt8) : List B8 := l.map (·.toBitVec)
def fourU (s : B32) : List UInt8 := (fourB s).map fun x => UInt8.ofBitVec x
def sealB (l : List UInt8) : List UInt8 := l ++ fourU (sumC (toB8 l))
theorem fourU_len (s : B32) : (fourU s).length = 4 := rfl
theorem sealB_len (l : List UInt8) : (sealB l).length = l.length + 4 := by unfold sealB; rw [List.length_append, fourU_len]
theorem list_snoc_ind {α : Type} {P : List α → Prop} (h0 : P []) (h1 : ∀ l x, P l → P (l ++ [x])) (l : List α) : P l := by
  have : ∀ n (l : List α), l.length = n → P l := by
    intro n
    induction n with
    | zero => intro l h; rw [List.eq_nil_of_length_eq_zero h]; exact h0
    | succ n ih =>
      intro l h
      have hne : l ≠ [] := by intro e; rw [e] at h; cases h
      rw [← List.dropLast_concat_getLast hne]
      exact h1 _ _ (ih _ (by rw [List.length_dropLast]; omega))
  exact this _ l rfl
end Go.Proofs.YtdafiipedlglpaaGreatDoor
