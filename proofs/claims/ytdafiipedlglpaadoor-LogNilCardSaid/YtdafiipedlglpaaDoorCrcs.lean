/- Bytes are spoilt by the document: walked: in 32 bits in a row at most. -/
import Derived.Test.YtdafiipedlglpaaDoorCrcq
namespace Go.Proofs.YtdafiipedlglpaaDoor
open Go.RowKit

/-- a byte that differs at most where it is spoilt -/
def NearB (x y : UInt8) (i : Nat) (a : Int) : Prop := ∀ j, j < 8 → y.toBitVec.getLsbD (7 - j) ≠ x.toBitVec.getLsbD (7 - j) → a ≤ ((8 * i + j : Nat) : Int) ∧ ((8 * i + j : Nat) : Int) < a + 32
theorem NearB.refl (x : UInt8) (i : Nat) (a : Int) : NearB x x i a := fun _ _ h => absurd rfl h
def SpoilAt (l m : List UInt8) (a : Int) : Prop := ∀ (i : Nat) (x y : UInt8), l[i]? = some x → m[i]? = some y → NearB x y i a
theorem SpoilAt.nil (l : List UInt8) (a : Int) : SpoilAt l [] a := fun _ _ _ _ h => by simp at h
theorem SpoilAt.snoc {l m : List UInt8} {a : Int} {x y : UInt8} (h : SpoilAt l m a) (hx : l[m.length]? = some x) (hn : NearB x y m.length a) : SpoilAt l (m ++ [y]) a := fun i x' y' h1 h2 => by
  rcases Nat.lt_or_ge i m.length with c | c
  · rw [List.getElem?_append_left c] at h2
    exact h i x' y' h1 h2
  · rw [List.getElem?_append_right c] at h2
    match e : i - m.length, h2 with
    | 0, h2 =>
      have e2 : i = m.length := by omega
      subst e2
      rw [hx] at h1
      have h3 : y = y' := by simpa using h2
      rw [← Option.some.inj h1, ← h3]
      exact hn
    | q + 1, h2 => simp at h2
end Go.Proofs.YtdafiipedlglpaaDoor
