/- Whoever comes first, the same waits; what waits is in the hint: plain laws. -/
import Derived.Test.YtdafiipedlglpaaGreatPools
import Derived.Test.YtdafiipedlglpaaGreatHints
namespace Go.Proofs.YtdafiipedlglpaaGreat
open Go.RowKit

theorem snoc_ind {α : Type} {P : List α → Prop} (h0 : P []) (hs : ∀ l a,P l → P (l ++ [a])) (l : List α) : P l:=by
 have key : ∀ m : List α,P m.reverse:=fun m => by
  induction m with
  | nil => exact h0
  | cons a m ih => rw [List.reverse_cons]; exact hs _ _ ih
 have:=key l.reverse
 rwa [List.reverse_reverse] at this
end Go.Proofs.YtdafiipedlglpaaGreat
