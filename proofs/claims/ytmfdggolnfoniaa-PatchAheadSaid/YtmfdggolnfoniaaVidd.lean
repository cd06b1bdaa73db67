/- Names of vertices: how they stand by number. -/
import Derived.Test.YtmfdggolnfoniaaVidc
namespace Go.Proofs.Ytmfdggolnfoniaa
open Go.RowKit

def lkeyP (p : PidV) : Int := packV ((p.2.val : Nat) : Int) ((p.1.val : Nat) : Int)
theorem lkeyP_inj (x y : PidV) (h : lkeyP x = lkeyP y) : x = y := by
  unfold lkeyP packV at h
  have h1 := x.1.isLt
  have h2 := y.1.isLt
  exact Prod.ext (Fin.ext (by omega)) (Fin.ext (by omega))
def latVV (x y : VidV) : Int := orV (signV (lkeyP x.1) (lkeyP y.1)) (signV ((x.2.val : Nat) : Int) ((y.2.val : Nat) : Int))
theorem latVV_ne {x y : VidV} (h : x.1 ≠ y.1) : latVV x y = signV (lkeyP x.1) (lkeyP y.1) := by
  have h0 : lkeyP x.1 ≠ lkeyP y.1 := fun e => h (lkeyP_inj _ _ e)
  unfold latVV orV
  rw [if_neg]
  unfold signV
  split <;> (try split) <;> omega
theorem latVV_same {x y : VidV} (h : x.1 = y.1) : latVV x y = signV (keyV x) (keyV y) := by
  unfold latVV orV
  rw [h, signV_eq rfl, if_pos rfl, keyV_same h]
end Go.Proofs.Ytmfdggolnfoniaa
