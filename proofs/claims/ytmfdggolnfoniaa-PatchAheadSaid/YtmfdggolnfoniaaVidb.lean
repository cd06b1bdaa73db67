/- Names of vertices: told, and held against each other, by the document, and by number. -/
import Derived.Test.YtmfdggolnfoniaaVida
import Derived.Test.YtmfdggolnfoniaaPidt
namespace Go.Proofs.Ytmfdggolnfoniaa
open Go.RowKit

def vidText (a s n : Nat) : List UInt8 := pidText a s ++ 46 :: Lib.itoa (n : Int)
theorem blk_sub {w0 : World} {g o : Nat} {t : TypeId} {cs : Array Value} {ds : List Value} (h : Blk w0 g t cs) (hd : ∀ j v, ds[j]? = some v → cs[o + j]? = some v) : w0.rangeAt g o ds := fun j v hv => by
  rw [h.cell]; exact hd j v hv
theorem ext_sub {w0 : World} {g o : Nat} {t : TypeId} {cs : Array Value} {ds : List Value} (h : Blk w0 g t cs) (hd : ∀ j v, ds[j]? = some v → cs[o + j]? = some v) : ∀ w', (∃ z : Ext w0, w' = z.w) → w'.rangeAt g o ds := by
  rintro _ ⟨z, rfl⟩
  exact blk_sub (h.ext z.h) hd
theorem ext_row' {w0 : World} {g : Nat} {t : TypeId} {cs : Array Value} (h : Blk w0 g t cs) : ∀ w', (∃ z : Ext w0, w' = z.w) → w'.rangeAt g 0 cs.toList := by
  rintro _ ⟨z, rfl⟩
  intro j v hv
  rw [Nat.zero_add, (h.ext z.h).cell, ← Array.getElem?_toList]; exact hv
theorem RetB.ofG {w w' : World} {v : Value} {e : Ending} (h : RetG w v e w') : RetB w v e w' := ⟨h.1, h.2.below⟩
theorem mixedT : Try.prog.follows .mixedOrders = true := by kernel_rfl
theorem pidText_le {a s : Nat} (ha : a < 256) (hs : s < 65536) : (pidText a s).length ≤ 50 := by
  unfold pidText
  have h1 := itoa_len a (by omega)
  have h2 := itoa_len s (by omega)
  simp only [List.length_append, List.length_cons]; omega
/-- the document's order -/
theorem keyV_ne {x y : VidV} (h : x.1 ≠ y.1) : signV (keyV x) (keyV y) = signV (keyP x.1) (keyP y.1) := by
  have h0 : keyP x.1 ≠ keyP y.1 := fun e => h (keyP_inj _ _ e)
  have h1 := x.2.isLt
  have h2 := y.2.isLt
  unfold keyV signV
  split <;> (try split) <;> (try split) <;> (try split) <;> omega
theorem keyV_same {x y : VidV} (h : x.1 = y.1) : signV (keyV x) (keyV y) = signV ((x.2.val : Nat) : Int) ((y.2.val : Nat) : Int) := by
  unfold keyV signV
  rw [h]
  split <;> (try split) <;> (try split) <;> (try split) <;> omega
end Go.Proofs.Ytmfdggolnfoniaa
