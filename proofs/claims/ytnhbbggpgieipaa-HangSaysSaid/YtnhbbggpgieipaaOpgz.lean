/- Whether an operation may stand at a place. -/
import Derived.Test.YtnhbbggpgieipaaGoods
import Derived.Test.YtnhbbggpgieipaaWords
namespace Go.Proofs.Ytnhbbggpgieipaa
open Go.RowKit

def peqV (a s : Int) (v : VidO) : Bool := decide (v.a = a) && decide (v.s = s)
def veqV (x y : VidO) : Bool := decide (x.a = y.a) && decide (x.s = y.s) && decide (x.n = y.n)
def refOk (a s i : Int) (v : VidO) : Bool := vidOk v.a v.s v.n && !(peqV a s v && decide (i ≤ v.n))
def tailOk (a s k : Int) (x y : VidO) (t : ByteArray) : Bool :=
  if k = 1 then veqV y ⟨0, 0, 0⟩ && (veqV x ⟨0, 0, 0⟩ && t.toList.isEmpty)
  else if k = 2 then veqV y ⟨0, 0, 0⟩ && nameB t.data.toList
  else if k = 3 then veqV y ⟨0, 0, 0⟩ && lineB t.data.toList
  else if k = 4 then !veqV x y && t.toList.isEmpty
  else if k = 5 then veqV y ⟨0, 0, 0⟩ && (!peqV a s x && t.toList.isEmpty)
  else false
def opGood (a s i k : Int) (x y : VidO) (t : ByteArray) : Bool := (refsV k x y).all (refOk a s i) && tailOk a s k x y t

/-- the argument's cells in a block -/
def OpAt (w : World) (b : Nat) (k : Int) (x y : VidO) (t : ByteArray) : Prop :=
  w.cell? ⟨b, 0, none⟩ = some (.int .u8 k) ∧ w.cell? ⟨b, 1, none⟩ = some (.int .u8 x.a) ∧ w.cell? ⟨b, 2, none⟩ = some (.int .u16 x.s) ∧ w.cell? ⟨b, 3, none⟩ = some (.int .u8 x.n) ∧
  w.cell? ⟨b, 4, none⟩ = some (.int .u8 y.a) ∧ w.cell? ⟨b, 5, none⟩ = some (.int .u16 y.s) ∧ w.cell? ⟨b, 6, none⟩ = some (.int .u8 y.n) ∧ w.cell? ⟨b, 7, none⟩ = some (.string t) ∧ b < w.heap.size
def PidAt (w : World) (b : Nat) (a s : Int) : Prop := w.cell? ⟨b, 0, none⟩ = some (.int .u8 a) ∧ w.cell? ⟨b, 1, none⟩ = some (.int .u16 s) ∧ b < w.heap.size
theorem OpAt.keep {w w' : World} {b : Nat} {k : Int} {x y : VidO} {t : ByteArray} (h : OpAt w b k x y t) (hb : Below w.heap.size w w') : OpAt w' b k x y t := by
  obtain ⟨h0, h1, h2, h3, h4, h5, h6, h7, hl⟩ := h
  exact ⟨(hb.cell hl).trans h0, (hb.cell hl).trans h1, (hb.cell hl).trans h2, (hb.cell hl).trans h3, (hb.cell hl).trans h4, (hb.cell hl).trans h5, (hb.cell hl).trans h6, (hb.cell hl).trans h7, Nat.lt_of_lt_of_le hl hb.size⟩
theorem PidAt.keep {w w' : World} {b : Nat} {a s : Int} (h : PidAt w b a s) (hb : Below w.heap.size w w') : PidAt w' b a s := by
  obtain ⟨h0, h1, hl⟩ := h
  exact ⟨(hb.cell hl).trans h0, (hb.cell hl).trans h1, Nat.lt_of_lt_of_le hl hb.size⟩
end Go.Proofs.Ytnhbbggpgieipaa
