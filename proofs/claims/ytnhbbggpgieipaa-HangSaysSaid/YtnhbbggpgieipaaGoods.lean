/- Texts of general use, one behind another. -/
import Derived.Test.YtnhbbggpgieipaaGen

/- Which names of patches and of vertices may be. -/
namespace Go.Proofs.Ytnhbbggpgieipaa
open Go.RowKit

def pidOk (a s : Int) : Bool := decide (1 ≤ a) && decide (a ≤ 64) && decide (1 ≤ s) && decide (s ≤ 60000)
end Go.Proofs.Ytnhbbggpgieipaa

/- Which names of vertices may be. -/
namespace Go.Proofs.Ytnhbbggpgieipaa
open Go.RowKit

def vidOk (a s n : Int) : Bool := pidOk a s && decide (n < 200)
end Go.Proofs.Ytnhbbggpgieipaa

/- What an operation names. -/
namespace Go.Proofs.Ytnhbbggpgieipaa
open Go.RowKit

/-- a vertex: its patch's author and number, and its place -/
structure VidO where
  a : Int
  s : Int
  n : Int
def VidO.ok (v : VidO) : Prop := (0 ≤ v.a ∧ v.a < 256) ∧ (0 ≤ v.s ∧ v.s < 65536) ∧ (0 ≤ v.n ∧ v.n < 256)
abbrev VidO.cs (v : VidO) : List Value := [.int .u8 v.a, .int .u16 v.s, .int .u8 v.n]
def refsV (k : Int) (x y : VidO) : List VidO := if k = 2 ∨ k = 3 ∨ k = 5 then [x] else if k = 4 then [x, y] else []

/-- a slice that a composite literal has just made -/
theorem sl_fresh (w0 w : World) (e : TypeId) (size n : Nat) (xs : List Value) (hl : xs.length = n * size) (hw : w = w0.alloc (.cells xs.toArray e)) : Sl w w.heap.size size (some ⟨w0.heap.size, 0, none⟩) n xs := by
  subst hw
  refine ⟨hl, fun _ => ⟨w0.heap.size, 0, rfl, by simp, fun j hj => ?_⟩⟩
  rw [(Blk.new w0 e xs.toArray).cell (0 + j), Nat.zero_add]; simp

theorem u8_of {z : Int} (h : (Lit.int .u8 z).wf = true) : 0 ≤ z ∧ z < 256 := by simp [Lit.wf, IntKind.min, IntKind.max, IntKind.signed, IntKind.bits] at h; omega
theorem u16_of {z : Int} (h : (Lit.int .u16 z).wf = true) : 0 ≤ z ∧ z < 65536 := by simp [Lit.wf, IntKind.min, IntKind.max, IntKind.signed, IntKind.bits] at h; omega
end Go.Proofs.Ytnhbbggpgieipaa
