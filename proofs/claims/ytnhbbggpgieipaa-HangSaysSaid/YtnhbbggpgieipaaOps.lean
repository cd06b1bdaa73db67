/- Texts of general use, one behind another. -/
import Derived.Test.YtnhbbggpgieipaaVids
import Derived.Test.YtnhbbggpgieipaaOpgz
import Derived.Test.YtnhbbggpgieipaaSets
import Derived.Test.YtnhbbggpgieipaaGen

/- Operations and patches as they lie in memory. -/
namespace Go.Proofs.Ytnhbbggpgieipaa
open Go.RowKit

/-- an operation: its kind, the vertices that it names, its text -/
abbrev OpV := Fin 256 × VidV × VidV × ByteArray
def encO (o : OpV) : List Value := [.int .u8 ((o.1.val : Nat) : Int), .int .u8 ((o.2.1.1.1.val : Nat) : Int), .int .u16 ((o.2.1.1.2.val : Nat) : Int), .int .u8 ((o.2.1.2.val : Nat) : Int), .int .u8 ((o.2.2.1.1.1.val : Nat) : Int), .int .u16 ((o.2.2.1.1.2.val : Nat) : Int), .int .u8 ((o.2.2.1.2.val : Nat) : Int), .string o.2.2.2]
def OpV.ok (o : OpV) : Prop := o.2.2.2.size ≤ maxLen
theorem encO_len (o : OpV) : (encO o).length = 8 := rfl
theorem opSl : SlT Try.prog 43 60 8 32 := slT_of (z := .agg #[.int .u8 0, .int .u8 0, .int .u16 0, .int .u8 0, .int .u8 0, .int .u16 0, .int .u8 0, .string ByteArray.empty]) Try.underlying43 (by kernel_rfl) rfl (by omega)
def oldV (v : VidV) : VidO := ⟨((v.1.1.val : Nat) : Int), ((v.1.2.val : Nat) : Int), ((v.2.val : Nat) : Int)⟩
/-- the vertices that an operation names -/
def refsO (o : OpV) : List VidV := if o.1.val = 2 ∨ o.1.val = 3 ∨ o.1.val = 5 then [o.2.1] else if o.1.val = 4 then [o.2.1, o.2.2.1] else []
def goodO (id : PidV) (i : Int) (o : OpV) : Bool := opGood ((id.1.val : Nat) : Int) ((id.2.val : Nat) : Int) i ((o.1.val : Nat) : Int) (oldV o.2.1) (oldV o.2.2.1) o.2.2.2
/-- operations in a slice -/
structure OpsAt (w : World) (A : Option Addr) (n : Nat) (l : List OpV) : Prop where
  len : l.length = n
  sl : Sl w w.heap.size 8 A n (l.flatMap encO)
  ok : ∀ o ∈ l, OpV.ok o
theorem OpsAt.ext {w w' : World} {A : Option Addr} {n : Nat} {l : List OpV} (h : OpsAt w A n l) (hb : Below w.heap.size w w') : OpsAt w' A n l := ⟨h.len, (h.sl.below hb (Nat.le_refl _)).more hb.size, h.ok⟩
theorem OpsAt.at_ {w : World} {A : Option Addr} {n : Nat} {l : List OpV} (h : OpsAt w A n l) {k : Nat} (hk : k < n) : ∃ b o x, A = some ⟨b, o, none⟩ ∧ b < w.heap.size ∧ l[k]? = some x ∧ w.rangeAt b (o + k * 8) (encO x) ∧ OpV.ok x := by
  have hk' : k < l.length := by rw [h.len]; exact hk
  obtain ⟨b, o, e, hb, hr⟩ := h.sl.rowAt h.len (fun x _ => encO_len x) hk'
  exact ⟨b, o, l[k], e, hb, List.getElem?_eq_getElem hk', hr, h.ok _ (List.getElem_mem hk')⟩
theorem OpsAt.of_own {w : World} {base n : Nat} {v : Value} {l : List OpV} (h : w.ownsRow base 60 8 v n (l.flatMap encO)) (hn : l.length = n) (ho : ∀ o ∈ l, OpV.ok o) : ∃ A c, v = .slice A n c ∧ n ≤ c ∧ OpsAt w A n l := by
  obtain ⟨A, c, rfl, hc, hs⟩ := Sl.of_own h
  exact ⟨A, c, rfl, hc, hn, hs, ho⟩
end Go.Proofs.Ytnhbbggpgieipaa

/- The vertices that an operation names: they lie in a block of their own. -/
namespace Go.Proofs.Ytnhbbggpgieipaa
open Go.RowKit

section
variable {P : Program} {w w0 : World} {ops : Array Oper} {rest : List Oper} {a : Act} {Q : Exit → Act → World → Prop}
end

end Go.Proofs.Ytnhbbggpgieipaa

/- Which patches come ahead: the document's, walked. -/
namespace Go.Proofs.Ytnhbbggpgieipaa
open Go.RowKit

def firstDep (id : PidV) : List PidV := if h : 1 < id.2.val then [(id.1, ⟨id.2.val - 1, by have := id.2.isLt; omega⟩)] else []
def opDeps (id : PidV) (o : OpV) : List PidV := ((refsO o).filter fun v => decide (v.1 ≠ id)).map (·.1)
def rawDeps (id : PidV) (l : List OpV) : List PidV := firstDep id ++ l.flatMap (opDeps id)
def depsV (id : PidV) (l : List OpV) : List PidV := setK keyP (rawDeps id l)
end Go.Proofs.Ytnhbbggpgieipaa

/- Whether two patches are the same: the parts, walked. -/
namespace Go.Proofs.Ytnhbbggpgieipaa
open Go.RowKit

end Go.Proofs.Ytnhbbggpgieipaa

/- Patches as they lie in memory; whether two are the same, walked. -/
namespace Go.Proofs.Ytnhbbggpgieipaa
open Go.RowKit

abbrev PatV := PidV × List PidV × List OpV
/-- a patch's cells -/
def patC (id : PidV) (A : Option Addr) (n c : Nat) (A' : Option Addr) (n' c' : Nat) : List Value := [.int .u8 ((id.1.val : Nat) : Int), .int .u16 ((id.2.val : Nat) : Int), .slice A n c, .slice A' n' c']
theorem patC_pid {w : World} {g : Nat} {t : TypeId} {id : PidV} {A : Option Addr} {n c : Nat} {A' : Option Addr} {n' c' : Nat} (h : Blk w g t (patC id A n c A' n' c').toArray) : w.rangeAt g 0 (encP id) :=
  blk_sub h fun j v hj => by
    match j, hj with
    | 0, hj => exact hj
    | 1, hj => exact hj
    | j + 2, hj => simp [encP] at hj
/-- a patch as it lies -/
structure PatAt (w : World) (cs : List Value) (p : PatV) : Prop where
  ex : ∃ A c A' c', cs = patC p.1 A p.2.1.length c A' p.2.2.length c' ∧ PidsAt w A p.2.1.length p.2.1 ∧ OpsAt w A' p.2.2.length p.2.2
  len1 : p.2.1.length ≤ maxLen
  len2 : p.2.2.length ≤ maxLen
theorem PatAt.ext {w w' : World} {cs : List Value} {p : PatV} (h : PatAt w cs p) (hb : Below w.heap.size w w') : PatAt w' cs p := by
  obtain ⟨⟨A, c, A', c', e, h1, h2⟩, h3, h4⟩ := h
  exact ⟨⟨A, c, A', c', e, h1.ext hb, h2.ext hb⟩, h3, h4⟩
theorem patV_eq (p q : PatV) : p = q ↔ p.1 = q.1 ∧ p.2.1 = q.2.1 ∧ p.2.2 = q.2.2 :=
  ⟨fun h => by rw [h]; exact ⟨rfl, rfl, rfl⟩, fun ⟨h1, h2, h3⟩ => Prod.ext h1 (Prod.ext h2 h3)⟩
instance : DecidableEq PatV := fun p q => decidable_of_iff _ (patV_eq p q).symm
theorem PidsAt.drewN {w : World} {A : Option Addr} {n : Nat} {l : List PidV} (h : PidsAt w A n l) (u : Nat) : PidsAt (w.drewN u) A n l := ⟨h.len, h.sl⟩
theorem OpsAt.drewN {w : World} {A : Option Addr} {n : Nat} {l : List OpV} (h : OpsAt w A n l) (u : Nat) : OpsAt (w.drewN u) A n l := ⟨h.len, h.sl, h.ok⟩
theorem infoPat : (Try.prog.info? 45).map (·.size) = some 4 := by kernel_rfl
end Go.Proofs.Ytnhbbggpgieipaa
