/- Texts of general use, one behind another. -/
import Derived.Test.YtdafiipedlglpaaDoorPats
import Derived.Test.YtdafiipedlglpaaDoorGen
import Derived.Test.YtdafiipedlglpaaDoorPati
import Derived.Deep.RegionHeld3

/- Patches made: walked. -/
namespace Go.Proofs.YtdafiipedlglpaaDoor
open Go.RowKit

def zeroPat : PatV := ((0, 0), [], [])
def makeV18 (id : PidV) (l : List OpV) : PatV := if patB (id, depsV id l, l) = true then (id, depsV id l, l) else zeroPat
def makeN18 (id : PidV) (l : List OpV) : Int := if patB (id, depsV id l, l) = true then 0 else 1
theorem allocPat (w : World) : (Instr.alloc 28 true (.tuple #[])).run Tryd.prog w = .ok (.pointer (some ⟨w.heap.size, 0, none⟩)) (w.alloc (.cells #[.int .u8 0, .int .u16 0, .slice none 0 0, .slice none 0 0] 28)) := by kernel_rfl
theorem buildPat (id : PidV) (A : Option Addr) (n c : Nat) (A' : Option Addr) (n' c' : Nat) (w : World) : (Instr.build 28 #[(0, .agg (encP id).toArray), (1, .slice A n c), (2, .slice A' n' c')]).run Tryd.prog w = .ok (.agg (patC id A n c A' n' c').toArray) w := by kernel_rfl
theorem buildZero (w : World) : (Instr.build 28 #[]).run Tryd.prog w = .ok (.agg #[.int .u8 0, .int .u16 0, .slice none 0 0, .slice none 0 0]) w := by kernel_rfl
theorem patC_one {id : PidV} {A : Option Addr} {n c : Nat} {A' : Option Addr} {n' c' : Nat} : (patC id A n c A' n' c').toArray.all (·.oneCell') = true := all_oneCell_toArray fun u hu => by
  simp only [patC, List.mem_cons, List.not_mem_nil, or_false] at hu
  rcases hu with rfl | rfl | rfl | rfl <;> rfl
theorem zeroC_one : (#[.int .u8 0, .int .u16 0, .slice none 0 0, .slice none 0 0] : Array Value).all (·.oneCell') = true := patC_one (id := (0, 0)) (A := none) (n := 0) (c := 0) (A' := none) (n' := 0) (c' := 0)
theorem depsV_le (id : PidV) (l : List OpV) : (depsV id l).length ≤ 1 + 2 * l.length := Nat.le_trans (setK_len _) (rawDeps_le id l)
theorem pat_at {w : World} {id : PidV} {l : List OpV} {A A' : Option Addr} {c c' n : Nat} (h1 : PidsAt w A (depsV id l).length (depsV id l)) (h2 : OpsAt w A' n l) (hn : n ≤ 300) : PatAt w (patC id A (depsV id l).length c A' n c') (id, depsV id l, l) := by
  have e := h2.len
  subst e
  exact ⟨⟨A, c, A', c', rfl, h1, h2⟩, by have := depsV_le id l; unfold maxLen; show (depsV id l).length ≤ _; omega, by unfold maxLen; show l.length ≤ _; omega⟩
end Go.Proofs.YtdafiipedlglpaaDoor

/- A vertex' name; the chapter's example of patches: walked. -/
namespace Go.Proofs.YtdafiipedlglpaaDoor
open Go.RowKit

def vid0 : VidV := ((0, 0), 0)
theorem ops_new (w : World) (l : List OpV) (ho : ∀ o ∈ l, OpV.ok o) : OpsAt (w.alloc (.cells (l.flatMap encO).toArray 45)) (some ⟨w.heap.size, 0, none⟩) l.length l :=
  ⟨rfl, sl_fresh w _ 45 8 l.length _ (flatMap_len encO l (fun o _ => encO_len o)) rfl, ho⟩
end Go.Proofs.YtdafiipedlglpaaDoor

/- Patches that come in: as they lie. Whether any may be: the statement walked. -/
namespace Go.Proofs.YtdafiipedlglpaaDoor
open Go.RowKit

abbrev shPid : List Sh := [.int .u8, .int .u16]
abbrev shOp : List Sh := [.int .u8, .int .u8, .int .u16, .int .u8, .int .u8, .int .u16, .int .u8, .str]
abbrev shPat : List Sh := [.int .u8, .int .u16, .sl shPid, .sl shOp]
theorem fin8_of {z : Int} (h : (Lit.int .u8 z).wf = true) : ∃ v : Fin 256, z = ((v.val : Nat) : Int) := by
  have := u8_of h
  exact ⟨⟨z.toNat, by omega⟩, by show z = ((z.toNat : Nat) : Int); omega⟩
theorem fin16_of {z : Int} (h : (Lit.int .u16 z).wf = true) : ∃ v : Fin 65536, z = ((v.val : Nat) : Int) := by
  have := u16_of h
  exact ⟨⟨z.toNat, by omega⟩, by show z = ((z.toNat : Nat) : Int); omega⟩
theorem pid_row {w : World} {B : Nat} {r : List Value} (h : Sh.oks w B shPid r) : ∃ x : PidV, r = encP x ∧ True := by
  match r, h with
  | [a, b], h =>
    simp only [Sh.oks, Sh.ok] at h
    obtain ⟨⟨x, rfl, hx⟩, ⟨y, rfl, hy⟩, _⟩ := h
    obtain ⟨x, rfl⟩ := fin8_of hx
    obtain ⟨y, rfl⟩ := fin16_of hy
    exact ⟨(x, y), rfl, trivial⟩
theorem op_row {w : World} {B : Nat} {r : List Value} (h : Sh.oks w B shOp r) : ∃ x : OpV, r = encO x ∧ OpV.ok x := by
  match r, h with
  | [a1, a2, a3, a4, a5, a6, a7, a8], h =>
    simp only [Sh.oks, Sh.ok] at h
    obtain ⟨⟨x1, rfl, h1⟩, ⟨x2, rfl, h2⟩, ⟨x3, rfl, h3⟩, ⟨x4, rfl, h4⟩, ⟨x5, rfl, h5⟩, ⟨x6, rfl, h6⟩, ⟨x7, rfl, h7⟩, ⟨s, rfl, h8⟩, _⟩ := h
    obtain ⟨x1, rfl⟩ := fin8_of h1
    obtain ⟨x2, rfl⟩ := fin8_of h2
    obtain ⟨x3, rfl⟩ := fin16_of h3
    obtain ⟨x4, rfl⟩ := fin8_of h4
    obtain ⟨x5, rfl⟩ := fin8_of h5
    obtain ⟨x6, rfl⟩ := fin16_of h6
    obtain ⟨x7, rfl⟩ := fin8_of h7
    exact ⟨(x1, ((x2, x3), x4), ((x5, x6), x7), s), rfl, h8⟩
theorem flatten_map {α : Type} (enc : α → List Value) (l : List α) : (l.map enc).flatten = l.flatMap enc := by rw [List.flatMap_def]
theorem pids_of {w : World} {A : Option Addr} {n : Nat} {rows : List (List Value)} (hl : rows.length = n) (ho : ∀ r ∈ rows, Sh.oks w w.heap.size shPid r) (hs : Sl w w.heap.size 2 A n rows.flatten) : ∃ l : List PidV, PidsAt w A n l := by
  obtain ⟨l, rfl, _⟩ := rows_map encP (fun _ => True) rows (fun r hr => pid_row (ho r hr))
  rw [flatten_map] at hs
  exact ⟨l, by simpa using hl, hs⟩
theorem ops_of {w : World} {A : Option Addr} {n : Nat} {rows : List (List Value)} (hl : rows.length = n) (ho : ∀ r ∈ rows, Sh.oks w w.heap.size shOp r) (hs : Sl w w.heap.size 8 A n rows.flatten) : ∃ l : List OpV, OpsAt w A n l := by
  obtain ⟨l, rfl, hok⟩ := rows_map encO OpV.ok rows (fun r hr => op_row (ho r hr))
  rw [flatten_map] at hs
  exact ⟨l, by simpa using hl, hs, hok⟩
theorem pat_of {w : World} {cs : List Value} (h : Sh.oks w w.heap.size shPat cs) : ∃ p : PatV, PatAt w cs p := by
  match cs, h with
  | [a, b, d, o], h =>
    simp only [Sh.oks, Sh.ok] at h
    obtain ⟨⟨x, rfl, hx⟩, ⟨y, rfl, hy⟩, ⟨A, n, c, r1, rfl, h1, h2, h3, h4, h5⟩, ⟨A', n', c', r2, rfl, k1, k2, k3, k4, k5⟩, _⟩ := h
    obtain ⟨x, rfl⟩ := fin8_of hx
    obtain ⟨y, rfl⟩ := fin16_of hy
    obtain ⟨ds, hd⟩ := pids_of h3 (fun r hr => by have := h4 r hr; simpa only [Sh.oks, Sh.ok] using this) h5
    obtain ⟨os, ho⟩ := ops_of k3 (fun r hr => by have := k4 r hr; simpa only [Sh.oks, Sh.ok] using this) k5
    have e1 := hd.len
    have e2 := ho.len
    subst e1 e2
    exact ⟨((x, y), ds, os), ⟨A, c, A', c', rfl, hd, ho⟩, Nat.le_trans h1 h2, Nat.le_trans k1 k2⟩

end Go.Proofs.YtdafiipedlglpaaDoor

/- A patch copied: walked. -/
namespace Go.Proofs.YtdafiipedlglpaaDoor
open Go.RowKit

end Go.Proofs.YtdafiipedlglpaaDoor

/- Patches made: the statement walked. -/
namespace Go.Proofs.YtdafiipedlglpaaDoor
open Go.RowKit

end Go.Proofs.YtdafiipedlglpaaDoor

/- WHAT A PATCH NAMES COMES AHEAD: the plain law, and the statement walked. -/
namespace Go.Proofs.YtdafiipedlglpaaDoor
open Go.RowKit

end Go.Proofs.YtdafiipedlglpaaDoor
