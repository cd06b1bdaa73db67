/- Patches that come in: as they lie. Whether any may be: the statement walked. -/
import Derived.Test.YtfnhmbflmifhcaaGreatPatu
namespace Go.Proofs.YtfnhmbflmifhcaaGreat
open Go.RowKit

abbrev shPid : List Sh := [.int .u8, .int .u16]
abbrev shOp : List Sh := [.int .u8, .int .u8, .int .u16, .int .u8, .int .u8, .int .u16, .int .u8, .str]
abbrev shPat : List Sh := [.int .u8, .int .u16, .sl shPid, .sl shOp]
theorem fin8_of {z : Int} (h : (Lit.int .u8 z).wf = true) : ∃ v : Fin 256, z = ((v.val : Nat) : Int) := by
  have := u8_of h
  exact ⟨⟨z.toNat, by omega⟩, by show z = ((z.toNat : Nat) : Int); omega⟩
theorem fin16_of {z : Int} (h : (Lit.int .u16 z).wf = true) : ∃ v : Fin 65536, z = ((v.val : Nat) : Int) := by
  have := u16_of h
  exact ⟨⟨z.toNat, by omega⟩, by show z = ((z.toNat : Nat) : Int); omega⟩
theorem pid_row {w : World} {B : Nat} {r : List Value} (h : Sh.oks w B shPid r) : ∃ x : PidV, r = encP x ∧ True := by
  match r, h with
  | [a, b], h =>
    simp only [Sh.oks, Sh.ok] at h
    obtain ⟨⟨x, rfl, hx⟩, ⟨y, rfl, hy⟩, _⟩ := h
    obtain ⟨x, rfl⟩ := fin8_of hx
    obtain ⟨y, rfl⟩ := fin16_of hy
    exact ⟨(x, y), rfl, trivial⟩
theorem op_row {w : World} {B : Nat} {r : List Value} (h : Sh.oks w B shOp r) : ∃ x : OpV, r = encO x ∧ OpV.ok x := by
  match r, h with
  | [a1, a2, a3, a4, a5, a6, a7, a8], h =>
    simp only [Sh.oks, Sh.ok] at h
    obtain ⟨⟨x1, rfl, h1⟩, ⟨x2, rfl, h2⟩, ⟨x3, rfl, h3⟩, ⟨x4, rfl, h4⟩, ⟨x5, rfl, h5⟩, ⟨x6, rfl, h6⟩, ⟨x7, rfl, h7⟩, ⟨s, rfl, h8⟩, _⟩ := h
    obtain ⟨x1, rfl⟩ := fin8_of h1
    obtain ⟨x2, rfl⟩ := fin8_of h2
    obtain ⟨x3, rfl⟩ := fin16_of h3
    obtain ⟨x4, rfl⟩ := fin8_of h4
    obtain ⟨x5, rfl⟩ := fin8_of h5
    obtain ⟨x6, rfl⟩ := fin16_of h6
    obtain ⟨x7, rfl⟩ := fin8_of h7
    exact ⟨(x1, ((x2, x3), x4), ((x5, x6), x7), s), rfl, h8⟩
theorem flatten_map {α : Type} (enc : α → List Value) (l : List α) : (l.map enc).flatten = l.flatMap enc := by rw [List.flatMap_def]
theorem pids_of {w : World} {A : Option Addr} {n : Nat} {rows : List (List Value)} (hl : rows.length = n) (ho : ∀ r ∈ rows, Sh.oks w w.heap.size shPid r) (hs : Sl w w.heap.size 2 A n rows.flatten) : ∃ l : List PidV, PidsAt w A n l := by
  obtain ⟨l, rfl, _⟩ := rows_map encP (fun _ => True) rows (fun r hr => pid_row (ho r hr))
  rw [flatten_map] at hs
  exact ⟨l, by simpa using hl, hs⟩
theorem ops_of {w : World} {A : Option Addr} {n : Nat} {rows : List (List Value)} (hl : rows.length = n) (ho : ∀ r ∈ rows, Sh.oks w w.heap.size shOp r) (hs : Sl w w.heap.size 8 A n rows.flatten) : ∃ l : List OpV, OpsAt w A n l := by
  obtain ⟨l, rfl, hok⟩ := rows_map encO OpV.ok rows (fun r hr => op_row (ho r hr))
  rw [flatten_map] at hs
  exact ⟨l, by simpa using hl, hs, hok⟩
theorem pat_of {w : World} {cs : List Value} (h : Sh.oks w w.heap.size shPat cs) : ∃ p : PatV, PatAt w cs p := by
  match cs, h with
  | [a, b, d, o], h =>
    simp only [Sh.oks, Sh.ok] at h
    obtain ⟨⟨x, rfl, hx⟩, ⟨y, rfl, hy⟩, ⟨A, n, c, r1, rfl, h1, h2, h3, h4, h5⟩, ⟨A', n', c', r2, rfl, k1, k2, k3, k4, k5⟩, _⟩ := h
    obtain ⟨x, rfl⟩ := fin8_of hx
    obtain ⟨y, rfl⟩ := fin16_of hy
    obtain ⟨ds, hd⟩ := pids_of h3 (fun r hr => by have := h4 r hr; simpa only [Sh.oks, Sh.ok] using this) h5
    obtain ⟨os, ho⟩ := ops_of k3 (fun r hr => by have := k4 r hr; simpa only [Sh.oks, Sh.ok] using this) k5
    have e1 := hd.len
    have e2 := ho.len
    subst e1 e2
    exact ⟨((x, y), ds, os), ⟨A, c, A', c', rfl, hd, ho⟩, Nat.le_trans h1 h2, Nat.le_trans k1 k2⟩

end Go.Proofs.YtfnhmbflmifhcaaGreat
