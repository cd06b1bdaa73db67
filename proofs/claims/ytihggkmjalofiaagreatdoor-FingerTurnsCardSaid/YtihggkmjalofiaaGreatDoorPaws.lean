/- Texts of general use, one behind another. -/
import Derived.Test.YtihggkmjalofiaaGreatDoorPats
import Derived.Test.YtihggkmjalofiaaGreatDoorGen
import Derived.Test.YtihggkmjalofiaaGreatDoorOps
import Derived.Deep.RegionHeld3

/- Patches made: walked. -/
namespace Go.Proofs.YtihggkmjalofiaaGreatDoor
open Go.RowKit

def zeroPat : PatV := ((0, 0), [], [])
end Go.Proofs.YtihggkmjalofiaaGreatDoor

/- A vertex' name; the chapter's example of patches: walked. -/
namespace Go.Proofs.YtihggkmjalofiaaGreatDoor
open Go.RowKit

def vidOf (id : PidV) (i : Int) : VidV := (id, ⟨(i % 256).toNat, by omega⟩)
theorem vidOf_enc (id : PidV) (i : Int) : encV (vidOf id i) = [.int .u8 ((id.1.val : Nat) : Int), .int .u16 ((id.2.val : Nat) : Int), .int .u8 (i % 256)] := by
  have : (((i % 256).toNat : Nat) : Int) = i % 256 := by omega
  simp [encV, vidOf, this]
set_option maxRecDepth 100000 in
set_option maxHeartbeats 1000000 in
theorem vid18_any (id : PidV) (i : Int) (w : World) : Calls Tryz.prog 131 #[.agg (encP id).toArray, .int .i64 i] w (RetB w (.agg (encV (vidOf id i)).toArray)) := by
  rw [vidOf_enc]
  have hcs : (encP id).toArray = #[.int .u8 ((id.1.val : Nat) : Int), .int .u16 ((id.2.val : Nat) : Int)] := rfl
  rw [hcs]
  generalize ((id.1.val : Nat) : Int) = a
  generalize ((id.2.val : Nat) : Int) = s
  clear hcs
  go_enter Tryz.func131, Tryz.ntmps131
  go_wp2
  refine bodyPost_ret (v := .agg #[.int .u8 a, .int .u16 s, .int .u8 (i % 256)]) (by simp [results, Tryz.results131, go_sem]) rfl ⟨rfl, ?_⟩
  exact ((Below.refl _ _).alloc (Nat.le_refl _) _).alloc (by simp) _
def vid0 : VidV := ((0, 0), 0)
end Go.Proofs.YtihggkmjalofiaaGreatDoor

/- Patches that come in: as they lie. Whether any may be: the statement walked. -/
namespace Go.Proofs.YtihggkmjalofiaaGreatDoor
open Go.RowKit

abbrev shPid : List Sh := [.int .u8, .int .u16]
abbrev shOp : List Sh := [.int .u8, .int .u8, .int .u16, .int .u8, .int .u8, .int .u16, .int .u8, .str]
abbrev shPat : List Sh := [.int .u8, .int .u16, .sl shPid, .sl shOp]
theorem fin8_of {z : Int} (h : (Lit.int .u8 z).wf = true) : ∃ v : Fin 256, z = ((v.val : Nat) : Int) := by
  have := u8_of h
  exact ⟨⟨z.toNat, by omega⟩, by show z = ((z.toNat : Nat) : Int); omega⟩
theorem fin16_of {z : Int} (h : (Lit.int .u16 z).wf = true) : ∃ v : Fin 65536, z = ((v.val : Nat) : Int) := by
  have := u16_of h
  exact ⟨⟨z.toNat, by omega⟩, by show z = ((z.toNat : Nat) : Int); omega⟩
theorem pid_row {w : World} {B : Nat} {r : List Value} (h : Sh.oks w B shPid r) : ∃ x : PidV, r = encP x ∧ True := by
  match r, h with
  | [a, b], h =>
    simp only [Sh.oks, Sh.ok] at h
    obtain ⟨⟨x, rfl, hx⟩, ⟨y, rfl, hy⟩, _⟩ := h
    obtain ⟨x, rfl⟩ := fin8_of hx
    obtain ⟨y, rfl⟩ := fin16_of hy
    exact ⟨(x, y), rfl, trivial⟩
theorem op_row {w : World} {B : Nat} {r : List Value} (h : Sh.oks w B shOp r) : ∃ x : OpV, r = encO x ∧ OpV.ok x := by
  match r, h with
  | [a1, a2, a3, a4, a5, a6, a7, a8], h =>
    simp only [Sh.oks, Sh.ok] at h
    obtain ⟨⟨x1, rfl, h1⟩, ⟨x2, rfl, h2⟩, ⟨x3, rfl, h3⟩, ⟨x4, rfl, h4⟩, ⟨x5, rfl, h5⟩, ⟨x6, rfl, h6⟩, ⟨x7, rfl, h7⟩, ⟨s, rfl, h8⟩, _⟩ := h
    obtain ⟨x1, rfl⟩ := fin8_of h1
    obtain ⟨x2, rfl⟩ := fin8_of h2
    obtain ⟨x3, rfl⟩ := fin16_of h3
    obtain ⟨x4, rfl⟩ := fin8_of h4
    obtain ⟨x5, rfl⟩ := fin8_of h5
    obtain ⟨x6, rfl⟩ := fin16_of h6
    obtain ⟨x7, rfl⟩ := fin8_of h7
    exact ⟨(x1, ((x2, x3), x4), ((x5, x6), x7), s), rfl, h8⟩
theorem flatten_map {α : Type} (enc : α → List Value) (l : List α) : (l.map enc).flatten = l.flatMap enc := by rw [List.flatMap_def]
theorem pids_of {w : World} {A : Option Addr} {n : Nat} {rows : List (List Value)} (hl : rows.length = n) (ho : ∀ r ∈ rows, Sh.oks w w.heap.size shPid r) (hs : Sl w w.heap.size 2 A n rows.flatten) : ∃ l : List PidV, PidsAt w A n l := by
  obtain ⟨l, rfl, _⟩ := rows_map encP (fun _ => True) rows (fun r hr => pid_row (ho r hr))
  rw [flatten_map] at hs
  exact ⟨l, by simpa using hl, hs⟩
theorem ops_of {w : World} {A : Option Addr} {n : Nat} {rows : List (List Value)} (hl : rows.length = n) (ho : ∀ r ∈ rows, Sh.oks w w.heap.size shOp r) (hs : Sl w w.heap.size 8 A n rows.flatten) : ∃ l : List OpV, OpsAt w A n l := by
  obtain ⟨l, rfl, hok⟩ := rows_map encO OpV.ok rows (fun r hr => op_row (ho r hr))
  rw [flatten_map] at hs
  exact ⟨l, by simpa using hl, hs, hok⟩
theorem pat_of {w : World} {cs : List Value} (h : Sh.oks w w.heap.size shPat cs) : ∃ p : PatV, PatAt w cs p := by
  match cs, h with
  | [a, b, d, o], h =>
    simp only [Sh.oks, Sh.ok] at h
    obtain ⟨⟨x, rfl, hx⟩, ⟨y, rfl, hy⟩, ⟨A, n, c, r1, rfl, h1, h2, h3, h4, h5⟩, ⟨A', n', c', r2, rfl, k1, k2, k3, k4, k5⟩, _⟩ := h
    obtain ⟨x, rfl⟩ := fin8_of hx
    obtain ⟨y, rfl⟩ := fin16_of hy
    obtain ⟨ds, hd⟩ := pids_of h3 (fun r hr => by have := h4 r hr; simpa only [Sh.oks, Sh.ok] using this) h5
    obtain ⟨os, ho⟩ := ops_of k3 (fun r hr => by have := k4 r hr; simpa only [Sh.oks, Sh.ok] using this) k5
    have e1 := hd.len
    have e2 := ho.len
    subst e1 e2
    exact ⟨((x, y), ds, os), ⟨A, c, A', c', rfl, hd, ho⟩, Nat.le_trans h1 h2, Nat.le_trans k1 k2⟩

end Go.Proofs.YtihggkmjalofiaaGreatDoor

/- A patch copied: walked. -/
namespace Go.Proofs.YtihggkmjalofiaaGreatDoor
open Go.RowKit

end Go.Proofs.YtihggkmjalofiaaGreatDoor

/- Patches made: the statement walked. -/
namespace Go.Proofs.YtihggkmjalofiaaGreatDoor
open Go.RowKit

end Go.Proofs.YtihggkmjalofiaaGreatDoor

/- WHAT A PATCH NAMES COMES AHEAD: the plain law, and the statement walked. -/
namespace Go.Proofs.YtihggkmjalofiaaGreatDoor
open Go.RowKit

theorem patB_parts {p : PatV} (h : patB p = true) : p.2.1 = depsV p.1 p.2.2 ∧ 1 ≤ p.2.2.length ∧ p.2.2.length ≤ 200 ∧ ∀ (k : Nat) o, p.2.2[k]? = some o → oneR p k o = true := by
  rw [patB_head, Bool.and_eq_true] at h
  have h1 := h.1
  unfold headB at h1
  simp only [Bool.and_eq_true, decide_eq_true_eq] at h1
  exact ⟨h1.2.2.2, h1.2.1, h1.2.2.1, fun k o ho => onesB_get h.2 (List.getElem?_eq_some_iff.1 ho).1 ho⟩
theorem oneR_parts {p : PatV} {k : Nat} {o : OpV} (h : oneR p k o = true) : goodO p.1 k o = true ∧ ∀ v ∈ refsO o, isLater p.1 v = false := by
  unfold oneR at h
  simp only [Bool.and_eq_true, Bool.not_eq_true'] at h
  exact ⟨h.1, fun v hv => by
    have := List.any_eq_false.1 h.2.1 v hv
    simpa using this⟩
end Go.Proofs.YtihggkmjalofiaaGreatDoor
