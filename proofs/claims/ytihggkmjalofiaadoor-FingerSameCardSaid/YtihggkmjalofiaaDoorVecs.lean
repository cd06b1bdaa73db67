/- Texts of general use, one behind another. -/
import Derived.Test.YtihggkmjalofiaaDoorGen
import Derived.Laws.ResultCell

/- Vectors: joined and met. -/
namespace Go.Proofs.YtihggkmjalofiaaDoor
open Go.RowKit

def vecA (l : List Int) : Array Value := (l.map (Value.int .u16)).toArray
/-- a vector's numbers -/
structure VecOk (l : List Int) : Prop where
  len : l.length = 64
  bd : ∀ n ∈ l, 0 ≤ n ∧ n ≤ 65535
theorem VecOk.get {l : List Int} (h : VecOk l) (k : Nat) (hk : k < 64) : 0 ≤ l.getD k 0 ∧ l.getD k 0 ≤ 65535 := by
  have hl : k < l.length := by rw [h.len]; exact hk
  rw [List.getD_eq_getElem?_getD, List.getElem?_eq_getElem hl]; exact h.bd _ (List.getElem_mem hl)
theorem vecA_size (l : List Int) : (vecA l).size = l.length := by simp [vecA]
def vec0 : List Int := List.replicate 64 0
end Go.Proofs.YtihggkmjalofiaaDoor

/- Vectors: within, total, lack. -/
namespace Go.Proofs.YtihggkmjalofiaaDoor
open Go.RowKit

end Go.Proofs.YtihggkmjalofiaaDoor

/- Vectors: all patches; what has, what comes next. -/
namespace Go.Proofs.YtihggkmjalofiaaDoor
open Go.RowKit

end Go.Proofs.YtihggkmjalofiaaDoor

/- Vectors: an author's number, the patch that comes next, whether a patch is had; the chapter's example. -/
namespace Go.Proofs.YtihggkmjalofiaaDoor
open Go.RowKit

def inV (n : Nat) : Bool := decide (1 ≤ n ∧ n ≤ 64)
def ofV (a : List Int) (n : Nat) : Int := if inV n = true then a.getD (n - 1) 0 else 0
theorem ofV_bd {a : List Int} (ha : VecOk a) (n : Nat) : 0 ≤ ofV a n ∧ ofV a n ≤ 65535 := by
  unfold ofV inV
  split
  · rename_i h; have := of_decide_eq_true h; exact ha.get (n - 1) (by omega)
  · omega

def nextV (a : List Int) (n : Nat) : Int × Int := if inV n = true ∧ ofV a n < 60000 then ((n : Int), ofV a n + 1) else (0, 0)

/-- whether a vector has a patch -/
def hasV (a : List Int) (n : Nat) (s : Int) : Bool := inV n && decide (1 ≤ s ∧ s ≤ ofV a n)

end Go.Proofs.YtihggkmjalofiaaDoor

/- Vectors: one patch more. -/
namespace Go.Proofs.YtihggkmjalofiaaDoor
open Go.RowKit

def putOk (a : List Int) (n : Nat) (s : Int) : Bool := !(decide (n = 0) && decide (s = 0)) && (decide ((nextV a n).1 = n) && decide ((nextV a n).2 = s))
def putV (a : List Int) (n : Nat) (s : Int) : List Int := if putOk a n s = true then a.set (n - 1) s else a
theorem putOk_iff {a : List Int} {n : Nat} {s : Int} (h : putOk a n s = true) : inV n = true ∧ ofV a n < 60000 ∧ s = ofV a n + 1 := by
  unfold putOk at h
  simp at h
  obtain ⟨h1, h2, h3⟩ := h
  unfold nextV at h2 h3
  split at h2
  · rename_i hc
    rw [if_pos hc] at h3
    exact ⟨hc.1, hc.2, h3.symm⟩
  · rename_i hc
    rw [if_neg hc] at h3
    exfalso
    have : n = 0 := by simp at h2; omega
    rcases h1 with h1 | h1
    · exact h1 this
    · exact h1 (by simp at h3; omega)
theorem putV_ok {a : List Int} (ha : VecOk a) (n : Nat) (s : Int) : VecOk (putV a n s) := by
  unfold putV
  split
  · rename_i h
    obtain ⟨h1, h2, h3⟩ := putOk_iff h
    have := ofV_bd ha n
    refine ⟨by rw [List.length_set]; exact ha.len, fun m hm => ?_⟩
    rcases List.mem_or_eq_of_mem_set hm with h4 | rfl
    · exact ha.bd m h4
    · omega
  · exact ha

end Go.Proofs.YtihggkmjalofiaaDoor

/- THE PATCHES ARE THE VECTOR: plain laws. -/
namespace Go.Proofs.YtihggkmjalofiaaDoor
open Go.RowKit

theorem set_getD {a : List Int} {k j : Nat} {v : Int} (hk : k < a.length) : (a.set k v).getD j 0 = if j = k then v else a.getD j 0 := by
  rw [List.getD_eq_getElem?_getD, List.getD_eq_getElem?_getD, List.getElem?_set]
  by_cases h : k = j
  · subst h; rw [if_pos rfl, if_pos rfl, if_pos hk]; rfl
  · rw [if_neg h, if_neg (Ne.symm h)]
theorem ofV_set {a : List Int} (ha : VecOk a) {n : Nat} (hi : inV n = true) (v : Int) : ofV (a.set (n - 1) v) n = v := by
  have h' : 1 ≤ n ∧ n ≤ 64 := by unfold inV at hi; simpa using hi
  unfold ofV
  rw [if_pos hi, set_getD (by rw [ha.len]; omega), if_pos rfl]
theorem hasV_next {a : List Int} (ha : VecOk a) {n : Nat} (hi : inV n = true) (s : Int) (hs : s ≠ ofV a n + 1) : hasV (a.set (n - 1) (ofV a n + 1)) n s = hasV a n s := by
  unfold hasV
  rw [ofV_set ha hi, Bool.eq_iff_iff]
  simp [hi]; omega
theorem hasV_new {a : List Int} (ha : VecOk a) {n : Nat} (hi : inV n = true) : hasV (a.set (n - 1) (ofV a n + 1)) n (ofV a n + 1) = true ∧ hasV a n (ofV a n + 1) = false := by
  have := ofV_bd ha n
  unfold hasV
  rw [ofV_set ha hi]
  exact ⟨by simp [hi]; omega, by simp [hi]; omega⟩
end Go.Proofs.YtihggkmjalofiaaDoor
