/- Texts of general use, one behind another. -/
import Derived.Test.YtfnhmbflmifhcaaGreatRga
import Derived.Test.YtfnhmbflmifhcaaGreatRgb
import Derived.Test.YtfnhmbflmifhcaaGreatGrm
import Derived.Test.YtfnhmbflmifhcaaGreatIdxn
import Derived.Test.YtfnhmbflmifhcaaGreatVids
import Derived.Test.YtfnhmbflmifhcaaGreatPaws
import Derived.Test.YtfnhmbflmifhcaaGreatSetgV

/- The document's graph: an error, the steps, the names: plain laws; no program in sight. -/
namespace Go.Proofs.YtfnhmbflmifhcaaGreat
open Go.RowKit

section
variable {α : Type} (key : α → Int) [DecidableEq α]
variable {key}
end
end Go.Proofs.YtfnhmbflmifhcaaGreat

/- The document's graph: is a vertex one of a kind; are two lists the same: walked. -/
namespace Go.Proofs.YtfnhmbflmifhcaaGreat
open Go.RowKit

end Go.Proofs.YtfnhmbflmifhcaaGreat

/- The document's graph: which patches there are: walked. -/
namespace Go.Proofs.YtfnhmbflmifhcaaGreat
open Go.RowKit

end Go.Proofs.YtfnhmbflmifhcaaGreat

/- The document's graph: a step put into a list: walked. -/
namespace Go.Proofs.YtfnhmbflmifhcaaGreat
open Go.RowKit

theorem e_fst {w : World} {b o : Nat} {x : EdgeV} (h : w.rangeAt b o (encE x)) : w.rangeAt b o (encV x.1) := fun j v hj =>
  match j, hj with
  | 0, hj => h 0 v hj
  | 1, hj => h 1 v hj
  | 2, hj => h 2 v hj
  | j + 3, hj => by simp [encV] at hj
theorem e_snd {w : World} {b o : Nat} {x : EdgeV} (h : w.rangeAt b o (encE x)) : w.rangeAt b (o + 3) (encV x.2) := fun j v hj =>
  match j, hj with
  | 0, hj => h 3 v hj
  | 1, hj => h 4 v hj
  | 2, hj => h 5 v hj
  | j + 3, hj => by simp [encV] at hj
end Go.Proofs.YtfnhmbflmifhcaaGreat

/- The document's graph: the names of all vertices; all steps: walked. -/
namespace Go.Proofs.YtfnhmbflmifhcaaGreat
open Go.RowKit

/-- the names that a patch's first operations make -/
def idsK (p : PatV) (k : Nat) : List VidV := (List.range k).filterMap fun (i : Nat) => match p.2.2[i]? with | some o => if makesO o = true then some (vidOf p.1 ((i : Nat) : Int)) else none | none => none
theorem idsK_len (p : PatV) (k : Nat) : (idsK p k).length ≤ k := by
  unfold idsK
  refine Nat.le_trans (List.length_filterMap_le _ _) ?_
  rw [List.length_range]
  exact Nat.le_refl _
theorem idsOf_len (L : List PatV) {m : Nat} (h : ∀ p ∈ L, p.2.2.length ≤ m) : (idsOf L).length ≤ L.length * m := by
  induction L with
  | nil => simp [idsOf]
  | cons p L ih =>
    have h1 : (idsP p).length ≤ p.2.2.length := idsK_len p _
    have h2 := h p (List.mem_cons_self ..)
    have h3 := ih fun q hq => h q (List.mem_cons_of_mem _ hq)
    have e : (idsOf (p :: L)).length = (idsP p).length + (idsOf L).length := by unfold idsOf; rw [List.flatMap_cons, List.length_append]
    rw [e, List.length_cons, Nat.succ_mul]
    omega
theorem edgesOf_len (L : List PatV) {m : Nat} (h : ∀ p ∈ L, p.2.2.length ≤ m) : (edgesOf L).length ≤ L.length * m := by
  induction L with
  | nil => simp [edgesOf]
  | cons p L ih =>
    have h1 : (edgesP p).length ≤ p.2.2.length := List.length_filterMap_le _ _
    have h2 := h p (List.mem_cons_self ..)
    have h3 := ih fun q hq => h q (List.mem_cons_of_mem _ hq)
    have e : (edgesOf (p :: L)).length = (edgesP p).length + (edgesOf L).length := by unfold edgesOf; rw [List.flatMap_cons, List.length_append]
    rw [e, List.length_cons, Nat.succ_mul]
    omega
end Go.Proofs.YtfnhmbflmifhcaaGreat

/- The document's graph: all vertices, all files, what is of a kind, a file's steps: walked. -/
namespace Go.Proofs.YtfnhmbflmifhcaaGreat
open Go.RowKit

theorem index0E20 (b o : Nat) (w : World) : (Instr.indexAt 64 (.pointer (some ⟨b, o, none⟩)) (.int .i64 0)).run Tryz.prog w = .ok (.pointer (some ⟨b, o, none⟩)) w := by simp [go_sem]
theorem take_more {α : Type} {l : List α} {k : Nat} {x : α} (h : l[k]? = some x) : l.take (k + 1) = l.take k ++ [x] := by
  rw [List.take_add_one, h]; rfl
theorem x_vid20 {w : World} {b o : Nat} {x : VertV} (h : w.rangeAt b o (encX x)) : w.rangeAt b o (encV x.1) := fun j v hj =>
  match j, hj with
  | 0, hj => h 0 v hj
  | 1, hj => h 1 v hj
  | 2, hj => h 2 v hj
  | j + 3, hj => by simp [encV] at hj
end Go.Proofs.YtfnhmbflmifhcaaGreat

/- The document's graph: what is of a kind, a file's steps: walked. -/
namespace Go.Proofs.YtfnhmbflmifhcaaGreat
open Go.RowKit

end Go.Proofs.YtfnhmbflmifhcaaGreat

/- The document's graph, and the program's, of the same patches, are the same: walked. -/
namespace Go.Proofs.YtfnhmbflmifhcaaGreat
open Go.RowKit

theorem VidsAtS.of_own {w : World} {base n : Nat} {v : Value} {l : List VidV} (h : w.ownsRow base 43 3 v n (l.flatMap encV)) (hn : l.length = n) : ∃ A c, v = .slice A n c ∧ n ≤ c ∧ VidsAt w A n l := by
  obtain ⟨A, c, rfl, hc, hs⟩ := Sl.of_own h
  exact ⟨A, c, rfl, hc, hn, hs⟩
end Go.Proofs.YtfnhmbflmifhcaaGreat
