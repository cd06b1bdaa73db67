/- Texts of general use, one behind another. -/
import Derived.Test.YtihggkmjalofiaaGreatDoorGrl
import Derived.Test.YtihggkmjalofiaaGreatDoorGri
import Derived.Test.YtihggkmjalofiaaGreatDoorGrgs
import Derived.Test.YtihggkmjalofiaaGreatDoorPaws
import Derived.Test.YtihggkmjalofiaaGreatDoorIdxw
import Derived.Test.YtihggkmjalofiaaGreatDoorFinh
import Derived.Test.YtihggkmjalofiaaGreatDoorGras
import Derived.Test.YtihggkmjalofiaaGreatDoorVecs
import Derived.Deep.DeepCutAuto

/- The chapter's example of a graph: walked. -/
namespace Go.Proofs.YtihggkmjalofiaaGreatDoor
open Go.RowKit

end Go.Proofs.YtihggkmjalofiaaGreatDoor

/- The same patches make the same graph: the statement walked. -/
namespace Go.Proofs.YtihggkmjalofiaaGreatDoor
open Go.RowKit

/-- where the second graph takes its k-th patch from -/
def turnI (n f k : Nat) : Nat := (n - 1 - k + f) % n
def turnL (l : List PatV) (f : Nat) : List PatV := (List.range l.length).map fun k => (l[turnI l.length f k]?).getD zeroPat
theorem turnI_lt {n f k : Nat} (h : 0 < n) : turnI n f k < n := Nat.mod_lt _ h
theorem turnL_len (l : List PatV) (f : Nat) : (turnL l f).length = l.length := by simp [turnL]
theorem turnL_at {l : List PatV} {f k : Nat} {p : PatV} (hk : k < l.length) (h : l[turnI l.length f k]? = some p) : (turnL l f)[k]? = some p := by
  simp [turnL, hk, h]
theorem turnI_onto {n j : Nat} (f : Nat) (hj : j < n) : ∃ k, k < n ∧ turnI n f k = j := by
  have hn : 0 < n := by omega
  refine ⟨(n - 1 + f + n - j) % n, Nat.mod_lt _ hn, ?_⟩
  have hk := Nat.mod_lt (n - 1 + f + n - j) hn
  have hd := Nat.div_add_mod (n - 1 + f + n - j) n
  unfold turnI
  generalize (n - 1 + f + n - j) % n = k at *
  generalize (n - 1 + f + n - j) / n = q at *
  have e : (n - 1 - k + f) + n = n * q + j := by omega
  rw [← Nat.add_mod_right (n - 1 - k + f) n, e, Nat.mul_add_mod, Nat.mod_eq_of_lt hj]
theorem turnL_mem (l : List PatV) (f : Nat) (p : PatV) : p ∈ l ↔ p ∈ turnL l f := by
  constructor
  · intro h
    obtain ⟨j, hj⟩ := List.mem_iff_getElem?.1 h
    have hl : j < l.length := (List.getElem?_eq_some_iff.1 hj).1
    obtain ⟨k, hk, e⟩ := turnI_onto f hl
    exact List.mem_of_getElem? (turnL_at hk (by rw [e]; exact hj))
  · intro h
    obtain ⟨k, hk⟩ := List.mem_iff_getElem?.1 h
    have hl : k < l.length := by have := (List.getElem?_eq_some_iff.1 hk).1; rw [turnL_len] at this; exact this
    have ht : turnI l.length f k < l.length := turnI_lt (by omega)
    have e := turnL_at (f := f) hl (List.getElem?_eq_getElem ht)
    rw [e] at hk
    obtain rfl := Option.some.inj hk
    exact List.getElem_mem ht
theorem turns_all {l : List PatV} (f : Nat) (hone : ∀ p ∈ l, ∀ q ∈ l, p.1 = q.1 → p = q) :
    vecL (rounds (turnL l f) (l.length + 1)) = vecL (rounds l (l.length + 1)) ∧ vertsL (rounds (turnL l f) (l.length + 1)) = vertsL (rounds l (l.length + 1)) ∧ edgesL (rounds (turnL l f) (l.length + 1)) = edgesL (rounds l (l.length + 1)) :=
  same_graph (rounds_ok _ _) (rounds_ok _ _) fun p => (turns_same hone (turnL_mem l f) (turnL_len l f).symm p).symm
/-- no two of the first k with one name -/
def OneN (l : List PatV) (k : Nat) : Prop := ∀ a b p q, a < k → b < a → l[a]? = some p → l[b]? = some q → p.1 = q.1 → p = q
def OneI (l : List PatV) (p : PatV) (j : Nat) : Prop := ∀ b q, b < j → l[b]? = some q → p.1 = q.1 → p = q
theorem OneN.snoc {l : List PatV} {k : Nat} {p : PatV} (h : OneN l k) (hp : l[k]? = some p) (hi : OneI l p k) : OneN l (k + 1) := fun a b p' q ha hb hp' hq e => by
  by_cases hk : a = k
  · subst hk
    rw [hp] at hp'
    obtain rfl := Option.some.inj hp'
    exact hi b q hb hq e
  · exact h a b p' q (by omega) hb hp' hq e
theorem OneI.snoc {l : List PatV} {p q : PatV} {j : Nat} (h : OneI l p j) (hq : l[j]? = some q) (hi : p.1 = q.1 → p = q) : OneI l p (j + 1) := fun b q' hb hq' e => by
  by_cases hk : b = j
  · subst hk
    rw [hq] at hq'
    obtain rfl := Option.some.inj hq'
    exact hi e
  · exact h b q' (by omega) hq' e
theorem OneN.all {l : List PatV} (h : OneN l l.length) : ∀ p ∈ l, ∀ q ∈ l, p.1 = q.1 → p = q := fun p hp q hq e => by
  obtain ⟨a, ha⟩ := List.mem_iff_getElem?.1 hp
  obtain ⟨b, hb⟩ := List.mem_iff_getElem?.1 hq
  have la := (List.getElem?_eq_some_iff.1 ha).1
  have lb := (List.getElem?_eq_some_iff.1 hb).1
  rcases Nat.lt_trichotomy b a with c | c | c
  · exact h a b p q la c ha hb e
  · subst c
    rw [ha] at hb
    exact Option.some.inj hb
  · exact (h b a q p lb c hb ha e.symm).symm
theorem indexPats20 (b o n c k : Nat) (hk : k < n) (w : World) : (Instr.indexAt 22 (.slice (some ⟨b, o, none⟩) n c) (.int .i64 ((k : Nat) : Int))).run Tryz.prog w = .ok (.pointer (some ⟨b, o + k * 4, none⟩)) w := by
  have h0 : (0 : Int) ≤ (k : Int) := by omega
  have h1 : (k : Int) < (n : Int) := by omega
  simp [go_sem, h0, h1]
theorem fieldPat20 (b o : Nat) (w : World) : (Instr.fieldAt 31 (.pointer (some ⟨b, o, none⟩)) 0).run Tryz.prog w = .ok (.pointer (some ⟨b, o, none⟩)) w := by simp [go_sem]
theorem fews_at20 {l : List PatV} {m : Int} (h : fewsB l m = true) : (l.length : Int) ≤ m ∧ ∀ p ∈ l, p.2.1.length ≤ 100 ∧ p.2.2.length ≤ 60 := by
  unfold fewsB at h
  rw [Bool.and_eq_true, decide_eq_true_eq, List.all_eq_true] at h
  refine ⟨h.1, fun p hp => ?_⟩
  have := h.2 p hp
  unfold fewOne fewP at this
  simp only [Bool.and_eq_true, decide_eq_true_eq] at this
  exact ⟨this.1.1, this.2⟩
theorem eqg20 (x y : Operand) (a b : PidV) (w : World) : (eqGuard .eql 27 x y (.agg (encP a).toArray) (.agg (encP b).toArray)).run Tryz.prog w = .ok () w := by
  simp [eqGuard, go_sem]
theorem u8_bd20 {z : Int} (h : (Lit.int .u8 z).wf = true) : 0 ≤ z ∧ z < 256 := by simp [Lit.wf, IntKind.min, IntKind.max, IntKind.signed, IntKind.bits] at h; omega
end Go.Proofs.YtihggkmjalofiaaGreatDoor

/- What GraphWhole needs beside: comparisons, walked again; what is applied hangs together. -/
namespace Go.Proofs.YtihggkmjalofiaaGreatDoor
open Go.RowKit

end Go.Proofs.YtihggkmjalofiaaGreatDoor

/- What is applied hangs together: the statement walked. -/
namespace Go.Proofs.YtihggkmjalofiaaGreatDoor
open Go.RowKit

end Go.Proofs.YtihggkmjalofiaaGreatDoor
