/- Whether a patch may be: the program's way of asking and the document's say the same. Plain. -/
import Derived.Test.YtmfdggolnfoniaaPatl
import Derived.Test.YtmfdggolnfoniaaPatm
namespace Go.Proofs.Ytmfdggolnfoniaa
open Go.RowKit

instance : DecidableEq OpV := fun x y => decidable_of_iff (x.1 = y.1 ∧ x.2.1 = y.2.1 ∧ x.2.2.1 = y.2.2.1 ∧ x.2.2.2 = y.2.2.2) ⟨fun ⟨a, b, c, d⟩ => Prod.ext a (Prod.ext b (Prod.ext c d)), fun h => by rw [h]; exact ⟨rfl, rfl, rfl, rfl⟩⟩
instance (x : OpV) (l : List OpV) : Decidable (x ∈ l) := @List.instDecidableMemOfLawfulBEq OpV instBEqOfDecidableEq inferInstance x l
def atOf (p : PatV) (v : VidV) : Option VidV := (p.2.2[v.2.val]?).map (·.2.1)
def wantN (o : OpV) : Nat := if o.1.val = 4 then 3 else 1
def bothOwn (p : PatV) (o : OpV) : Bool := decide (o.1.val = 4) && (decide (o.2.1.1 = p.1) && decide (o.2.2.1.1 = p.1))
def sameAt (p : PatV) (o : OpV) : Bool := decide (atOf p o.2.1 = atOf p o.2.2.1)
def fitV (p : PatV) (o : OpV) (v : VidV) : Bool := !((kindV p v).2 && decide ((kindV p v).1 ≠ wantN o))
def suitsV (p : PatV) (o : OpV) : Bool := (refsO o).all (fitV p o) && (!bothOwn p o || sameAt p o)
def tailV (p : PatV) (o : OpV) : Bool :=
  if o.1.val = 2 ∨ o.1.val = 3 then ownV p o.2.1 1
  else if o.1.val = 4 then ownV p o.2.1 3 && (ownV p o.2.2.1 3 && (decide (o.2.1.1 ≠ p.1) || (decide (o.2.2.1.1 ≠ p.1) || sameAt p o)))
  else true
def oneP (p : PatV) (i : Nat) (o : OpV) : Bool := goodO p.1 i o && (!((refsO o).any (isLater p.1)) && ((decide (o.1.val = 5) || suitsV p o) && (makesB ((o.1.val : Nat) : Int) || !decide (o ∈ p.2.2.take i))))
def oneR (p : PatV) (i : Nat) (o : OpV) : Bool := goodO p.1 i o && (!((refsO o).any (isLater p.1)) && ((!decide (4 ≤ o.1.val) || !decide (o ∈ p.2.2.take i)) && tailV p o))

theorem goodO_refs {id : PidV} {i : Int} {o : OpV} (h : goodO id i o = true) : ∀ v ∈ refsO o, v.1 = id → ((v.2.val : Nat) : Int) < i := by
  intro v hv he
  unfold goodO opGood at h
  rw [refsO_old, Bool.and_eq_true] at h
  have h1 := List.all_eq_true.1 h.1 (oldV v) (List.mem_map.2 ⟨v, hv, rfl⟩)
  unfold refOk at h1
  rw [Bool.and_eq_true] at h1
  have h2 := h1.2
  have hp : peqV ((id.1.val : Nat) : Int) ((id.2.val : Nat) : Int) (oldV v) = true := by
    subst he
    simp [peqV, oldV]
  rw [hp] at h2
  have h3 : decide (i ≤ (oldV v).n) = false := by
    cases h : decide (i ≤ (oldV v).n)
    · rfl
    · rw [h] at h2; cases h2
  have h4 : ¬ (i ≤ ((v.2.val : Nat) : Int)) := of_decide_eq_false h3
  omega
theorem goodO_kind {id : PidV} {i : Int} {o : OpV} (h : goodO id i o = true) : 1 ≤ o.1.val ∧ o.1.val ≤ 5 := by
  unfold goodO opGood at h
  rw [Bool.and_eq_true] at h
  have h2 := h.2
  unfold tailOk at h2
  by_cases c1 : o.1.val = 1
  · omega
  by_cases c2 : o.1.val = 2
  · omega
  by_cases c3 : o.1.val = 3
  · omega
  by_cases c4 : o.1.val = 4
  · omega
  by_cases c5 : o.1.val = 5
  · omega
  rw [if_neg (by omega), if_neg (by omega), if_neg (by omega), if_neg (by omega), if_neg (by omega)] at h2
  cases h2
theorem goodO_kill {id : PidV} {i : Int} {o : OpV} (h : goodO id i o = true) (hk : o.1.val = 5) : o.2.1.1 ≠ id := by
  intro he
  unfold goodO opGood at h
  rw [Bool.and_eq_true] at h
  have h2 := h.2
  unfold tailOk at h2
  rw [if_neg (by omega), if_neg (by omega), if_neg (by omega), if_neg (by omega), if_pos (by omega)] at h2
  have hp : peqV ((id.1.val : Nat) : Int) ((id.2.val : Nat) : Int) (oldV o.2.1) = true := by
    rw [← he]
    simp [peqV, oldV]
  rw [hp] at h2
  simp at h2
theorem fit_own {p : PatV} {o : OpV} {v : VidV} (h : v.1 = p.1 → v.2.val < p.2.2.length) : fitV p o v = ownV p v (wantN o) := by
  unfold fitV kindV ownV
  by_cases e : v.1 = p.1
  · rw [if_pos e, List.getElem?_eq_getElem (h e), decide_eq_false (show ¬ v.1 ≠ p.1 from fun hn => hn e)]
    simp
  · rw [if_neg e, decide_eq_true e]
    simp
theorem ones_eq {p : PatV} {i : Nat} {o : OpV} (hi : i < p.2.2.length) : oneP p i o = oneR p i o := by
  unfold oneP oneR
  cases hg : goodO p.1 i o
  · rfl
  rw [Bool.true_and, Bool.true_and]
  have hr := goodO_refs hg
  obtain ⟨k1, k5⟩ := goodO_kind hg
  have hf : ∀ v ∈ refsO o, fitV p o v = ownV p v (wantN o) := fun v hv => fit_own fun e => by have := hr v hv e; omega
  congr 1
  have hm : makesB ((o.1.val : Nat) : Int) = decide (o.1.val ≤ 3) := by
    by_cases h : o.1.val ≤ 3
    · rw [makesB_t (by omega), decide_eq_true h]
    · rw [makesB_f (by omega), decide_eq_false h]
  have hd : makesB ((o.1.val : Nat) : Int) = !decide (4 ≤ o.1.val) := by
    rw [hm]
    by_cases h : o.1.val ≤ 3
    · rw [decide_eq_true h, decide_eq_false (by omega)]; rfl
    · rw [decide_eq_false h, decide_eq_true (by omega)]; rfl
  rw [hd, Bool.and_comm]
  congr 1
  unfold suitsV tailV
  by_cases c23 : o.1.val = 2 ∨ o.1.val = 3
  · have e1 : refsO o = [o.2.1] := by unfold refsO; rw [if_pos (by omega)]
    rw [if_pos c23, decide_eq_false (by omega)]
    have e2 : bothOwn p o = false := by unfold bothOwn; rw [decide_eq_false (by omega)]; rfl
    rw [e1] at hf ⊢
    rw [e2]
    have := hf o.2.1 (by simp)
    simp [this, wantN, show ¬ o.1.val = 4 by omega]
  · rw [if_neg c23]
    by_cases c4 : o.1.val = 4
    · have e1 : refsO o = [o.2.1, o.2.2.1] := by unfold refsO; rw [if_neg (by omega), if_pos c4]
      rw [if_pos c4, decide_eq_false (by omega)]
      rw [e1] at hf ⊢
      have f1 := hf o.2.1 (by simp)
      have f2 := hf o.2.2.1 (by simp)
      have hw : wantN o = 3 := by unfold wantN; rw [if_pos c4]
      rw [hw] at f1 f2
      simp only [List.all_cons, List.all_nil, f1, f2, bothOwn, c4, decide_true, Bool.true_and, Bool.and_true, Bool.false_or]
      generalize ownV p o.2.1 3 = x
      generalize ownV p o.2.2.1 3 = y
      generalize sameAt p o = z
      by_cases q1 : o.2.1.1 = p.1 <;> by_cases q2 : o.2.2.1.1 = p.1 <;> simp [q1, q2, Bool.and_assoc]
    · rw [if_neg c4]
      have e2 : bothOwn p o = false := by unfold bothOwn; rw [decide_eq_false c4]; rfl
      by_cases c5 : o.1.val = 5
      · simp [c5]
      · have e1 : refsO o = [] := by unfold refsO; rw [if_neg (by omega), if_neg c4]
        simp [e1, e2]
/-- all that stand ahead of place k may be -/
def onesB (p : PatV) (k : Nat) : Bool := (List.range k).all fun i => match p.2.2[i]? with | some o => oneR p i o | none => true
theorem onesB_snoc {p : PatV} {k : Nat} {o : OpV} (h : p.2.2[k]? = some o) : onesB p (k + 1) = (onesB p k && oneR p k o) := by
  unfold onesB
  rw [List.range_succ, List.all_append]
  simp [h]
theorem onesB_false {p : PatV} {k n : Nat} {o : OpV} (h : p.2.2[k]? = some o) (hn : k < n) (hf : oneR p k o = false) : onesB p n = false := by
  unfold onesB
  rw [List.all_eq_false]
  exact ⟨k, List.mem_range.2 hn, by rw [h]; simp [hf]⟩
theorem onesB_get {p : PatV} {n k : Nat} {o : OpV} (h : onesB p n = true) (hk : k < n) (ho : p.2.2[k]? = some o) : oneR p k o = true := by
  unfold onesB at h
  have := List.all_eq_true.1 h k (List.mem_range.2 hk)
  rwa [ho] at this
def patB (p : PatV) : Bool := pidOk ((p.1.1.val : Nat) : Int) ((p.1.2.val : Nat) : Int) && (decide (1 ≤ p.2.2.length) && (decide (p.2.2.length ≤ 200) && (decide (p.2.1 = depsV p.1 p.2.2) && onesB p p.2.2.length)))
end Go.Proofs.Ytmfdggolnfoniaa
