/- An index is patches in the order of their coming: plain laws; no program in sight. -/
import Derived.Test.YtihggkmjalofiaaGreatDoorKinds
import Derived.Test.YtihggkmjalofiaaGreatDoorVecs
namespace Go.Proofs.YtihggkmjalofiaaGreatDoor
open Go.RowKit

def putW (v : List Int) (d : PidV) : List Int := putV v d.1.val ((d.2.val : Nat) : Int)
def putB (v : List Int) (d : PidV) : Bool := putOk v d.1.val ((d.2.val : Nat) : Int)
def hasP (v : List Int) (d : PidV) : Bool := hasV v d.1.val ((d.2.val : Nat) : Int)
def nextB (v : List Int) (d : PidV) : Bool := decide ((nextV v d.1.val).1 = ((d.1.val : Nat) : Int)) && decide ((nextV v d.1.val).2 = ((d.2.val : Nat) : Int))
def vecL (L : List PatV) : List Int := L.foldl (fun v p => putW v p.1) vec0
theorem vec0_ok : VecOk vec0 := ⟨by simp [vec0], fun n hn => by have := List.eq_of_mem_replicate hn; omega⟩
theorem vecL_go (L : List PatV) : ∀ v, VecOk v → VecOk (L.foldl (fun v p => putW v p.1) v) := by
  induction L with
  | nil => intro v h; exact h
  | cons p L ih => intro v h; exact ih _ (putV_ok h _ _)
theorem vecL_ok (L : List PatV) : VecOk (vecL L) := vecL_go L _ vec0_ok
theorem vecL_snoc (L : List PatV) (p : PatV) : vecL (L ++ [p]) = putW (vecL L) p.1 := by unfold vecL; rw [List.foldl_append]; rfl
theorem vec0_of (n : Nat) : ofV vec0 n = 0 := by
  unfold ofV
  split
  · rw [List.getD_eq_getElem?_getD]
    rcases Nat.lt_or_ge (n - 1) vec0.length with h | h
    · rw [List.getElem?_eq_getElem h]
      exact List.getElem_replicate (show n - 1 < (List.replicate 64 (0 : Int)).length from h)
    · rw [List.getElem?_eq_none h]; rfl
  · rfl
theorem hasP_vec0 (d : PidV) : hasP vec0 d = false := by
  unfold hasP hasV
  rw [vec0_of]
  cases inV d.1.val
  · rfl
  · simp; omega
theorem ofV_set_ne {a : List Int} (ha : VecOk a) {n m : Nat} (hn : inV n = true) (hm : n ≠ m) (v : Int) : ofV (a.set (n - 1) v) m = ofV a m := by
  have h' : 1 ≤ n ∧ n ≤ 64 := by unfold inV at hn; simpa using hn
  unfold ofV
  by_cases h : inV m = true
  · have h2 : 1 ≤ m ∧ m ≤ 64 := by unfold inV at h; simpa using h
    rw [if_pos h, if_pos h, set_getD (by rw [ha.len]; omega), if_neg (by omega)]
  · rw [if_neg h, if_neg h]
/-- whoever is put is had, besides those who were -/
theorem hasP_put {v : List Int} (hv : VecOk v) {d : PidV} (h : putB v d = true) (e : PidV) : hasP (putW v d) e = (hasP v e || decide (e = d)) := by
  obtain ⟨h1, h2, h3⟩ := putOk_iff h
  have e0 : putW v d = v.set (d.1.val - 1) (ofV v d.1.val + 1) := by
    unfold putW putV
    rw [if_pos (show putOk v d.1.val ((d.2.val : Nat) : Int) = true from h), h3]
  rw [e0]
  by_cases hn : e.1 = d.1
  · by_cases hs : e.2 = d.2
    · obtain rfl : e = d := Prod.ext hn hs
      have := (hasV_new hv h1).1
      unfold hasP
      rw [← h3] at this ⊢
      rw [this]; simp
    · have hne : e ≠ d := fun c => hs (by rw [c])
      have hs' : ((e.2.val : Nat) : Int) ≠ ofV v d.1.val + 1 := by
        rw [← h3]
        intro c
        exact hs (Fin.ext (by omega))
      have := hasV_next hv h1 ((e.2.val : Nat) : Int) hs'
      unfold hasP
      rw [hn, this, decide_eq_false hne, Bool.or_false]
  · have hne : e ≠ d := fun c => hn (by rw [c])
    have hval : d.1.val ≠ e.1.val := fun c => hn (Fin.ext c.symm)
    unfold hasP hasV
    rw [ofV_set_ne hv h1 hval, decide_eq_false hne, Bool.or_false]
def findP (L : List PatV) (d : PidV) : Option PatV := L.find? fun p => decide (p.1 = d)
theorem findP_none {L : List PatV} {d : PidV} : findP L d = none ↔ ∀ p ∈ L, p.1 ≠ d := by
  unfold findP
  rw [List.find?_eq_none]
  simp
theorem findP_some {L : List PatV} {d : PidV} {p : PatV} (h : findP L d = some p) : p ∈ L ∧ p.1 = d := by
  unfold findP at h
  have h1 := List.mem_of_find?_eq_some h
  have h2 := List.find?_some h
  exact ⟨h1, by simpa using h2⟩
/-- the error of a patch that is put -/
def idxE (L : List PatV) (p : PatV) : Nat :=
  if patB p = true then
    match findP L p.1 with
    | some q => if p = q then 7 else 8
    | none => if (p.2.1.all (hasP (vecL L)) && putB (vecL L) p.1) = true then 0 else 9
  else 1
def idxL (L : List PatV) (p : PatV) : List PatV := if idxE L p = 0 then L ++ [p] else L
theorem idxE_zero {L : List PatV} {p : PatV} (h : idxE L p = 0) : patB p = true ∧ findP L p.1 = none ∧ (∀ d ∈ p.2.1, hasP (vecL L) d = true) ∧ putB (vecL L) p.1 = true := by
  unfold idxE at h
  split at h
  · rename_i hg
    split at h
    · split at h <;> cases h
    · rename_i hf
      split at h
      · rename_i hc
        rw [Bool.and_eq_true, List.all_eq_true] at hc
        exact ⟨hg, hf, hc.1, hc.2⟩
      · cases h
  · cases h
theorem idxE_of {L : List PatV} {p : PatV} (h1 : patB p = true) (h2 : findP L p.1 = none) (h3 : ∀ d ∈ p.2.1, hasP (vecL L) d = true) (h4 : putB (vecL L) p.1 = true) : idxE L p = 0 := by
  unfold idxE
  rw [if_pos h1, h2]
  simp only
  rw [if_pos (by rw [Bool.and_eq_true, List.all_eq_true]; exact ⟨h3, h4⟩)]
inductive IdxOk : List PatV → Prop
  | nil : IdxOk []
  | snoc {L : List PatV} {p : PatV} : IdxOk L → idxE L p = 0 → IdxOk (L ++ [p])
theorem IdxOk.put {L : List PatV} (h : IdxOk L) (p : PatV) : IdxOk (idxL L p) := by
  unfold idxL
  split
  · rename_i h0; exact h.snoc h0
  · exact h
theorem IdxOk.has {L : List PatV} (h : IdxOk L) : ∀ d, hasP (vecL L) d = true ↔ ∃ p ∈ L, p.1 = d := by
  induction h with
  | nil => intro d; simp [vecL, hasP_vec0]
  | @snoc L p hL h0 ih =>
    intro d
    obtain ⟨_, _, _, h4⟩ := idxE_zero h0
    rw [vecL_snoc, hasP_put (vecL_ok L) h4, Bool.or_eq_true, ih, decide_eq_true_eq]
    constructor
    · rintro (⟨q, hq, rfl⟩ | rfl)
      · exact ⟨q, by simp [hq], rfl⟩
      · exact ⟨p, by simp, rfl⟩
    · rintro ⟨q, hq, rfl⟩
      rcases List.mem_append.1 hq with hq | hq
      · exact .inl ⟨q, hq, rfl⟩
      · obtain rfl := List.mem_singleton.1 hq
        exact .inr rfl
theorem IdxOk.hasnt {L : List PatV} (h : IdxOk L) {d : PidV} (hn : ∀ p ∈ L, p.1 ≠ d) : hasP (vecL L) d = false := by
  cases hh : hasP (vecL L) d
  · rfl
  · obtain ⟨p, hp, e⟩ := (h.has d).1 hh
    exact absurd e (hn p hp)
theorem IdxOk.good {L : List PatV} (h : IdxOk L) : ∀ p ∈ L, patB p = true := by
  induction h with
  | nil => simp
  | @snoc L p hL h0 ih =>
    intro q hq
    rcases List.mem_append.1 hq with hq | hq
    · exact ih q hq
    · obtain rfl := List.mem_singleton.1 hq
      exact (idxE_zero h0).1
theorem IdxOk.nodup {L : List PatV} (h : IdxOk L) : (L.map (·.1)).Nodup := by
  induction h with
  | nil => exact List.nodup_nil
  | @snoc L p hL h0 ih =>
    rw [List.map_append, List.map_cons, List.map_nil]
    refine List.nodup_append.2 ⟨ih, by simp, fun a ha b hb => ?_⟩
    obtain rfl := List.mem_singleton.1 hb
    obtain ⟨q, hq, rfl⟩ := List.mem_map.1 ha
    exact findP_none.1 (idxE_zero h0).2.1 q hq
theorem idxE_at {L : List PatV} (h : IdxOk L) : ∀ (k : Nat) (p : PatV), L[k]? = some p → idxE (L.take k) p = 0 := by
  induction h with
  | nil => intro k p hk; simp at hk
  | @snoc L q hL h0 ih =>
    intro k p hk
    rcases Nat.lt_or_ge k L.length with hlt | hge
    · rw [List.getElem?_append_left hlt] at hk
      rw [List.take_append_of_le_length (by omega)]
      exact ih k p hk
    · have hk' := (List.getElem?_eq_some_iff.1 hk).1
      simp at hk'
      obtain rfl : k = L.length := by omega
      simp at hk
      subst hk
      rw [List.take_left]
      exact h0
theorem IdxOk.find {L : List PatV} (h : IdxOk L) {k : Nat} {p : PatV} (hk : L[k]? = some p) : findP L p.1 = some p := by
  cases hf : findP L p.1 with
  | none => exact absurd rfl (findP_none.1 hf p (List.mem_of_getElem? hk))
  | some q =>
    obtain ⟨h1, h2⟩ := findP_some hf
    obtain ⟨i, hi, e⟩ := List.getElem_of_mem h1
    obtain ⟨hk', e'⟩ := List.getElem?_eq_some_iff.1 hk
    have hnd := List.pairwise_iff_getElem.1 h.nodup
    rcases Nat.lt_trichotomy i k with c | c | c
    · exact absurd (by rw [List.getElem_map, List.getElem_map, e, e', h2]) (hnd i k (by simpa using hi) (by simpa using hk') c)
    · subst c; rw [← e, ← e']
    · exact absurd (by rw [List.getElem_map, List.getElem_map, e, e', h2]) (hnd k i (by simpa using hk') (by simpa using hi) c)

theorem putB_next {v : List Int} {p : PatV} (h : patB p = true) : putB v p.1 = nextB v p.1 := by
  have hp : pidOk ((p.1.1.val : Nat) : Int) ((p.1.2.val : Nat) : Int) = true := by
    unfold patB at h
    rw [Bool.and_eq_true] at h
    exact h.1
  have h1 : p.1.1.val ≠ 0 := by
    intro e
    unfold pidOk at hp
    rw [e] at hp
    simp at hp
  unfold putB nextB putOk
  simp [h1]
end Go.Proofs.YtihggkmjalofiaaGreatDoor
