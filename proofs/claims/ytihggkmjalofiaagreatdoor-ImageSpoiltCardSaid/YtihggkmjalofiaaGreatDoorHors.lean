/- Texts of general use, one behind another. -/
import Derived.Test.YtihggkmjalofiaaGreatDoorHangs
import Derived.Test.YtihggkmjalofiaaGreatDoorIdxz
import Derived.Test.YtihggkmjalofiaaGreatDoorIdxw

/- Patches that were taken together, in the order that is told: plain law; no program in sight. -/
namespace Go.Proofs.YtihggkmjalofiaaGreatDoor
open Go.RowKit

theorem idxOf_left {l m : List PidV} {d : PidV} (h : d ∈ l) : (l ++ m).idxOf d = l.idxOf d := by rw [List.idxOf_append, if_pos h]
/-- what a patch names was taken ahead of it -/
theorem dep_ahead {L : List PatV} (h : IdxOk L) : ∀ p ∈ L, ∀ d ∈ p.2.1, d ∈ L.map (·.1) ∧ (L.map (·.1)).idxOf d < (L.map (·.1)).idxOf p.1 := by
  induction h with
  | nil => simp
  | @snoc L p hL h0 ih =>
    intro q hq d hd
    rw [List.map_append]
    rcases List.mem_append.1 hq with hq | hq
    · obtain ⟨i1, i2⟩ := ih q hq d hd
      have hm : q.1 ∈ L.map (·.1) := List.mem_map.2 ⟨q, hq, rfl⟩
      exact ⟨List.mem_append.2 (.inl i1), by rw [idxOf_left i1, idxOf_left hm]; exact i2⟩
    · obtain rfl := List.mem_singleton.1 hq
      obtain ⟨_, h2, h3, _⟩ := idxE_zero h0
      obtain ⟨x, hx, rfl⟩ := (hL.has d).1 (h3 d hd)
      have hm : x.1 ∈ L.map (·.1) := List.mem_map.2 ⟨x, hx, rfl⟩
      have hn : q.1 ∉ L.map (·.1) := fun hc => by
        obtain ⟨y, hy, e⟩ := List.mem_map.1 hc
        exact findP_none.1 h2 y hy e
      refine ⟨List.mem_append.2 (.inl hm), ?_⟩
      rw [idxOf_left hm, List.idxOf_append, if_neg hn]
      have := List.idxOf_lt_length_iff.2 hm
      omega
/-- where the patch of a name was taken -/
def posL (L : List PatV) (i : Nat) : Nat := match (namesH L)[i]? with
  | some d => (L.map (·.1)).idxOf d
  | none => 0
theorem hangE_pos {L : List PatV} (h : IdxOk L) {x : Nat × Nat} (hx : HangE L x) : posL L x.1 < posL L x.2 := by
  obtain ⟨p, d, h1, h2, h3, h4⟩ := hx
  unfold posL
  rw [h1, h4]
  exact (dep_ahead h p (findP_some h2).1 d h3).2
theorem relH_pos {L : List PatV} (h : IdxOk L) {a b : Nat} (hr : relH L a b = true) : posL L a < posL L b := by
  have hv := (relH_iff L a b).1 hr
  clear hr
  unfold ViaL at hv
  induction hv with
  | edge e => exact hangE_pos h (mem_stepsH.1 e)
  | step e _ _ ih =>
    have h1 := hangE_pos h (mem_stepsH.1 e)
    exact Nat.lt_trans h1 ih
theorem relH_asym {L : List PatV} (h : IdxOk L) {a b : Nat} (hr : relH L a b = true) : relH L b a = false := by
  cases hc : relH L b a
  · rfl
  · have h1 := relH_pos h hr
    have h2 := relH_pos h hc
    omega
theorem befR_of {L : List PatV} (h : IdxOk L) (a b : Nat) : befR (relH L) a b = relH L a b := by
  unfold befR
  cases hr : relH L a b
  · rfl
  · rw [relH_asym h hr]; rfl
/-- what comes ahead is told ahead -/
theorem ordAt_apart {n : Nat} {R : Nat → Nat → Bool} (T : TransR n R) : ∀ (m k i : Nat), (ordAt R n m)[k]? = some i → ∀ j, befR R j i = true → j ∈ (ordAt R n m).take k
  | 0, k, i, h => by simp [ordAt] at h
  | m + 1, k, i, h => by
    intro j hb
    have ih := ordAt_apart T m
    obtain ⟨h1, _⟩ := ordAt_told T m
    rw [ordAt_succ] at h ⊢
    by_cases hlt : (ordAt R n m).length < n
    · rw [if_pos hlt] at h ⊢
      obtain ⟨g, _, e, _, hm⟩ := pick_there T h1 hlt
      rw [e] at h ⊢
      rcases Nat.lt_or_ge k (ordAt R n m).length with hk | hk
      · rw [List.getElem?_append_left hk] at h
        rw [List.take_append_of_le_length (by omega)]
        exact ih k i h j hb
      · rw [List.getElem?_append_right hk] at h
        obtain ⟨_, hgi⟩ := mem_grpL.1 (List.mem_of_getElem? h)
        unfold mayG freeR at hm
        simp only [Bool.and_eq_true, List.all_eq_true] at hm
        have hjg : befR R j g = true := by
          rcases groupR_like R i with e1 | ⟨_, k2, k3⟩
          · rw [hgi] at e1; rw [e1]; exact hb
          · rw [hgi] at k2 k3
            unfold befR at hb ⊢
            simp only [Bool.and_eq_true, Bool.not_eq_true'] at hb ⊢
            refine ⟨T.trans hb.1 k2, ?_⟩
            cases hc : R g j
            · rfl
            · rw [T.trans k2 hc] at hb; exact absurd hb.2 (by decide)
        have hf := hm.2.2 j (List.mem_range.2 (befR_lt T hjg).1)
        rw [hjg, Bool.not_true, Bool.false_or, decide_eq_true_eq] at hf
        rw [List.take_append, List.take_of_length_le hk]
        exact List.mem_append.2 (.inl hf)
    · rw [if_neg hlt] at h ⊢
      exact ih k i h j hb
theorem ord_ahead {L : List PatV} (h : IdxOk L) {k i : Nat} (hk : (ordR (relH L) (namesH L).length)[k]? = some i) (j : Nat) (hr : relH L j i = true) : j ∈ (ordR (relH L) (namesH L).length).take k :=
  ordAt_apart (relH_trans L) _ k i hk j (by rw [befR_of h]; exact hr)
theorem nodup_take {l : List Nat} (h : l.Nodup) {k i : Nat} (hk : l[k]? = some i) : i ∉ l.take k := fun hc => by
  obtain ⟨j, hj, e⟩ := List.getElem_of_mem hc
  obtain ⟨hk', e'⟩ := List.getElem?_eq_some_iff.1 hk
  rw [List.getElem_take] at e
  have hjk : j < k := by rw [List.length_take] at hj; omega
  exact List.pairwise_iff_getElem.1 h j k (by omega) hk' hjk (by rw [e, e'])
/-- the patches at some places -/
def patI (L : List PatV) (S : List Nat) : List PatV := S.filterMap fun i => (namesH L)[i]?.bind (findP L)
theorem patI_at {L : List PatV} {i : Nat} (hi : i < (namesH L).length) : ∃ p, (namesH L)[i]? = some p.1 ∧ findP L p.1 = some p := by
  obtain ⟨p, hp, e⟩ := (namesH_mem L (namesH L)[i]).1 (List.getElem_mem hi)
  cases hf : findP L p.1 with
  | none => exact absurd rfl (findP_none.1 hf p hp)
  | some q =>
    obtain ⟨_, h2⟩ := findP_some hf
    exact ⟨q, by rw [h2, List.getElem?_eq_getElem hi, e], by rw [h2]; exact hf⟩
theorem patI_one {L : List PatV} {i : Nat} {p : PatV} (hp : (namesH L)[i]? = some p.1) (hf : findP L p.1 = some p) : ((namesH L)[i]?.bind (findP L)) = some p := by
  rw [hp]; exact hf
theorem patI_snoc {L : List PatV} {S : List Nat} {i : Nat} {p : PatV} (hp : (namesH L)[i]? = some p.1) (hf : findP L p.1 = some p) : patI L (S ++ [i]) = patI L S ++ [p] := by
  unfold patI
  rw [List.filterMap_append, List.filterMap_cons, patI_one hp hf]
  rfl
theorem patI_mem {L : List PatV} {S : List Nat} {q : PatV} : q ∈ patI L S ↔ ∃ i ∈ S, (namesH L)[i]? = some q.1 ∧ findP L q.1 = some q := by
  unfold patI
  rw [List.mem_filterMap]
  constructor
  · rintro ⟨i, hi, e⟩
    cases hn : (namesH L)[i]? with
    | none => rw [hn] at e; cases e
    | some d =>
      rw [hn] at e
      obtain ⟨_, h2⟩ := findP_some e
      subst h2
      exact ⟨i, hi, hn, e⟩
  · rintro ⟨i, hi, hn, hf⟩
    exact ⟨i, hi, patI_one hn hf⟩
theorem firstDep_mem {p : PatV} (h : patB p = true) {d : PidV} (hd : d ∈ firstDep p.1) : d ∈ p.2.1 := by
  unfold patB at h
  simp only [Bool.and_eq_true, decide_eq_true_eq] at h
  rw [h.2.2.2.1]
  exact (setK_mem keyP_inj _ _).2 (List.mem_append.2 (.inl hd))
/-- a patch can be put if all that it hangs on was -/
theorem put_next {L : List PatV} (h : IdxOk L) {S : List Nat} (hX : IdxOk (patI L S)) {i : Nat} {p : PatV} (hp : (namesH L)[i]? = some p.1) (hf : findP L p.1 = some p) (hi : i ∉ S) (hap : ∀ j, relH L j i = true → j ∈ S) : idxE (patI L S) p = 0 := by
  have hpm := (findP_some hf).1
  have hg := h.good p hpm
  have hno : ∀ q ∈ patI L S, q.1 ≠ p.1 := fun q hq e => by
    obtain ⟨j, hj, h1, _⟩ := patI_mem.1 hq
    have : j = i := by
      have a := placeD_at (namesH_nodup L) h1
      have b := placeD_at (namesH_nodup L) hp
      rw [e] at a
      omega
    exact hi (this ▸ hj)
  have hdep : ∀ d ∈ p.2.1, hasP (vecL (patI L S)) d = true := fun d hd => by
    obtain ⟨hm, _⟩ := dep_ahead h p hpm d hd
    obtain ⟨x, hx, rfl⟩ := List.mem_map.1 hm
    have hD : x.1 ∈ namesH L := (namesH_mem L x.1).2 ⟨x, hx, rfl⟩
    obtain ⟨a, ha, e⟩ := List.getElem_of_mem hD
    obtain ⟨y, hy1, hy2⟩ := patI_at ha
    have he : x.1 = y.1 := by rw [List.getElem?_eq_getElem ha, e] at hy1; exact Option.some.inj hy1
    have hr : relH L a i = true := (relH_iff L a i).2 (.edge (mem_stepsH.2 ⟨p, x.1, hp, hf, hd, by rw [hy1, he]⟩))
    exact (hX.has x.1).2 ⟨y, patI_mem.2 ⟨a, hap a hr, hy1, hy2⟩, he.symm⟩
  refine idxE_of hg (findP_none.2 hno) hdep ?_
  have hv := hX.hasnt hno
  have hb := ofV_bd (vecL_ok (patI L S)) p.1.1.val
  have hpid : pidOk ((p.1.1.val : Nat) : Int) ((p.1.2.val : Nat) : Int) = true := by
    unfold patB at hg
    simp only [Bool.and_eq_true] at hg
    exact hg.1
  unfold pidOk at hpid
  simp only [Bool.and_eq_true, decide_eq_true_eq] at hpid
  have hin : inV p.1.1.val = true := by unfold inV; exact decide_eq_true (by omega)
  have hlt : ofV (vecL (patI L S)) p.1.1.val < ((p.1.2.val : Nat) : Int) := by
    unfold hasP hasV at hv
    rw [hin, Bool.true_and, decide_eq_false_iff_not] at hv
    omega
  have heq : ofV (vecL (patI L S)) p.1.1.val + 1 = ((p.1.2.val : Nat) : Int) := by
    by_cases h1 : 1 < p.1.2.val
    · have hd := hdep (p.1.1, ⟨p.1.2.val - 1, by have := p.1.2.isLt; omega⟩) (firstDep_mem hg (by unfold firstDep; rw [dif_pos h1]; simp))
      unfold hasP hasV at hd
      simp only [hin, Bool.true_and, decide_eq_true_eq] at hd
      omega
    · omega
  rw [putB_next hg]
  unfold nextB nextV
  rw [if_pos ⟨hin, by omega⟩]
  simp only [decide_true, Bool.true_and]
  exact decide_eq_true heq
theorem ord_all (L : List PatV) (i : Nat) : i ∈ ordR (relH L) (namesH L).length ↔ i < (namesH L).length := by
  obtain ⟨h1, h2⟩ := ordR_told (relH_trans L)
  constructor
  · exact h1.lt i
  · intro hi
    refine Classical.byContradiction fun hn => ?_
    have := (List.nodup_cons.2 ⟨hn, h1.nodup⟩).length_le_of_subset (l₂ := List.range (namesH L).length) fun j hj => by
      rcases List.mem_cons.1 hj with rfl | hj
      · exact List.mem_range.2 hi
      · exact List.mem_range.2 (h1.lt j hj)
    rw [List.length_range, List.length_cons, h2] at this
    omega
end Go.Proofs.YtihggkmjalofiaaGreatDoor

/- Whether a name is in a list: walked. -/
namespace Go.Proofs.YtihggkmjalofiaaGreatDoor
open Go.RowKit

end Go.Proofs.YtihggkmjalofiaaGreatDoor

/- Who is without a patch has all else that he needs: walked. -/
namespace Go.Proofs.YtihggkmjalofiaaGreatDoor
open Go.RowKit

theorem Stay.refl (G : Nat → Prop) (w : World) : Stay G w w := ⟨Nat.le_refl _, fun _ _ _ => rfl⟩
/-- two indexes that lie apart, both made from block b on, but for what lies between -/
structure TwoAt (b c d : Nat) (w : World) (gy gz : Nat) (Y Z : List PatV) : Prop where
  ex : ∃ Fy Fz, IdxAt w Fy gy Y ∧ IdxAt w Fz gz Z ∧ (∀ q, Fy q → ¬ Fz q) ∧ ∀ q, Fy q ∨ Fz q → (b ≤ q ∧ q < c) ∨ d ≤ q
theorem TwoAt.ext {b c d gy gz : Nat} {w w' : World} {Y Z : List PatV} (h : TwoAt b c d w gy gz Y Z) (hb : Below w.heap.size w w') : TwoAt b c d w' gy gz Y Z := by
  obtain ⟨Fy, Fz, h1, h2, h3⟩ := h.ex
  exact ⟨Fy, Fz, h1.ext hb, h2.ext hb, h3⟩
end Go.Proofs.YtihggkmjalofiaaGreatDoor

/- The order in which patches are told plays no part: plain law; no program in sight. -/
namespace Go.Proofs.YtihggkmjalofiaaGreatDoor
open Go.RowKit

theorem findP_nodup {l : List PatV} (h : (l.map (·.1)).Nodup) {p : PatV} (hp : p ∈ l) : findP l p.1 = some p := by
  cases hf : findP l p.1 with
  | none => exact absurd rfl (findP_none.1 hf p hp)
  | some q =>
    obtain ⟨h1, h2⟩ := findP_some hf
    obtain ⟨i, hi, rfl⟩ := List.getElem_of_mem hp
    obtain ⟨j, hj, rfl⟩ := List.getElem_of_mem h1
    have hp := List.pairwise_iff_getElem.1 h
    rcases Nat.lt_trichotomy i j with c | c | c
    · exact absurd (by rw [List.getElem_map, List.getElem_map]; exact h2.symm) (hp i j (by simpa using hi) (by simpa using hj) c)
    · subst c; rfl
    · exact absurd (by rw [List.getElem_map, List.getElem_map]; exact h2) (hp j i (by simpa using hj) (by simpa using hi) c)
theorem findP_perm {l l' : List PatV} (hp : l'.Perm l) (hn : (l.map (·.1)).Nodup) (d : PidV) : findP l' d = findP l d := by
  cases h : findP l d with
  | none => exact findP_none.2 fun p hp2 => findP_none.1 h p (hp.subset hp2)
  | some p =>
    obtain ⟨h1, h2⟩ := findP_some h
    rw [← h2]; exact findP_nodup ((hp.map _).nodup_iff.2 hn) (hp.symm.subset h1)
theorem namesH_perm {l l' : List PatV} (hp : l'.Perm l) : namesH l' = namesH l := setK_congr keyP_inj fun z => by simp [List.mem_map, hp.mem_iff]
theorem relH_turn {l l' : List PatV} (hp : l'.Perm l) (hn : (l.map (·.1)).Nodup) : relH l' = relH l := relH_perm (namesH_perm hp) (findP_perm hp hn)
end Go.Proofs.YtihggkmjalofiaaGreatDoor
