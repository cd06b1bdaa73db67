/- Texts of general use, one behind another. -/
import Derived.Test.YtihggkmjalofiaaGreatDoorIdxa
import Derived.Test.YtihggkmjalofiaaGreatDoorPaws
import Derived.Test.YtihggkmjalofiaaGreatDoorVids
import Derived.Test.YtihggkmjalofiaaGreatDoorGen
import Derived.Test.YtihggkmjalofiaaGreatDoorSets
import Derived.Deep.RegionHeld3
import Derived.Deep.DeepCutAuto
import Derived.Test.YtihggkmjalofiaaGreatDoorIdxw

/- A graph is patches in the order of their coming: plain laws; no program in sight. -/
namespace Go.Proofs.YtihggkmjalofiaaGreatDoor
open Go.RowKit

/-- a vertex: its kind, its file, its text -/
abbrev RawV := Fin 256 × VidV × ByteArray
def makesO (o : OpV) : Bool := decide (1 ≤ o.1.val ∧ o.1.val ≤ 3)
theorem makesO_eq (o : OpV) : makesB ((o.1.val : Nat) : Int) = makesO o := by
  unfold makesB makesO
  rw [Bool.eq_iff_iff]
  simp only [Bool.and_eq_true, decide_eq_true_eq]
  omega
def rawO (o : OpV) (v : VidV) : RawV := (o.1, (if o.1.val = 1 then v else o.2.1), o.2.2.2)
def rawP (p : PatV) (v : VidV) : Option RawV :=
  if p.1 = v.1 then (match p.2.2[v.2.val]? with | some o => if makesO o = true then some (rawO o v) else none | none => none) else none
def rawV (L : List PatV) (v : VidV) : Option RawV := L.findSome? fun p => rawP p v
def killO (v : VidV) (o : OpV) : Bool := decide (o.1.val = 5) && decide (o.2.1 = v)
def deadP (p : PatV) (v : VidV) : Bool := p.2.2.any (killO v)
def deadV (L : List PatV) (v : VidV) : Bool := L.any fun p => deadP p v
/-- a vertex with its name, and whether it is dead -/
abbrev VertV := VidV × Fin 256 × VidV × ByteArray × Bool
def vertV (L : List PatV) (v : VidV) : Option VertV := (rawV L v).map fun r => (v, r.1, r.2.1, r.2.2, deadV L v)
def zeroVert : VertV := (vid0, 0, vid0, ByteArray.empty, false)
def vertD (L : List PatV) (v : VidV) : VertV := (vertV L v).getD zeroVert
def kindIs (f : VidV → Option RawV) (v : VidV) (k : Nat) : Bool := match f v with | some a => decide (a.1.val = k) | none => false
def fileF (f : VidV → Option RawV) (v : VidV) : VidV := match f v with | some a => a.2.1 | none => vid0
/-- are the vertices that an operation names there, and of the kinds that it takes? -/
def refB (f : VidV → Option RawV) (o : OpV) : Bool :=
  if o.1.val = 2 ∨ o.1.val = 3 then kindIs f o.2.1 1
  else if o.1.val = 5 then (f o.2.1).isSome
  else if o.1.val = 4 then kindIs f o.2.1 3 && (kindIs f o.2.2.1 3 && decide (fileF f o.2.1 = fileF f o.2.2.1))
  else true
/-- the error of a patch that is applied -/
def grE (L : List PatV) (p : PatV) : Nat :=
  if patB p = true then
    if hasP (vecL L) p.1 = true then 7
    else if nextB (vecL L) p.1 = true then
      if p.2.1.all (hasP (vecL L)) = true then
        if p.2.2.all (refB (rawV (L ++ [p]))) = true then 0 else 10
      else 9
    else 9
  else 1
def grL (L : List PatV) (p : PatV) : List PatV := if grE L p = 0 then L ++ [p] else L
theorem grE_zero {L : List PatV} {p : PatV} (h : grE L p = 0) : patB p = true ∧ hasP (vecL L) p.1 = false ∧ nextB (vecL L) p.1 = true ∧ (∀ d ∈ p.2.1, hasP (vecL L) d = true) ∧ ∀ o ∈ p.2.2, refB (rawV (L ++ [p])) o = true := by
  unfold grE at h
  split at h
  · rename_i h1
    split at h
    · cases h
    · rename_i h2
      split at h
      · rename_i h3
        split at h
        · rename_i h4
          split at h
          · rename_i h5
            exact ⟨h1, by simpa using h2, h3, List.all_eq_true.1 h4, List.all_eq_true.1 h5⟩
          · cases h
        · cases h
      · cases h
  · cases h
theorem grE_of {L : List PatV} {p : PatV} (h1 : patB p = true) (h2 : hasP (vecL L) p.1 = false) (h3 : nextB (vecL L) p.1 = true) (h4 : ∀ d ∈ p.2.1, hasP (vecL L) d = true) (h5 : ∀ o ∈ p.2.2, refB (rawV (L ++ [p])) o = true) : grE L p = 0 := by
  unfold grE
  rw [if_pos h1, if_neg (by rw [h2]; decide), if_pos h3, if_pos (List.all_eq_true.2 h4), if_pos (List.all_eq_true.2 h5)]
inductive GrOk : List PatV → Prop
  | nil : GrOk []
  | snoc {L : List PatV} {p : PatV} : GrOk L → grE L p = 0 → GrOk (L ++ [p])
theorem GrOk.put {L : List PatV} (h : GrOk L) (p : PatV) : GrOk (grL L p) := by
  unfold grL
  split
  · rename_i h0; exact h.snoc h0
  · exact h
theorem grE_idx {L : List PatV} {p : PatV} (hL : IdxOk L) (h : grE L p = 0) : idxE L p = 0 := by
  obtain ⟨h1, h2, h3, h4, _⟩ := grE_zero h
  refine idxE_of h1 (findP_none.2 fun q hq e => ?_) h4 (by rw [putB_next h1]; exact h3)
  rw [(hL.has p.1).2 ⟨q, hq, e⟩] at h2; cases h2
theorem GrOk.idx {L : List PatV} (h : GrOk L) : IdxOk L := by
  induction h with
  | nil => exact .nil
  | snoc _ h0 ih => exact ih.snoc (grE_idx ih h0)
theorem rawP_name {p : PatV} {v : VidV} {r : RawV} (h : rawP p v = some r) : p.1 = v.1 := by
  unfold rawP at h
  split at h
  · assumption
  · cases h
theorem rawP_get {p : PatV} {v : VidV} {r : RawV} : rawP p v = some r ↔ p.1 = v.1 ∧ ∃ o, p.2.2[v.2.val]? = some o ∧ makesO o = true ∧ r = rawO o v := by
  unfold rawP
  constructor
  · intro h
    split at h
    · rename_i h1
      split at h
      · rename_i o ho
        split at h
        · rename_i hm
          exact ⟨h1, o, ho, hm, (Option.some.inj h).symm⟩
        · cases h
      · cases h
    · cases h
  · rintro ⟨h1, o, ho, hm, rfl⟩
    rw [if_pos h1, ho]
    simp only
    rw [if_pos hm]
theorem rawV_snoc (L : List PatV) (p : PatV) (v : VidV) : rawV (L ++ [p]) v = (rawV L v).or (rawP p v) := by
  unfold rawV
  rw [List.findSome?_append]
  simp
theorem rawV_mem {L : List PatV} {v : VidV} {r : RawV} (h : rawV L v = some r) : ∃ p ∈ L, rawP p v = some r := by
  unfold rawV at h
  exact List.exists_of_findSome?_eq_some h
theorem rawV_more {L : List PatV} {v : VidV} {r : RawV} (h : rawV L v = some r) (p : PatV) : rawV (L ++ [p]) v = some r := by rw [rawV_snoc, h]; rfl
/-- names once each: a vertex is of the patch of its name -/
theorem rawV_of {L : List PatV} (hn : (L.map (·.1)).Nodup) {p : PatV} (hp : p ∈ L) {v : VidV} (hv : p.1 = v.1) : rawV L v = rawP p v := by
  induction L with
  | nil => cases hp
  | cons q L ih =>
    rw [List.map_cons, List.nodup_cons] at hn
    unfold rawV
    rw [List.findSome?_cons]
    rcases List.mem_cons.1 hp with rfl | hp
    · cases hr : rawP p v with
      | some r => rfl
      | none =>
        simp only
        rw [List.findSome?_eq_none_iff]
        intro x hx
        unfold rawP
        rw [if_neg]
        intro e
        exact hn.1 (List.mem_map.2 ⟨x, hx, e.trans hv.symm⟩)
    · have hq : rawP q v = none := by
        unfold rawP
        rw [if_neg]
        intro e
        exact hn.1 (List.mem_map.2 ⟨p, hp, hv.trans e.symm⟩)
      rw [hq]
      exact ih hn.2 hp
theorem rawV_none {L : List PatV} {v : VidV} (h : ∀ p ∈ L, p.1 ≠ v.1) : rawV L v = none := by
  unfold rawV
  rw [List.findSome?_eq_none_iff]
  intro p hp
  unfold rawP
  rw [if_neg (h p hp)]
theorem GrOk.hasnt {L : List PatV} (h : GrOk L) {d : PidV} (hd : hasP (vecL L) d = false) : ∀ p ∈ L, p.1 ≠ d := fun p hp e => by
  rw [(h.idx.has d).2 ⟨p, hp, e⟩] at hd; cases hd
theorem kindIs_some {f : VidV → Option RawV} {v : VidV} {k : Nat} (h : kindIs f v k = true) : ∃ a, f v = some a ∧ a.1.val = k := by
  unfold kindIs at h
  split at h
  · rename_i a ha; exact ⟨a, ha, of_decide_eq_true h⟩
  · cases h
theorem refB_known {f : VidV → Option RawV} {o : OpV} (h : refB f o = true) : ∀ v ∈ refsO o, (f v).isSome = true := by
  intro v hv
  unfold refB at h
  unfold refsO at hv
  by_cases c1 : o.1.val = 2 ∨ o.1.val = 3
  · rw [if_pos c1] at h
    rw [if_pos (by omega)] at hv
    obtain rfl := List.mem_singleton.1 hv
    obtain ⟨a, ha, _⟩ := kindIs_some h
    rw [ha]; rfl
  · rw [if_neg c1] at h
    by_cases c5 : o.1.val = 5
    · rw [if_pos c5] at h
      rw [if_pos (by omega)] at hv
      obtain rfl := List.mem_singleton.1 hv
      exact h
    · rw [if_neg c5] at h
      by_cases c4 : o.1.val = 4
      · rw [if_pos c4, Bool.and_eq_true, Bool.and_eq_true] at h
        rw [if_neg (by omega), if_pos c4] at hv
        obtain ⟨a, ha, _⟩ := kindIs_some h.1
        obtain ⟨b, hb, _⟩ := kindIs_some h.2.1
        simp only [List.mem_cons, List.not_mem_nil, or_false] at hv
        rcases hv with rfl | rfl
        · rw [ha]; rfl
        · rw [hb]; rfl
      · rw [if_neg (by omega), if_neg c4] at hv
        cases hv
/-- what an operation names is there -/
theorem GrOk.known {L : List PatV} (h : GrOk L) : ∀ p ∈ L, ∀ o ∈ p.2.2, ∀ v ∈ refsO o, (rawV L v).isSome = true := by
  induction h with
  | nil => simp
  | @snoc L p hL h0 ih =>
    intro q hq o ho v hv
    rcases List.mem_append.1 hq with hq | hq
    · have := ih q hq o ho v hv
      obtain ⟨r, hr⟩ := Option.isSome_iff_exists.1 this
      rw [rawV_more hr]; rfl
    · obtain rfl := List.mem_singleton.1 hq
      exact refB_known ((grE_zero h0).2.2.2.2 o ho) v hv
theorem killO_ref {v : VidV} {o : OpV} (h : killO v o = true) : v ∈ refsO o := by
  unfold killO at h
  rw [Bool.and_eq_true, decide_eq_true_eq, decide_eq_true_eq] at h
  unfold refsO
  rw [if_pos (by omega), h.2]
  exact List.mem_singleton.2 rfl
theorem GrOk.dead_known {L : List PatV} (h : GrOk L) {v : VidV} (hd : deadV L v = true) : ∃ p ∈ L, p.1 = v.1 := by
  unfold deadV at hd
  obtain ⟨p, hp, h1⟩ := List.any_eq_true.1 hd
  unfold deadP at h1
  obtain ⟨o, ho, h2⟩ := List.any_eq_true.1 h1
  have := h.known p hp o ho v (killO_ref h2)
  obtain ⟨r, hr⟩ := Option.isSome_iff_exists.1 this
  obtain ⟨q, hq, h3⟩ := rawV_mem hr
  exact ⟨q, hq, rawP_name h3⟩
theorem GrOk.dead_new {L : List PatV} (h : GrOk L) {v : VidV} (hn : ∀ p ∈ L, p.1 ≠ v.1) : deadV L v = false := by
  cases hd : deadV L v
  · rfl
  · obtain ⟨p, hp, e⟩ := h.dead_known hd
    exact absurd e (hn p hp)

/-- a patch, its first operations alone -/
def cutP (p : PatV) (k : Nat) : PatV := (p.1, p.2.1, p.2.2.take k)
theorem cutP_all (p : PatV) {k : Nat} (h : p.2.2.length ≤ k) : cutP p k = p := by unfold cutP; rw [List.take_of_length_le h]
theorem take_get {α : Type} {l : List α} {k i : Nat} {x y : α} (hk : l[k]? = some x) : (l.take (k + 1))[i]? = some y ↔ (i = k ∧ y = x) ∨ (l.take k)[i]? = some y := by
  obtain ⟨hl, rfl⟩ := List.getElem?_eq_some_iff.1 hk
  rw [List.take_succ_eq_append_getElem hl]
  rcases Nat.lt_trichotomy i k with c | c | c
  · rw [List.getElem?_append_left (by rw [List.length_take]; omega)]
    exact ⟨.inr, fun h => h.elim (fun h => by omega) id⟩
  · subst c
    rw [List.getElem?_append_right (by rw [List.length_take]; omega)]
    have e : i - (l.take i).length = 0 := by rw [List.length_take]; omega
    rw [e]
    have e2 : (l.take i)[i]? = none := List.getElem?_eq_none (by rw [List.length_take]; omega)
    rw [e2]
    simp
    exact ⟨fun h => h.symm, fun h => h.symm⟩
  · have e1 : ((l.take k) ++ [l[k]])[i]? = none := List.getElem?_eq_none (by rw [List.length_append, List.length_take, List.length_singleton]; omega)
    have e2 : (l.take k)[i]? = none := List.getElem?_eq_none (by rw [List.length_take]; omega)
    rw [e1, e2]
    simp; omega
theorem rawP_cut {p : PatV} {k : Nat} {o : OpV} (hk : p.2.2[k]? = some o) (v : VidV) (r : RawV) : rawP (cutP p (k + 1)) v = some r ↔ (p.1 = v.1 ∧ v.2.val = k ∧ makesO o = true ∧ r = rawO o v) ∨ rawP (cutP p k) v = some r := by
  rw [rawP_get, rawP_get]
  unfold cutP
  simp only
  constructor
  · rintro ⟨h1, x, hx, h2, h3⟩
    rcases (take_get hk).1 hx with ⟨e1, rfl⟩ | hx
    · exact .inl ⟨h1, e1, h2, h3⟩
    · exact .inr ⟨h1, x, hx, h2, h3⟩
  · rintro (⟨h1, h2, h3, h4⟩ | ⟨h1, x, hx, h2, h3⟩)
    · exact ⟨h1, o, (take_get hk).2 (.inl ⟨h2, rfl⟩), h3, h4⟩
    · exact ⟨h1, x, (take_get hk).2 (.inr hx), h2, h3⟩
theorem deadP_cut {p : PatV} {k : Nat} {o : OpV} (hk : p.2.2[k]? = some o) (v : VidV) : deadP (cutP p (k + 1)) v = (deadP (cutP p k) v || killO v o) := by
  obtain ⟨hl, rfl⟩ := List.getElem?_eq_some_iff.1 hk
  unfold deadP cutP
  simp only
  rw [List.take_succ_eq_append_getElem hl, List.any_append]
  simp
theorem deadV_snoc (L : List PatV) (p : PatV) (v : VidV) : deadV (L ++ [p]) v = (deadV L v || deadP p v) := by
  unfold deadV
  rw [List.any_append]
  simp
theorem vecL_cut (L : List PatV) (p : PatV) (k : Nat) : vecL (L ++ [cutP p k]) = vecL (L ++ [p]) := by rw [vecL_snoc, vecL_snoc]; rfl
theorem vidOf_eq {p : PatV} {v : VidV} (h1 : p.1 = v.1) : v = vidOf p.1 (v.2.val : Int) := by
  unfold vidOf
  refine Prod.ext h1.symm (Fin.ext ?_)
  have := v.2.isLt
  show v.2.val = (((v.2.val : Nat) : Int) % 256).toNat
  omega
theorem vidOf_n {d : PidV} {k : Nat} (h : k < 256) : (vidOf d (k : Int)).2.val = k := by
  unfold vidOf
  show ((k : Int) % 256).toNat = k
  omega
theorem rawV_cut_new {L : List PatV} {p : PatV} (hn : ∀ q ∈ L, q.1 ≠ p.1) {v : VidV} (hv : p.1 = v.1) (k : Nat) : rawV (L ++ [cutP p k]) v = rawP (cutP p k) v := by
  rw [rawV_snoc, rawV_none (fun q hq e => hn q hq (e.trans hv.symm))]
  simp
/-- an operation that makes a vertex -/
theorem vert_made {L : List PatV} (hL : GrOk L) {p : PatV} (hn : ∀ q ∈ L, q.1 ≠ p.1) (hg : ∀ (k : Nat) o, p.2.2[k]? = some o → goodO p.1 k o = true) {k : Nat} {o : OpV} (hk : p.2.2[k]? = some o) (h256 : k < 256) (hm : makesO o = true) (v : VidV) :
    vertV (L ++ [cutP p (k + 1)]) v = if v = vidOf p.1 (k : Int) then some (vidOf p.1 (k : Int), o.1, (if o.1.val = 1 then vidOf p.1 (k : Int) else o.2.1), o.2.2.2, false) else vertV (L ++ [cutP p k]) v := by
  have hnk : ∀ u, killO u o = false := fun u => by
    unfold killO
    rw [decide_eq_false (by unfold makesO at hm; have := of_decide_eq_true hm; omega)]; rfl
  have hdead : deadV (L ++ [cutP p (k + 1)]) v = deadV (L ++ [cutP p k]) v := by rw [deadV_snoc, deadV_snoc, deadP_cut hk, hnk, Bool.or_false]
  by_cases hv : p.1 = v.1
  · have hown : ∀ j, deadP (cutP p j) v = false := fun j => by
      unfold deadP cutP
      rw [List.any_eq_false]
      intro x hx hc
      simp only at hx
      obtain ⟨i, hi, e⟩ := List.getElem_of_mem hx
      rw [List.getElem_take] at e
      rw [List.length_take] at hi
      have hgo := hg i x (by rw [List.getElem?_eq_getElem (by omega), e])
      unfold killO at hc
      rw [Bool.and_eq_true, decide_eq_true_eq, decide_eq_true_eq] at hc
      exact goodO_kill hgo hc.1 (by rw [hc.2]; exact hv.symm)
    have hd0 : deadV (L ++ [cutP p k]) v = false := by rw [deadV_snoc, hown, hL.dead_new (fun q hq e => hn q hq (e.trans hv.symm))]; rfl
    unfold vertV
    rw [hdead, hd0, rawV_cut_new hn hv, rawV_cut_new hn hv]
    by_cases he : v = vidOf p.1 (k : Int)
    · rw [if_pos he]
      have e1 : v.2.val = k := by rw [he]; exact vidOf_n h256
      have : rawP (cutP p (k + 1)) v = some (rawO o v) := (rawP_cut hk v _).2 (.inl ⟨hv, e1, hm, rfl⟩)
      rw [this]
      unfold rawO
      rw [he]
      rfl
    · rw [if_neg he]
      have e1 : v.2.val ≠ k := fun e => he (by rw [vidOf_eq hv, e])
      have : rawP (cutP p (k + 1)) v = rawP (cutP p k) v := by
        apply Option.ext
        intro r
        rw [rawP_cut hk]
        exact ⟨fun h => h.elim (fun h => absurd h.2.1 e1) id, .inr⟩
      rw [this]
  · have he : v ≠ vidOf p.1 (k : Int) := fun e => hv (by rw [e]; rfl)
    rw [if_neg he]
    unfold vertV
    rw [hdead, rawV_snoc, rawV_snoc]
    have : ∀ j, rawP (cutP p j) v = none := fun j => by unfold rawP; rw [if_neg]; exact hv
    rw [this, this]
theorem rawP_not {p : PatV} {k : Nat} {o : OpV} (hk : p.2.2[k]? = some o) (hm : makesO o = false) (v : VidV) : rawP (cutP p (k + 1)) v = rawP (cutP p k) v := by
  apply Option.ext
  intro r
  rw [rawP_cut hk]
  exact ⟨fun h => h.elim (fun h => by rw [h.2.2.1] at hm; cases hm) id, .inr⟩
/-- an operation that makes nothing, and kills nothing -/
theorem vert_edge {L : List PatV} {p : PatV} {k : Nat} {o : OpV} (hk : p.2.2[k]? = some o) (h4 : o.1.val = 4) (v : VidV) : vertV (L ++ [cutP p (k + 1)]) v = vertV (L ++ [cutP p k]) v := by
  unfold vertV
  have : killO v o = false := by unfold killO; rw [decide_eq_false (by omega)]; rfl
  rw [rawV_snoc, rawV_snoc, rawP_not hk (by unfold makesO; exact decide_eq_false (by omega)), deadV_snoc, deadV_snoc, deadP_cut hk, this, Bool.or_false]
/-- an operation that kills -/
theorem vert_kill {L : List PatV} {p : PatV} {k : Nat} {o : OpV} (hk : p.2.2[k]? = some o) (h5 : o.1.val = 5) (v : VidV) : vertV (L ++ [cutP p (k + 1)]) v = if v = o.2.1 then (vertV (L ++ [cutP p k]) v).map (fun x => (x.1, x.2.1, x.2.2.1, x.2.2.2.1, true)) else vertV (L ++ [cutP p k]) v := by
  unfold vertV
  rw [rawV_snoc, rawV_snoc, rawP_not hk (by unfold makesO; exact decide_eq_false (by omega)), deadV_snoc, deadV_snoc, deadP_cut hk]
  by_cases e : v = o.2.1
  · rw [if_pos e]
    have : killO v o = true := by unfold killO; rw [decide_eq_true h5, decide_eq_true e.symm]; rfl
    rw [this, Bool.or_true, Bool.or_true, Option.map_map]
    rfl
  · rw [if_neg e]
    have : killO v o = false := by unfold killO; rw [decide_eq_true h5, decide_eq_false (fun c => e c.symm)]; rfl
    rw [this, Bool.or_false]

/-! Steps -/
abbrev EdgeV := VidV × VidV
def edgeO (o : OpV) : Option EdgeV := if o.1.val = 4 then some (o.2.1, o.2.2.1) else none
def edgesP (p : PatV) : List EdgeV := p.2.2.filterMap edgeO
def edgesOf (L : List PatV) : List EdgeV := L.flatMap edgesP
def keyE (e : EdgeV) : Int := keyV e.1 * 4294967296 + keyV e.2
theorem keyV_bd (v : VidV) : 0 ≤ keyV v ∧ keyV v < 4294967296 := by
  have := keyP_bd v.1
  have := v.2.isLt
  unfold keyV
  omega
theorem keyE_inj (x y : EdgeV) (h : keyE x = keyE y) : x = y := by
  unfold keyE at h
  have h1 := keyV_bd x.1
  have h2 := keyV_bd x.2
  have h3 := keyV_bd y.1
  have h4 := keyV_bd y.2
  exact Prod.ext (keyV_inj _ _ (by omega)) (keyV_inj _ _ (by omega))
def edgesL (L : List PatV) : List EdgeV := setK keyE (edgesOf L)
def fileV (L : List PatV) (v : VidV) : VidV := fileF (rawV L) v
theorem edgesOf_snoc (L : List PatV) (p : PatV) : edgesOf (L ++ [p]) = edgesOf L ++ edgesP p := by
  unfold edgesOf; rw [List.flatMap_append]; simp
theorem edgesP_cut {p : PatV} {k : Nat} {o : OpV} (hk : p.2.2[k]? = some o) : edgesP (cutP p (k + 1)) = edgesP (cutP p k) ++ (edgeO o).toList := by
  obtain ⟨hl, rfl⟩ := List.getElem?_eq_some_iff.1 hk
  unfold edgesP cutP
  simp only
  rw [List.take_succ_eq_append_getElem hl, List.filterMap_append]
  cases h : edgeO p.2.2[k] <;> simp [h]

/-! All vertices -/
def idsP (p : PatV) : List VidV := (List.range p.2.2.length).filterMap fun (i : Nat) => match p.2.2[i]? with | some o => if makesO o = true then some (vidOf p.1 ((i : Nat) : Int)) else none | none => none
def idsOf (L : List PatV) : List VidV := L.flatMap idsP
def idsL (L : List PatV) : List VidV := setK keyV (idsOf L)
def vertsL (L : List PatV) : List VertV := (idsL L).map (vertD L)
theorem idsP_mem {p : PatV} (h : p.2.2.length ≤ 256) (v : VidV) : v ∈ idsP p ↔ (rawP p v).isSome = true := by
  unfold idsP
  rw [List.mem_filterMap, Option.isSome_iff_exists]
  constructor
  · rintro ⟨i, hi, e⟩
    have hi := List.mem_range.1 hi
    rw [List.getElem?_eq_getElem hi] at e
    simp only at e
    split at e
    · rename_i hm
      obtain rfl := Option.some.inj e
      exact ⟨_, rawP_get.2 ⟨rfl, p.2.2[i], by rw [vidOf_n (by omega), List.getElem?_eq_getElem hi], hm, rfl⟩⟩
    · cases e
  · rintro ⟨r, hr⟩
    obtain ⟨h1, o, ho, hm, _⟩ := rawP_get.1 hr
    refine ⟨v.2.val, List.mem_range.2 (List.getElem?_eq_some_iff.1 ho).1, ?_⟩
    rw [ho]
    simp only
    rw [if_pos hm, ← vidOf_eq h1]
theorem GrOk.good {L : List PatV} (h : GrOk L) : ∀ p ∈ L, patB p = true := h.idx.good
theorem GrOk.few {L : List PatV} (h : GrOk L) {p : PatV} (hp : p ∈ L) : p.2.2.length ≤ 200 := (patB_parts (h.good p hp)).2.2.1
theorem GrOk.raw {L : List PatV} (h : GrOk L) {v : VidV} {r : RawV} : rawV L v = some r ↔ ∃ p ∈ L, rawP p v = some r := by
  constructor
  · exact rawV_mem
  · rintro ⟨p, hp, hr⟩
    rw [rawV_of h.idx.nodup hp (rawP_name hr), hr]
theorem GrOk.ids {L : List PatV} (h : GrOk L) (v : VidV) : v ∈ idsL L ↔ (rawV L v).isSome = true := by
  unfold idsL idsOf
  rw [setK_mem keyV_inj, List.mem_flatMap, Option.isSome_iff_exists]
  constructor
  · rintro ⟨p, hp, hv⟩
    obtain ⟨r, hr⟩ := Option.isSome_iff_exists.1 ((idsP_mem (by have := h.few hp; omega) v).1 hv)
    exact ⟨r, h.raw.2 ⟨p, hp, hr⟩⟩
  · rintro ⟨r, hr⟩
    obtain ⟨p, hp, e⟩ := h.raw.1 hr
    exact ⟨p, hp, (idsP_mem (by have := h.few hp; omega) v).2 (by rw [e]; rfl)⟩
theorem vertD_id {L : List PatV} {v : VidV} (h : (rawV L v).isSome = true) : (vertD L v).1 = v := by
  obtain ⟨r, hr⟩ := Option.isSome_iff_exists.1 h
  unfold vertD vertV
  rw [hr]; rfl
theorem vertD_some {L : List PatV} {v : VidV} {x : VertV} (h : vertV L v = some x) : vertD L v = x := by unfold vertD; rw [h]; rfl
theorem vertV_id {L : List PatV} {v : VidV} {x : VertV} (h : vertV L v = some x) : x.1 = v := by
  unfold vertV at h
  cases hr : rawV L v with
  | none => rw [hr] at h; cases h
  | some r => rw [hr] at h; rw [← Option.some.inj h]
theorem GrOk.verts {L : List PatV} (h : GrOk L) (x : VertV) : x ∈ vertsL L ↔ vertV L x.1 = some x := by
  unfold vertsL
  rw [List.mem_map]
  constructor
  · rintro ⟨v, hv, rfl⟩
    have hs := (h.ids v).1 hv
    rw [vertD_id hs]
    obtain ⟨r, hr⟩ := Option.isSome_iff_exists.1 hs
    unfold vertD vertV
    rw [hr]; rfl
  · intro hx
    refine ⟨x.1, (h.ids x.1).2 ?_, vertD_some hx⟩
    unfold vertV at hx
    cases hr : rawV L x.1 with
    | none => rw [hr] at hx; cases hx
    | some r => rfl
def keyX (x : VertV) : Int := keyV x.1
theorem GrOk.verts_rise {L : List PatV} (h : GrOk L) : RiseK keyX (vertsL L) := by
  unfold vertsL RiseK
  rw [List.pairwise_map]
  refine (setK_rise keyV_inj (idsOf L)).imp_of_mem fun {a b} ha hb hab => ?_
  unfold keyX
  rw [vertD_id ((h.ids a).1 ha), vertD_id ((h.ids b).1 hb)]
  exact hab
/-- sorted by their names, each once, and the same ones: the same -/
theorem rise_eqX {a b : List VertV} (ha : RiseK keyX a) (hb : RiseK keyX b) (h : ∀ z, z ∈ a ↔ z ∈ b) : a = b := rise_eq ha hb h
def opsN (L : List PatV) : Nat := (L.map fun p => p.2.2.length).sum
theorem opsN_snoc (L : List PatV) (p : PatV) : opsN (L ++ [p]) = opsN L + p.2.2.length := by unfold opsN; simp
theorem GrOk.opsN {L : List PatV} (h : GrOk L) : opsN L ≤ 200 * L.length := by
  induction h with
  | nil => simp [Proofs.YtihggkmjalofiaaGreatDoor.opsN]
  | @snoc L p hL h0 ih =>
    rw [opsN_snoc, List.length_append, List.length_singleton]
    have := (patB_parts (grE_zero h0).1).2.2.1
    omega
end Go.Proofs.YtihggkmjalofiaaGreatDoor

/- The same patches make the same graph, in whichever order they come; what is applied hangs together: plain laws; no program in sight. -/
namespace Go.Proofs.YtihggkmjalofiaaGreatDoor
open Go.RowKit

theorem kindIs_mono {f g : VidV → Option RawV} (h : ∀ v r, f v = some r → g v = some r) {v : VidV} {k : Nat} (hk : kindIs f v k = true) : kindIs g v k = true := by
  obtain ⟨a, ha, e⟩ := kindIs_some hk
  unfold kindIs
  rw [h v a ha]
  exact decide_eq_true e
theorem fileF_of {f : VidV → Option RawV} {v : VidV} {r : RawV} (h : f v = some r) : fileF f v = r.2.1 := by unfold fileF; rw [h]
theorem refB_mono {f g : VidV → Option RawV} (h : ∀ v r, f v = some r → g v = some r) {o : OpV} (ho : refB f o = true) : refB g o = true := by
  unfold refB at ho ⊢
  by_cases c1 : o.1.val = 2 ∨ o.1.val = 3
  · rw [if_pos c1] at ho ⊢
    exact kindIs_mono h ho
  rw [if_neg c1] at ho ⊢
  by_cases c5 : o.1.val = 5
  · rw [if_pos c5] at ho ⊢
    obtain ⟨r, hr⟩ := Option.isSome_iff_exists.1 ho
    rw [h _ r hr]; rfl
  rw [if_neg c5] at ho ⊢
  by_cases c4 : o.1.val = 4
  · rw [if_pos c4] at ho ⊢
    rw [Bool.and_eq_true, Bool.and_eq_true, decide_eq_true_eq] at ho ⊢
    obtain ⟨a, ha, _⟩ := kindIs_some ho.1
    obtain ⟨b, hb, _⟩ := kindIs_some ho.2.1
    refine ⟨kindIs_mono h ho.1, kindIs_mono h ho.2.1, ?_⟩
    rw [fileF_of (h _ a ha), fileF_of (h _ b hb), ← fileF_of ha, ← fileF_of hb]
    exact ho.2.2
  rw [if_neg c4]
theorem gr_more {X L : List PatV} (hX : GrOk X) {p : PatV} (hL : GrOk L) (h0 : grE L p = 0) (hn : ∀ q ∈ X, q.1 ≠ p.1) (hs : ∀ q ∈ L, q ∈ X) : grE X p = 0 := by
  obtain ⟨h1, _, _, _, h5⟩ := grE_zero h0
  obtain ⟨_, _, i3, i4⟩ := idxE_zero (put_more hX.idx hL.idx (grE_idx hL.idx h0) hn fun q hq => ⟨q, hs q hq, rfl⟩)
  refine grE_of h1 (hX.idx.hasnt hn) (by rw [← putB_next h1]; exact i4) i3 fun o ho => refB_mono (fun v r hr => ?_) (h5 o ho)
  rw [rawV_snoc] at hr ⊢
  cases hl : rawV L v with
  | some s =>
    rw [hl] at hr
    obtain ⟨q, hq, e⟩ := rawV_mem hl
    rw [hX.raw.2 ⟨q, hs q hq, e⟩]
    exact hr
  | none =>
    rw [hl] at hr
    have hr2 : rawP p v = some r := hr
    rw [rawV_none fun q hq e => hn q hq (e.trans (rawP_name hr2).symm)]
    exact hr
/-- nothing more can be applied -/
def Satur (L l : List PatV) : Prop := ∀ p ∈ l, grE L p ≠ 0
theorem sat_all {A B l : List PatV} (hA : GrOk A) (hB : GrOk B) (hone : ∀ p ∈ l, ∀ q ∈ l, p.1 = q.1 → p = q) (hAl : ∀ p ∈ A, p ∈ l) (hBl : ∀ p ∈ B, p ∈ l) (hs : Satur B l) : ∀ p ∈ A, p ∈ B := by
  induction hA with
  | nil => simp
  | @snoc A p hA h0 ih =>
    have ih := ih fun q hq => hAl q (List.mem_append.2 (.inl hq))
    intro q hq
    rcases List.mem_append.1 hq with hq | hq
    · exact ih q hq
    · obtain rfl := List.mem_singleton.1 hq
      have hql := hAl q (by simp)
      by_cases hx : ∃ x ∈ B, x.1 = q.1
      · obtain ⟨x, hxB, e⟩ := hx
        rw [← hone x (hBl x hxB) q hql e]
        exact hxB
      · exact absurd (gr_more hB hA h0 (fun x hx' e => hx ⟨x, hx', e⟩) ih) (hs q hql)
/-- the same patches: the same graph -/
theorem same_graph {A B : List PatV} (hA : GrOk A) (hB : GrOk B) (h : ∀ p, p ∈ A ↔ p ∈ B) : vecL A = vecL B ∧ vertsL A = vertsL B ∧ edgesL A = edgesL B := by
  have hraw : ∀ v, rawV A v = rawV B v := fun v => by
    apply Option.ext
    intro r
    rw [hA.raw, hB.raw]
    exact ⟨fun ⟨p, hp, e⟩ => ⟨p, (h p).1 hp, e⟩, fun ⟨p, hp, e⟩ => ⟨p, (h p).2 hp, e⟩⟩
  have hdead : ∀ v, deadV A v = deadV B v := fun v => by
    unfold deadV
    rw [Bool.eq_iff_iff, List.any_eq_true, List.any_eq_true]
    exact ⟨fun ⟨p, hp, e⟩ => ⟨p, (h p).1 hp, e⟩, fun ⟨p, hp, e⟩ => ⟨p, (h p).2 hp, e⟩⟩
  have hvert : ∀ v, vertV A v = vertV B v := fun v => by unfold vertV; rw [hraw, hdead]
  refine ⟨vec_eq_of_has (vecL_ok A) (vecL_ok B) fun d => ?_, rise_eqX hA.verts_rise hB.verts_rise fun z => by rw [hA.verts, hB.verts, hvert], setK_congr keyE_inj fun z => ?_⟩
  · rw [Bool.eq_iff_iff, hA.idx.has, hB.idx.has]
    exact ⟨fun ⟨p, hp, e⟩ => ⟨p, (h p).1 hp, e⟩, fun ⟨p, hp, e⟩ => ⟨p, (h p).2 hp, e⟩⟩
  · unfold edgesOf
    rw [List.mem_flatMap, List.mem_flatMap]
    exact ⟨fun ⟨p, hp, e⟩ => ⟨p, (h p).1 hp, e⟩, fun ⟨p, hp, e⟩ => ⟨p, (h p).2 hp, e⟩⟩

/-- patches that are applied one behind another -/
def runG (L : List PatV) (l : List PatV) : List PatV := l.foldl grL L
theorem runG_ok (l : List PatV) : ∀ L, GrOk L → GrOk (runG L l) := by
  induction l with
  | nil => intro L h; exact h
  | cons p l ih => intro L h; exact ih _ (h.put p)
theorem runG_snoc (L : List PatV) {l : List PatV} {k : Nat} {p : PatV} (h : l[k]? = some p) : runG L (l.take (k + 1)) = grL (runG L (l.take k)) p := by
  obtain ⟨hk, rfl⟩ := List.getElem?_eq_some_iff.1 h
  unfold runG
  rw [List.take_succ_eq_append_getElem hk, List.foldl_append]; rfl
theorem grL_len (L : List PatV) (p : PatV) : L.length ≤ (grL L p).length ∧ ((grL L p).length = L.length → grE L p ≠ 0 ∧ grL L p = L) := by
  unfold grL
  by_cases h : grE L p = 0
  · rw [if_pos h]; exact ⟨by simp, fun e => by simp at e⟩
  · rw [if_neg h]; exact ⟨Nat.le_refl _, fun _ => ⟨h, rfl⟩⟩
theorem runG_len (l : List PatV) : ∀ L, L.length ≤ (runG L l).length ∧ ((runG L l).length = L.length → Satur L l ∧ runG L l = L) := by
  induction l with
  | nil => intro L; exact ⟨Nat.le_refl _, fun _ => ⟨fun p hp => (by cases hp), rfl⟩⟩
  | cons p l ih =>
    intro L
    obtain ⟨i1, i2⟩ := ih (grL L p)
    obtain ⟨g1, g2⟩ := grL_len L p
    refine ⟨Nat.le_trans g1 i1, fun e => ?_⟩
    have e1 : (runG (grL L p) l).length = L.length := e
    obtain ⟨g3, g4⟩ := g2 (by omega)
    rw [g4] at i2 e1
    obtain ⟨s1, s2⟩ := i2 e1
    refine ⟨fun q hq => ?_, by show runG (grL L p) l = L; rw [g4]; exact s2⟩
    rcases List.mem_cons.1 hq with rfl | hq
    · exact g3
    · exact s1 q hq
theorem grL_mem {L : List PatV} {p q : PatV} (h : q ∈ grL L p) : q ∈ L ∨ q = p := by
  unfold grL at h
  split at h
  · rcases List.mem_append.1 h with h | h
    · exact .inl h
    · exact .inr (List.mem_singleton.1 h)
  · exact .inl h
theorem runG_mem (l : List PatV) : ∀ L q, q ∈ runG L l → q ∈ L ∨ q ∈ l := by
  induction l with
  | nil => intro L q h; exact .inl h
  | cons p l ih =>
    intro L q h
    rcases ih _ q h with h | h
    · rcases grL_mem h with h | rfl
      · exact .inl h
      · exact .inr (by simp)
    · exact .inr (by simp [h])
/-- so many rounds over patches -/
def rounds (l : List PatV) : Nat → List PatV
  | 0 => []
  | k + 1 => runG (rounds l k) l
theorem rounds_ok (l : List PatV) : ∀ k, GrOk (rounds l k)
  | 0 => .nil
  | k + 1 => runG_ok l _ (rounds_ok l k)
theorem rounds_mem (l : List PatV) : ∀ k q, q ∈ rounds l k → q ∈ l
  | 0, q, h => by cases h
  | k + 1, q, h => (runG_mem l _ q h).elim (rounds_mem l k q) id
theorem satur_run {L l : List PatV} (h : Satur L l) : runG L l = L := by
  induction l with
  | nil => rfl
  | cons p l ih =>
    have e : grL L p = L := by unfold grL; rw [if_neg (h p (by simp))]
    show runG (grL L p) l = L
    rw [e]
    exact ih fun q hq => h q (by simp [hq])
theorem rounds_go (l : List PatV) : ∀ k, Satur (rounds l k) l ∨ k ≤ (rounds l k).length
  | 0 => .inr (Nat.zero_le _)
  | k + 1 => by
    obtain ⟨r1, r2⟩ := runG_len l (rounds l k)
    rcases rounds_go l k with h | h
    · left
      show Satur (runG (rounds l k) l) l
      rw [satur_run h]; exact h
    · by_cases e : (runG (rounds l k) l).length = (rounds l k).length
      · left
        obtain ⟨s1, s2⟩ := r2 e
        show Satur (runG (rounds l k) l) l
        rw [s2]; exact s1
      · right
        show k + 1 ≤ (runG (rounds l k) l).length
        omega
theorem rounds_len (l : List PatV) (k : Nat) : (rounds l k).length ≤ l.length := by
  have h1 := (rounds_ok l k).idx.nodup
  have := h1.length_le_of_subset (l₂ := l.map (·.1)) fun d hd => by
    obtain ⟨p, hp, rfl⟩ := List.mem_map.1 hd
    exact List.mem_map.2 ⟨p, rounds_mem l k p hp, rfl⟩
  simpa using this
theorem rounds_sat (l : List PatV) : Satur (rounds l (l.length + 1)) l := by
  rcases rounds_go l (l.length + 1) with h | h
  · exact h
  · have := rounds_len l (l.length + 1); omega
theorem satur_congr {L l m : List PatV} (h : ∀ p, p ∈ l ↔ p ∈ m) (hs : Satur L l) : Satur L m := fun p hp => hs p ((h p).2 hp)
/-- in whichever order -/
theorem turns_same {l m : List PatV} (hone : ∀ p ∈ l, ∀ q ∈ l, p.1 = q.1 → p = q) (hm : ∀ p, p ∈ l ↔ p ∈ m) (hl : l.length = m.length) : ∀ p, p ∈ rounds l (l.length + 1) ↔ p ∈ rounds m (l.length + 1) := by
  have sB := rounds_sat m
  rw [← hl] at sB
  exact fun p => ⟨sat_all (rounds_ok l _) (rounds_ok m _) hone (rounds_mem l _) (fun q hq => (hm q).2 (rounds_mem m _ q hq)) (satur_congr (fun q => (hm q).symm) sB) p,
    sat_all (rounds_ok m _) (rounds_ok l _) hone (fun q hq => (hm q).2 (rounds_mem m _ q hq)) (rounds_mem l _) (rounds_sat l) p⟩

/-! What is applied hangs together. -/
theorem edgesOf_mem {L : List PatV} {e : EdgeV} : e ∈ edgesOf L ↔ ∃ p ∈ L, ∃ o ∈ p.2.2, o.1.val = 4 ∧ e = (o.2.1, o.2.2.1) := by
  unfold edgesOf edgesP
  rw [List.mem_flatMap]
  constructor
  · rintro ⟨p, hp, h⟩
    obtain ⟨o, ho, h1⟩ := List.mem_filterMap.1 h
    unfold edgeO at h1
    split at h1
    · rename_i h4; exact ⟨p, hp, o, ho, h4, (Option.some.inj h1).symm⟩
    · cases h1
  · rintro ⟨p, hp, o, ho, h4, rfl⟩
    exact ⟨p, hp, List.mem_filterMap.2 ⟨o, ho, by unfold edgeO; rw [if_pos h4]⟩⟩
end Go.Proofs.YtihggkmjalofiaaGreatDoor

/- vid.Set: names of vertices, each once, rising. -/
namespace Go.Proofs.YtihggkmjalofiaaGreatDoor
open Go.RowKit Go.Sort
open Go.ChangeMaps (setBlock)

theorem kLawV : Go.WideMaps.KeyLaw Tryz.prog 120 := deep_law_laid (by kernel_rfl) (m := 3) (by omega) (of_decide_eq_true (by kernel_rfl)) (by kernel_rfl) (by kernel_rfl)
theorem kKeyV (v : VidV) : ∃ kl, keyOf Tryz.prog 120 (.agg (encV v).toArray) = some kl := by
  have h1 := v.1.1.isLt
  have h2 := v.1.2.isLt
  have h3 := v.2.isLt
  have : FlatOk [.int .u8, .int .u16, .int .u8] (encV v) := by
    refine ⟨⟨_, rfl, ?_⟩, ⟨_, rfl, ?_⟩, ⟨_, rfl, ?_⟩, trivial⟩ <;> simp [Lit.wf, IntKind.min, IntKind.max, IntKind.signed, IntKind.bits] <;> omega
  exact keyOf_flat (by kernel_rfl) (by kernel_rfl) (by kernel_rfl) (by kernel_rfl) (of_decide_eq_true (by kernel_rfl)) this
end Go.Proofs.YtihggkmjalofiaaGreatDoor

/- Texts of general use, one behind another. -/

/- A graph as it lies. -/
namespace Go.Proofs.YtihggkmjalofiaaGreatDoor
open Go.RowKit
open Go.ChangeMaps (setBlock)

def encX (x : VertV) : List Value := [.int .u8 ((x.1.1.1.val : Nat) : Int), .int .u16 ((x.1.1.2.val : Nat) : Int), .int .u8 ((x.1.2.val : Nat) : Int), .int .u8 ((x.2.1.val : Nat) : Int), .int .u8 ((x.2.2.1.1.1.val : Nat) : Int), .int .u16 ((x.2.2.1.1.2.val : Nat) : Int), .int .u8 ((x.2.2.1.2.val : Nat) : Int), .string x.2.2.2.1, .bool x.2.2.2.2]
def encE (e : EdgeV) : List Value := [.int .u8 ((e.1.1.1.val : Nat) : Int), .int .u16 ((e.1.1.2.val : Nat) : Int), .int .u8 ((e.1.2.val : Nat) : Int), .int .u8 ((e.2.1.1.val : Nat) : Int), .int .u16 ((e.2.1.2.val : Nat) : Int), .int .u8 ((e.2.2.val : Nat) : Int)]
theorem encX_len (x : VertV) : (encX x).length = 9 := rfl
theorem encE_len (e : EdgeV) : (encE e).length = 6 := rfl
theorem encX_one (x : VertV) : ∀ u ∈ encX x, u.oneCell' = true := by
  intro u hu
  simp only [encX, List.mem_cons, List.not_mem_nil, or_false] at hu
  rcases hu with rfl | rfl | rfl | rfl | rfl | rfl | rfl | rfl | rfl <;> rfl
theorem encE_one (e : EdgeV) : ∀ u ∈ encE e, u.oneCell' = true := by
  intro u hu
  simp only [encE, List.mem_cons, List.not_mem_nil, or_false] at hu
  rcases hu with rfl | rfl | rfl | rfl | rfl | rfl <;> rfl
theorem vid_nat {x y : VidV} (h1 : x.1.1.val = y.1.1.val) (h2 : x.1.2.val = y.1.2.val) (h3 : x.2.val = y.2.val) : x = y := Prod.ext (Prod.ext (Fin.ext h1) (Fin.ext h2)) (Fin.ext h3)
theorem encVa_inj {x y : VidV} (h : (Value.agg (encV x).toArray) = .agg (encV y).toArray) : x = y := by
  simp only [encV, Value.agg.injEq, Array.mk.injEq, List.cons.injEq, Value.int.injEq, true_and, and_true] at h
  exact vid_nat (by omega) (by omega) (by omega)
theorem encEa_inj {x y : EdgeV} (h : (Value.agg (encE x).toArray) = .agg (encE y).toArray) : x = y := by
  simp only [encE, Value.agg.injEq, Array.mk.injEq, List.cons.injEq, Value.int.injEq, true_and, and_true] at h
  exact Prod.ext (vid_nat (by omega) (by omega) (by omega)) (vid_nat (by omega) (by omega) (by omega))
theorem encX_inj {x y : VertV} (h : encX x = encX y) : x = y := by
  simp only [encX, List.cons.injEq, Value.int.injEq, Value.string.injEq, Value.bool.injEq, true_and, and_true] at h
  obtain ⟨h1, h2, h3, h4, h5, h6, h7, h8, h9⟩ := h
  exact Prod.ext (vid_nat (by omega) (by omega) (by omega)) (Prod.ext (Fin.ext (by omega)) (Prod.ext (vid_nat (by omega) (by omega) (by omega)) (Prod.ext h8 h9)))
/-- a graph's cells -/
def grC (v : List Int) (gm ge : Nat) : Array Value := vecA v ++ #[.map (some gm), .map (some ge)]
def VertsM (L : List PatV) (E : List (Value × Value)) : Prop := ∀ q : Value × Value, q ∈ E ↔ ∃ v x, vertV L v = some x ∧ q = (.agg (encV v).toArray, .agg (encX x).toArray)
def EdgesM (L : List PatV) (E : List (Value × Value)) : Prop := ∀ q : Value × Value, q ∈ E ↔ ∃ e ∈ edgesOf L, q = (.agg (encE e).toArray, .agg (encV (fileV L e.1)).toArray)
/-- a graph's memory: its own blocks are those of F -/
structure GraphM (w : World) (F : Nat → Prop) (g : Nat) (L : List PatV) : Prop where
  lt : ∀ k, F k → k < w.heap.size
  self : F g
  ex : ∃ gm ge E Ee, Blk w g 129 (grC (vecL L) gm ge) ∧ (F gm ∧ F ge ∧ g ≠ gm ∧ g ≠ ge ∧ gm ≠ ge) ∧ MapIs Tryz.prog 120 w gm E ∧ MapIs Tryz.prog 137 w ge Ee ∧ VertsM L E ∧ EdgesM L Ee ∧ E.length ≤ opsN L ∧ Ee.length ≤ opsN L
theorem GraphM.stay {w w' : World} {F : Nat → Prop} {g : Nat} {L : List PatV} (h : GraphM w F g L) (hk : Stay F w w') : GraphM w' F g L := by
  obtain ⟨h1, h2, gm, ge, E, Ee, k1, k2, k3, k4, k5, k6, k7, k8⟩ := h
  exact ⟨fun k hF => Nat.lt_of_lt_of_le (h1 k hF) hk.1, h2, gm, ge, E, Ee, k1.keep (hk.2 g (h1 g h2) h2), k2, k3.keep (hk.2 gm (h1 gm k2.1) k2.1), k4.keep (hk.2 ge (h1 ge k2.2.1) k2.2.1), k5, k6, k7, k8⟩
theorem GraphM.ext {w w' : World} {F : Nat → Prop} {g : Nat} {L : List PatV} (h : GraphM w F g L) (hb : Below w.heap.size w w') : GraphM w' F g L := h.stay (Stay.of_below hb)
/-- a graph as it lies, of patches that could be applied -/
structure GraphAt (w : World) (F : Nat → Prop) (g : Nat) (L : List PatV) : Prop where
  ok : GrOk L
  mem : GraphM w F g L
theorem GraphAt.stay {w w' : World} {F : Nat → Prop} {g : Nat} {L : List PatV} (h : GraphAt w F g L) (hk : Stay F w w') : GraphAt w' F g L := ⟨h.ok, h.mem.stay hk⟩
theorem GraphAt.ext {w w' : World} {F : Nat → Prop} {g : Nat} {L : List PatV} (h : GraphAt w F g L) (hb : Below w.heap.size w w') : GraphAt w' F g L := ⟨h.ok, h.mem.ext hb⟩
theorem underVert : Tryz.prog.underlying 134 = some (.struct (Tryz.prog.fieldsOf 134)) := by kernel_rfl
theorem infoVert : (Tryz.prog.info? 134).map (·.size) = some 9 := by kernel_rfl
theorem underEdge : Tryz.prog.underlying 137 = some (.array 2 120) := by kernel_rfl
theorem infoEdge : (Tryz.prog.info? 137).map (·.size) = some 6 := by kernel_rfl
theorem vertSl : SlT Tryz.prog 141 134 9 40 := slT_of (z := .agg (encX zeroVert).toArray) Tryz.underlying141 (by kernel_rfl) rfl (by omega)
theorem edgeSl : SlT Tryz.prog 143 137 6 12 := slT_of (z := .agg #[.int .u8 0, .int .u16 0, .int .u8 0, .int .u8 0, .int .u16 0, .int .u8 0]) Tryz.underlying143 (by kernel_rfl) rfl (by omega)
theorem kMapVert : Tryz.prog.underlying 126 = some (.map 120 134) := by kernel_rfl
theorem kMapEdge : Tryz.prog.underlying 127 = some (.map 137 120) := by kernel_rfl
theorem kZeroVert (u : World) : (zeroValue 134).run Tryz.prog u = .ok (.agg (encX zeroVert).toArray) u := by kernel_rfl
theorem kLawE : Go.WideMaps.KeyLaw Tryz.prog 137 := deep_law_laid (by kernel_rfl) (m := 4) (by omega) (of_decide_eq_true (by kernel_rfl)) (by kernel_rfl) (by kernel_rfl)
theorem kKeyE (e : EdgeV) : ∃ kl, keyOf Tryz.prog 137 (.agg (encE e).toArray) = some kl :=
  keyOf_flat (ks := [.int .u8, .int .u16, .int .u8, .int .u8, .int .u16, .int .u8]) (by kernel_rfl) (by kernel_rfl) (by kernel_rfl) (by kernel_rfl) (of_decide_eq_true (by kernel_rfl)) ⟨⟨_, rfl, lit_u8 _⟩, ⟨_, rfl, lit_u16 _⟩, ⟨_, rfl, lit_u8 _⟩, ⟨_, rfl, lit_u8 _⟩, ⟨_, rfl, lit_u16 _⟩, ⟨_, rfl, lit_u8 _⟩, trivial⟩
theorem grC_size {v : List Int} (hv : VecOk v) (gm ge : Nat) : (grC v gm ge).size = 66 := by
  unfold grC
  rw [Array.size_append, vecA_size, hv.len]; rfl
section
variable {w : World} {g gm ge : Nat} {t : TypeId} {v : List Int}
theorem gr_m (hv : VecOk v) (h : Blk w g t (grC v gm ge)) : w.cell? ⟨g, 64, none⟩ = some (.map (some gm)) := by
  rw [h.cell 64]
  unfold grC
  rw [Array.getElem?_append_right (by rw [vecA_size, hv.len]; exact Nat.le_refl _), vecA_size, hv.len]; rfl
theorem gr_e (hv : VecOk v) (h : Blk w g t (grC v gm ge)) : w.cell? ⟨g, 65, none⟩ = some (.map (some ge)) := by
  rw [h.cell 65]
  unfold grC
  rw [Array.getElem?_append_right (by rw [vecA_size, hv.len]; omega), vecA_size, hv.len]; rfl
theorem gr_v (h : Blk w g t (grC v gm ge)) : w.rangeAt g 0 (v.map (Value.int .u16)) := by
  intro j u hj
  rw [Nat.zero_add, h.cell j]
  unfold grC
  have hl := (List.getElem?_eq_some_iff.1 hj).1
  rw [List.length_map] at hl
  rw [Array.getElem?_append_left (by rw [vecA_size]; exact hl)]
  unfold vecA
  simpa using hj
end
/-- what a graph's cells are, in any world that has only more -/
structure GrCells (w : World) (F : Nat → Prop) (g : Nat) (L : List PatV) (gm ge : Nat) : Prop where
  m : ∀ z : Ext w, z.w.cell? ⟨g, 64, none⟩ = some (.map (some gm))
  e : ∀ z : Ext w, z.w.cell? ⟨g, 65, none⟩ = some (.map (some ge))
  v : w.rangeAt g 0 ((vecL L).map (Value.int .u16))
  lt : g < w.heap.size
  inF : F gm ∧ F ge ∧ g ≠ gm ∧ g ≠ ge ∧ gm ≠ ge
  mlt : gm < w.heap.size
  elt : ge < w.heap.size
  map : ∃ E, MapIs Tryz.prog 120 w gm E ∧ VertsM L E ∧ E.length ≤ opsN L
  emap : ∃ E, MapIs Tryz.prog 137 w ge E ∧ EdgesM L E ∧ E.length ≤ opsN L
  blk : Blk w g 129 (grC (vecL L) gm ge)
theorem GraphM.cells {w : World} {F : Nat → Prop} {g : Nat} {L : List PatV} (h : GraphM w F g L) : ∃ gm ge, GrCells w F g L gm ge := by
  obtain ⟨h1, h2, gm, ge, E, Ee, k1, k2, k3, k4, k5, k6, k7, k8⟩ := h
  have hv := vecL_ok L
  exact ⟨gm, ge, fun z => gr_m hv (k1.ext z.h), fun z => gr_e hv (k1.ext z.h), gr_v k1, h1 g h2, k2, k3.lt, k4.lt, ⟨E, k3, k5, k7⟩, ⟨Ee, k4, k6, k8⟩, k1⟩
/-- a vertex is found by its name, in any world where the map stands -/
theorem VertsM.look {w : World} {L : List PatV} {gm : Nat} {E : List (Value × Value)} (hm : MapIs Tryz.prog 120 w gm E) (hE : VertsM L E) (v : VidV) :
    (∀ w', w'.heap[gm]? = w.heap[gm]? → (Instr.lookup 126 (.map (some gm)) (.agg (encV v).toArray) true).run Tryz.prog w' = .ok (.tuple #[.agg (encX (vertD L v)).toArray, .bool (vertV L v).isSome]) w') ∧
    ∀ w', w'.heap[gm]? = w.heap[gm]? → (Instr.lookup 126 (.map (some gm)) (.agg (encV v).toArray) false).run Tryz.prog w' = .ok (.agg (encX (vertD L v)).toArray) w' := by
  obtain ⟨kl, hkl⟩ := kKeyV v
  have key : ∀ u, GetL E (.agg (encV v).toArray) (.agg (encX zeroVert).toArray) u → u = .agg (encX (vertD L v)).toArray := by
    rintro u (⟨hno, rfl⟩ | hyes)
    · cases hv : vertV L v with
      | none => unfold vertD; rw [hv]; rfl
      | some x => exact ((hno (.agg (encV v).toArray, .agg (encX x).toArray) ((hE (.agg (encV v).toArray, .agg (encX x).toArray)).2 ⟨v, x, hv, rfl⟩)) rfl).elim
    · obtain ⟨v', x, hv, e⟩ := (hE _).1 hyes
      have e1 : Value.agg (encV v).toArray = .agg (encV v').toArray := congrArg Prod.fst e
      have e2 : u = .agg (encX x).toArray := congrArg Prod.snd e
      obtain rfl := encVa_inj e1
      rw [e2, vertD_some hv]
  constructor
  · obtain ⟨u, ok, hg, hl⟩ := hm.look_ok kLawV kMapVert kZeroVert hkl
    have hu : u = .agg (encX (vertD L v)).toArray ∧ ok = (vertV L v).isSome := by
      rcases hg with ⟨rfl, hno, rfl⟩ | ⟨rfl, hyes⟩
      · refine ⟨key _ (.inl ⟨hno, rfl⟩), ?_⟩
        cases hv : vertV L v with
        | none => rfl
        | some x => exact ((hno (.agg (encV v).toArray, .agg (encX x).toArray) ((hE (.agg (encV v).toArray, .agg (encX x).toArray)).2 ⟨v, x, hv, rfl⟩)) rfl).elim
      · refine ⟨key _ (.inr hyes), ?_⟩
        obtain ⟨v', x, hv, e⟩ := (hE _).1 hyes
        have e1 : Value.agg (encV v).toArray = .agg (encV v').toArray := congrArg Prod.fst e
        obtain rfl := encVa_inj e1
        rw [hv]; rfl
    obtain ⟨rfl, rfl⟩ := hu
    exact hl
  · obtain ⟨u, hg, hl⟩ := hm.look kLawV kMapVert kZeroVert hkl
    obtain rfl := key u hg
    exact hl
/-- what is in a map once a key has a value -/
theorem PutL.mem {l l' : List (Value × Value)} {key val : Value} (h : PutL l key val l') (hp : l.Pairwise fun p q => p.1 ≠ q.1) (q : Value × Value) : q ∈ l' ↔ q = (key, val) ∨ (q.1 ≠ key ∧ q ∈ l) := by
  rcases h with ⟨h1, rfl⟩ | ⟨j, v0, h1, rfl⟩
  · rw [List.mem_append, List.mem_singleton]
    constructor
    · rintro (h | h)
      · exact .inr ⟨h1 q h, h⟩
      · exact .inl h
    · rintro (h | h)
      · exact .inr h
      · exact .inl h.2
  · obtain ⟨hj, hj2⟩ := List.getElem?_eq_some_iff.1 h1
    have hp := List.pairwise_iff_getElem.1 hp
    rw [List.mem_iff_getElem]
    constructor
    · rintro ⟨i, hi, e⟩
      rw [List.getElem_set] at e
      rw [List.length_set] at hi
      split at e
      · exact .inl e.symm
      · rename_i hne
        refine .inr ⟨fun c => ?_, by rw [← e]; exact List.getElem_mem hi⟩
        rw [← e] at c
        rcases Nat.lt_or_gt_of_ne hne with c1 | c1
        · exact hp j i hj hi c1 (by rw [hj2, c])
        · exact hp i j hi hj c1 (by rw [hj2, c])
    · rintro (rfl | ⟨h2, h3⟩)
      · exact ⟨j, by rw [List.length_set]; exact hj, by rw [List.getElem_set_self]⟩
      · obtain ⟨i, hi, e⟩ := List.getElem_of_mem h3
        refine ⟨i, by rw [List.length_set]; exact hi, ?_⟩
        rw [List.getElem_set, if_neg]
        · exact e
        · rintro rfl
          rw [hj2] at e
          exact h2 (by rw [← e])
/-- a vertex is put -/
theorem VertsM.put {L L' : List PatV} {E E' : List (Value × Value)} {v : VidV} {x : VertV} (hE : VertsM L E) (hp : E.Pairwise fun p q => p.1 ≠ q.1) (h : PutL E (.agg (encV v).toArray) (.agg (encX x).toArray) E') (hL : ∀ u, vertV L' u = if u = v then some x else vertV L u) : VertsM L' E' := by
  intro q
  rw [h.mem hp, hE]
  constructor
  · rintro (rfl | ⟨h1, u, y, hu, rfl⟩)
    · exact ⟨v, x, by rw [hL, if_pos rfl], rfl⟩
    · exact ⟨u, y, by rw [hL, if_neg (fun e => h1 (by rw [e]))]; exact hu, rfl⟩
  · rintro ⟨u, y, hu, rfl⟩
    rw [hL] at hu
    by_cases e : u = v
    · rw [if_pos e] at hu
      subst e
      obtain rfl := Option.some.inj hu
      exact .inl rfl
    · rw [if_neg e] at hu
      exact .inr ⟨fun c => e (encVa_inj c), u, y, hu, rfl⟩
theorem VertsM.same {L L' : List PatV} {E : List (Value × Value)} (hE : VertsM L E) (hL : ∀ u, vertV L' u = vertV L u) : VertsM L' E := by
  intro q
  rw [hE]
  constructor
  · rintro ⟨u, y, hu, rfl⟩; exact ⟨u, y, by rw [hL]; exact hu, rfl⟩
  · rintro ⟨u, y, hu, rfl⟩; exact ⟨u, y, by rw [← hL]; exact hu, rfl⟩
/-- a step is put -/
theorem EdgesM.put {L L' : List PatV} {E E' : List (Value × Value)} {e : EdgeV} (hE : EdgesM L E) (hp : E.Pairwise fun p q => p.1 ≠ q.1) (h : PutL E (.agg (encE e).toArray) (.agg (encV (fileV L' e.1)).toArray) E') (hL : ∀ x, x ∈ edgesOf L' ↔ x ∈ edgesOf L ∨ x = e) (hf : ∀ x ∈ edgesOf L, fileV L' x.1 = fileV L x.1) : EdgesM L' E' := by
  intro q
  rw [h.mem hp, hE]
  constructor
  · rintro (rfl | ⟨h1, x, hx, rfl⟩)
    · exact ⟨e, (hL e).2 (.inr rfl), rfl⟩
    · exact ⟨x, (hL x).2 (.inl hx), by rw [hf x hx]⟩
  · rintro ⟨x, hx, rfl⟩
    by_cases c : x = e
    · subst c; exact .inl rfl
    · refine .inr ⟨fun d => c (encEa_inj d), x, ((hL x).1 hx).elim id (fun d => absurd d c), ?_⟩
      rw [hf x (((hL x).1 hx).elim id (fun d => absurd d c))]
theorem EdgesM.same {L L' : List PatV} {E : List (Value × Value)} (hE : EdgesM L E) (hL : ∀ x, x ∈ edgesOf L' ↔ x ∈ edgesOf L) (hf : ∀ x ∈ edgesOf L, fileV L' x.1 = fileV L x.1) : EdgesM L' E := by
  intro q
  rw [hE]
  constructor
  · rintro ⟨x, hx, rfl⟩; exact ⟨x, (hL x).2 hx, by rw [hf x hx]⟩
  · rintro ⟨x, hx, rfl⟩; exact ⟨x, (hL x).1 hx, by rw [hf x ((hL x).1 hx)]⟩
end Go.Proofs.YtihggkmjalofiaaGreatDoor

/- A graph's memory from operation to operation of a patch: what the maps hold. No program in sight but its types. -/
namespace Go.Proofs.YtihggkmjalofiaaGreatDoor
open Go.RowKit
open Go.ChangeMaps (setBlock)

theorem raw_cut {L : List PatV} {p : PatV} {k : Nat} {v : VidV} {r : RawV} (h : rawV (L ++ [p]) v = some r) (hk : v.1 = p.1 → v.2.val < k) : rawV (L ++ [cutP p k]) v = some r := by
  rw [rawV_snoc] at h ⊢
  cases hl : rawV L v with
  | some s => rw [hl] at h; exact h
  | none =>
    rw [hl] at h
    have h2 : rawP p v = some r := h
    obtain ⟨h1, o, ho, hm, rfl⟩ := rawP_get.1 h2
    show rawP (cutP p k) v = _
    refine rawP_get.2 ⟨h1, o, ?_, hm, rfl⟩
    unfold cutP
    simp only
    rw [List.getElem?_take_of_lt (hk h1.symm)]
    exact ho
theorem gr_one {L : List PatV} {p : PatV} (h0 : grE L p = 0) {k : Nat} {o : OpV} (ho : p.2.2[k]? = some o) : goodO p.1 k o = true := (oneR_parts ((patB_parts (grE_zero h0).1).2.2.2 k o ho)).1
/-- what an operation names is there when its turn has come -/
theorem ref_cut {L : List PatV} {p : PatV} (h0 : grE L p = 0) {k : Nat} {o : OpV} (ho : p.2.2[k]? = some o) {v : VidV} (hv : v ∈ refsO o) {j : Nat} (hj : k ≤ j) : ∃ r, rawV (L ++ [p]) v = some r ∧ rawV (L ++ [cutP p j]) v = some r := by
  have hk := refB_known ((grE_zero h0).2.2.2.2 o (List.mem_of_getElem? ho)) v hv
  obtain ⟨r, hr⟩ := Option.isSome_iff_exists.1 hk
  have hg := goodO_refs (gr_one h0 ho) v hv
  exact ⟨r, hr, raw_cut hr fun e => by have := hg e; omega⟩
theorem edgesOf_cut {L : List PatV} {p : PatV} {k : Nat} {o : OpV} (hk : p.2.2[k]? = some o) (x : EdgeV) : x ∈ edgesOf (L ++ [cutP p (k + 1)]) ↔ x ∈ edgesOf (L ++ [cutP p k]) ∨ (o.1.val = 4 ∧ x = (o.2.1, o.2.2.1)) := by
  rw [edgesOf_snoc, edgesOf_snoc, edgesP_cut hk, List.mem_append, List.mem_append, List.mem_append, or_assoc]
  unfold edgeO
  by_cases h4 : o.1.val = 4
  · rw [if_pos h4]; simp [h4]
  · rw [if_neg h4]; simp [h4]
theorem at_ref {o : OpV} (h : o.1.val = 4) : o.2.1 ∈ refsO o ∧ o.2.2.1 ∈ refsO o := by
  unfold refsO
  rw [if_neg (by omega), if_pos h]
  simp
theorem at_kill {o : OpV} (h : o.1.val = 5) : o.2.1 ∈ refsO o := by
  unfold refsO
  rw [if_pos (by omega)]
  simp
theorem edge_file {L : List PatV} (hL : GrOk L) {p : PatV} (h0 : grE L p = 0) {k : Nat} {x : EdgeV} (hx : x ∈ edgesOf (L ++ [cutP p k])) {j : Nat} (hj : k ≤ j) : fileV (L ++ [cutP p j]) x.1 = fileV (L ++ [cutP p k]) x.1 := by
  obtain ⟨q, hq, o, ho, h4, rfl⟩ := edgesOf_mem.1 hx
  unfold fileV
  rcases List.mem_append.1 hq with hq | hq
  · have := hL.known q hq o ho _ (at_ref h4).1
    obtain ⟨r, hr⟩ := Option.isSome_iff_exists.1 this
    rw [fileF_of (rawV_more hr _), fileF_of (rawV_more hr _)]
  · obtain rfl := List.mem_singleton.1 hq
    obtain ⟨i, hi, e⟩ := List.getElem_of_mem ho
    unfold cutP at hi e
    simp only at hi e
    rw [List.getElem_take] at e
    rw [List.length_take] at hi
    have hi2 : p.2.2[i]? = some o := by rw [List.getElem?_eq_getElem (by omega), e]
    obtain ⟨r, _, h1⟩ := ref_cut h0 hi2 (at_ref h4).1 (j := j) (by omega)
    obtain ⟨r', _, h2⟩ := ref_cut h0 hi2 (at_ref h4).1 (j := k) (by omega)
    have e1 := raw_cut (k := j) ‹rawV (L ++ [p]) o.2.1 = some r› (fun e => by have := goodO_refs (gr_one h0 hi2) _ (at_ref h4).1 e; omega)
    have e2 := raw_cut (k := k) ‹rawV (L ++ [p]) o.2.1 = some r› (fun e => by have := goodO_refs (gr_one h0 hi2) _ (at_ref h4).1 e; omega)
    rw [fileF_of e1, fileF_of e2]
theorem opsN_cut {L : List PatV} {p : PatV} {k : Nat} {o : OpV} (hk : p.2.2[k]? = some o) : opsN (L ++ [cutP p (k + 1)]) = opsN (L ++ [cutP p k]) + 1 := by
  have := (List.getElem?_eq_some_iff.1 hk).1
  rw [opsN_snoc, opsN_snoc]
  unfold cutP
  simp only [List.length_take]
  omega
section
variable {w : World} {F : Nat → Prop} {g gm ge : Nat} {L L' : List PatV}
/-- the vertices' map is written -/
theorem GrCells.setM (h : GrCells w F g L gm ge) (hF : ∀ k, F k → k < w.heap.size) (hg : F g) {o : Obj} {E' : List (Value × Value)} (hm : MapIs Tryz.prog 120 (setBlock w gm o) gm E') (hv : VertsM L' E') (hl : E'.length ≤ opsN L') (h1 : vecL L' = vecL L) (h2 : ∀ x, x ∈ edgesOf L' ↔ x ∈ edgesOf L) (h3 : ∀ x ∈ edgesOf L, fileV L' x.1 = fileV L x.1) (h4 : opsN L ≤ opsN L') :
    GraphM (setBlock w gm o) F g L' ∧ Kept F w (setBlock w gm o) := by
  obtain ⟨f1, f2, f3, f4, f5⟩ := h.inF
  obtain ⟨Ee, m1, m2, m3⟩ := h.emap
  have kep : Kept F w (setBlock w gm o) := Kept.setBlock (Kept.refl _ _) (.inl f1) o
  refine ⟨⟨fun k hk => Nat.lt_of_lt_of_le (hF k hk) kep.size, hg, gm, ge, E', Ee, ?_, h.inF, hm, m1.keep (setBlock_other (Ne.symm f5)), hv, m2.same h2 h3, hl, by omega⟩, kep⟩
  rw [h1]
  exact h.blk.setBlock f3 o
/-- the steps' map is written -/
theorem GrCells.setE (h : GrCells w F g L gm ge) (hF : ∀ k, F k → k < w.heap.size) (hg : F g) {o : Obj} {E' : List (Value × Value)} (hm : MapIs Tryz.prog 137 (setBlock w ge o) ge E') (hv : EdgesM L' E') (hl : E'.length ≤ opsN L') (h1 : vecL L' = vecL L) (h2 : ∀ v, vertV L' v = vertV L v) (h4 : opsN L ≤ opsN L') :
    GraphM (setBlock w ge o) F g L' ∧ Kept F w (setBlock w ge o) := by
  obtain ⟨f1, f2, f3, f4, f5⟩ := h.inF
  obtain ⟨E, m1, m2, m3⟩ := h.map
  have kep : Kept F w (setBlock w ge o) := Kept.setBlock (Kept.refl _ _) (.inl f2) o
  refine ⟨⟨fun k hk => Nat.lt_of_lt_of_le (hF k hk) kep.size, hg, gm, ge, E, E', ?_, h.inF, m1.keep (setBlock_other f5), hm, m2.same h2, hv, by omega, hl⟩, kep⟩
  rw [h1]
  exact h.blk.setBlock f4 o
end
/-- the vertex that an operation makes, as the program builds it -/
def madeX (p : PatV) (k : Nat) (o : OpV) : VertV := (vidOf p.1 (k : Int), o.1, (if o.1.val = 1 then vidOf p.1 (k : Int) else o.2.1), o.2.2.2, false)
theorem vert_at {L : List PatV} {v : VidV} {r : RawV} (h : rawV L v = some r) : vertV L v = some (vertD L v) := by
  unfold vertD vertV
  rw [h]; rfl
def killX (x : VertV) : VertV := (x.1, x.2.1, x.2.2.1, x.2.2.2.1, true)
theorem vert_file {L : List PatV} {v : VidV} {r : RawV} (h : rawV L v = some r) : (vertD L v).2.2.1 = fileV L v := by
  unfold vertD vertV fileV
  rw [h, fileF_of h]; rfl
section
variable {w : World} {F : Nat → Prop} {g gm ge : Nat} {L : List PatV} {p : PatV} {k : Nat} {o : OpV}
theorem step_made (hL : GrOk L) (h0 : grE L p = 0) (hk : p.2.2[k]? = some o) (hm : makesO o = true) (h : GrCells w F g (L ++ [cutP p k]) gm ge) (hF : ∀ k, F k → k < w.heap.size) (hg : F g) {ob : Obj} {E E' : List (Value × Value)} (hE : VertsM (L ++ [cutP p k]) E) (hp : E.Pairwise fun p q => p.1 ≠ q.1) (hl : E.length ≤ opsN (L ++ [cutP p k]))
    (hput : PutL E (.agg (encV (vidOf p.1 (k : Int))).toArray) (.agg (encX (madeX p k o)).toArray) E') (hM : MapIs Tryz.prog 120 (setBlock w gm ob) gm E') : GraphM (setBlock w gm ob) F g (L ++ [cutP p (k + 1)]) ∧ Kept F w (setBlock w gm ob) := by
  have h200 := (patB_parts (grE_zero h0).1).2.2.1
  have hlt := (List.getElem?_eq_some_iff.1 hk).1
  have h4 : o.1.val ≠ 4 := by unfold makesO at hm; have := of_decide_eq_true hm; omega
  refine h.setM hF hg hM (hE.put hp hput fun u => vert_made hL (hL.hasnt (grE_zero h0).2.1) (fun j x hj => gr_one h0 hj) hk (by omega) hm u) ?_ (by rw [vecL_cut, vecL_cut]) (fun x => ?_) (fun x hx => edge_file hL h0 hx (Nat.le_succ k)) (by rw [opsN_cut hk]; omega)
  · rw [opsN_cut hk]
    have := hput.len
    omega
  · rw [edgesOf_cut hk]
    exact ⟨fun h => h.elim id (fun h => absurd h.1 h4), .inl⟩
theorem step_kill (hL : GrOk L) (h0 : grE L p = 0) (hk : p.2.2[k]? = some o) (h5 : o.1.val = 5) (h : GrCells w F g (L ++ [cutP p k]) gm ge) (hF : ∀ k, F k → k < w.heap.size) (hg : F g) {ob : Obj} {E E' : List (Value × Value)} (hE : VertsM (L ++ [cutP p k]) E) (hp : E.Pairwise fun p q => p.1 ≠ q.1) (hl : E.length ≤ opsN (L ++ [cutP p k]))
    (hput : PutL E (.agg (encV o.2.1).toArray) (.agg (encX (killX (vertD (L ++ [cutP p k]) o.2.1))).toArray) E') (hM : MapIs Tryz.prog 120 (setBlock w gm ob) gm E') : GraphM (setBlock w gm ob) F g (L ++ [cutP p (k + 1)]) ∧ Kept F w (setBlock w gm ob) := by
  obtain ⟨r, _, hr⟩ := ref_cut h0 hk (at_kill h5) (Nat.le_refl k)
  refine h.setM hF hg hM (hE.put hp hput fun u => ?_) ?_ (by rw [vecL_cut, vecL_cut]) (fun x => ?_) (fun x hx => edge_file hL h0 hx (Nat.le_succ k)) (by rw [opsN_cut hk]; omega)
  · rw [vert_kill hk h5]
    by_cases e : u = o.2.1
    · rw [if_pos e, if_pos e, e, vert_at hr]; rfl
    · rw [if_neg e, if_neg e]
  · rw [opsN_cut hk]
    have := hput.len
    omega
  · rw [edgesOf_cut hk]
    exact ⟨fun h => h.elim id (fun h => absurd h.1 (by omega)), .inl⟩
theorem step_edge (hL : GrOk L) (h0 : grE L p = 0) (hk : p.2.2[k]? = some o) (h4 : o.1.val = 4) (h : GrCells w F g (L ++ [cutP p k]) gm ge) (hF : ∀ k, F k → k < w.heap.size) (hg : F g) {ob : Obj} {E E' : List (Value × Value)} (hE : EdgesM (L ++ [cutP p k]) E) (hp : E.Pairwise fun p q => p.1 ≠ q.1) (hl : E.length ≤ opsN (L ++ [cutP p k]))
    (hput : PutL E (.agg (encE (o.2.1, o.2.2.1)).toArray) (.agg (encV (vertD (L ++ [cutP p k]) o.2.1).2.2.1).toArray) E') (hM : MapIs Tryz.prog 137 (setBlock w ge ob) ge E') : GraphM (setBlock w ge ob) F g (L ++ [cutP p (k + 1)]) ∧ Kept F w (setBlock w ge ob) := by
  obtain ⟨r, hr0, hr⟩ := ref_cut h0 hk (at_ref h4).1 (Nat.le_refl k)
  obtain ⟨r', hr0', hr'⟩ := ref_cut h0 hk (at_ref h4).1 (Nat.le_succ k)
  have e : (vertD (L ++ [cutP p k]) o.2.1).2.2.1 = fileV (L ++ [cutP p (k + 1)]) o.2.1 := by
    rw [vert_file hr]
    unfold fileV
    rw [hr0] at hr0'
    obtain rfl := Option.some.inj hr0'
    rw [fileF_of hr, fileF_of hr']
  rw [e] at hput
  refine h.setE hF hg hM (hE.put (e := (o.2.1, o.2.2.1)) hp hput (fun x => ?_) (fun x hx => edge_file hL h0 hx (Nat.le_succ k))) ?_ (by rw [vecL_cut, vecL_cut]) (fun v => vert_edge hk h4 v) (by rw [opsN_cut hk]; omega)
  · rw [edgesOf_cut hk]
    exact ⟨fun h => h.elim .inl (fun h => .inr h.2), fun h => h.elim .inl (fun h => .inr ⟨h4, h⟩)⟩
  · rw [opsN_cut hk]
    have := hput.len
    omega
end
end Go.Proofs.YtihggkmjalofiaaGreatDoor
