/- Texts of general use, one behind another. -/
import Derived.Test.YtihggkmjalofiaaGreatDoorIdxa
import Derived.Test.YtihggkmjalofiaaGreatDoorPaws

/- A graph is patches in the order of their coming: plain laws; no program in sight. -/
namespace Go.Proofs.YtihggkmjalofiaaGreatDoor
open Go.RowKit

/-- a vertex: its kind, its file, its text -/
abbrev RawV := Fin 256 × VidV × ByteArray
def makesO (o : OpV) : Bool := decide (1 ≤ o.1.val ∧ o.1.val ≤ 3)
theorem makesO_eq (o : OpV) : makesB ((o.1.val : Nat) : Int) = makesO o := by
 unfold makesB makesO
 rw [Bool.eq_iff_iff]
 simp only [Bool.and_eq_true, decide_eq_true_eq]
 omega
def rawO (o : OpV) (v : VidV) : RawV := (o.1, (if o.1.val = 1 then v else o.2.1), o.2.2.2)
def rawP (p : PatV) (v : VidV) : Option RawV :=
 if p.1 = v.1 then (match p.2.2[v.2.val]? with | some o => if makesO o = true then some (rawO o v) else none | none => none) else none
def rawV (L : List PatV) (v : VidV) : Option RawV := L.findSome? fun p => rawP p v
def killO (v : VidV) (o : OpV) : Bool := decide (o.1.val = 5) && decide (o.2.1 = v)
def deadP (p : PatV) (v : VidV) : Bool := p.2.2.any (killO v)
def deadV (L : List PatV) (v : VidV) : Bool := L.any fun p => deadP p v
/-- a vertex with its name, and whether it is dead -/
abbrev VertV := VidV × Fin 256 × VidV × ByteArray × Bool
def vertV (L : List PatV) (v : VidV) : Option VertV := (rawV L v).map fun r => (v, r.1, r.2.1, r.2.2, deadV L v)
def zeroVert : VertV := (vid0, 0, vid0, ByteArray.empty, false)
def vertD (L : List PatV) (v : VidV) : VertV := (vertV L v).getD zeroVert
def kindIs (f : VidV → Option RawV) (v : VidV) (k : Nat) : Bool := match f v with | some a => decide (a.1.val = k) | none => false
def fileF (f : VidV → Option RawV) (v : VidV) : VidV := match f v with | some a => a.2.1 | none => vid0
/-- are the vertices that an operation names there, and of the kinds that it takes? -/
def refB (f : VidV → Option RawV) (o : OpV) : Bool :=
 if o.1.val = 2 ∨ o.1.val = 3 then kindIs f o.2.1 1
 else if o.1.val = 5 then (f o.2.1).isSome
 else if o.1.val = 4 then kindIs f o.2.1 3 && (kindIs f o.2.2.1 3 && decide (fileF f o.2.1 = fileF f o.2.2.1))
 else true
/-- the error of a patch that is applied -/
def grE (L : List PatV) (p : PatV) : Nat :=
 if patB p = true then
  if hasP (vecL L) p.1 = true then 7
  else if nextB (vecL L) p.1 = true then
   if p.2.1.all (hasP (vecL L)) = true then
    if p.2.2.all (refB (rawV (L ++ [p]))) = true then 0 else 10
   else 9
  else 9
 else 1
def grL (L : List PatV) (p : PatV) : List PatV := if grE L p = 0 then L ++ [p] else L
theorem grE_zero {L : List PatV} {p : PatV} (h : grE L p = 0) : patB p = true ∧ hasP (vecL L) p.1 = false ∧ nextB (vecL L) p.1 = true ∧ (∀ d ∈ p.2.1, hasP (vecL L) d = true) ∧ ∀ o ∈ p.2.2, refB (rawV (L ++ [p])) o = true := by
 unfold grE at h
 split at h
 ·rename_i h1
  split at h
  ·cases h
  ·rename_i h2
   split at h
   ·rename_i h3
    split at h
    ·rename_i h4
     split at h
     ·rename_i h5
      exact ⟨h1, by simpa using h2, h3, List.all_eq_true.1 h4, List.all_eq_true.1 h5⟩
     ·cases h
    ·cases h
   ·cases h
 ·cases h
inductive GrOk : List PatV → Prop
 | nil : GrOk []
 | snoc {L : List PatV} {p : PatV} : GrOk L → grE L p = 0 → GrOk (L ++ [p])
theorem GrOk.put {L : List PatV} (h : GrOk L) (p : PatV) : GrOk (grL L p) := by
 unfold grL
 split
 ·rename_i h0; exact h.snoc h0
 ·exact h
theorem grE_idx {L : List PatV} {p : PatV} (hL : IdxOk L) (h : grE L p = 0) : idxE L p = 0 := by
 obtain ⟨h1, h2, h3, h4, _⟩ := grE_zero h
 refine idxE_of h1 (findP_none.2 fun q hq e => ?_) h4 (by rw [putB_next h1]; exact h3)
 rw [(hL.has p.1).2 ⟨q, hq, e⟩] at h2; cases h2
theorem GrOk.idx {L : List PatV} (h : GrOk L) : IdxOk L := by
 induction h with
 | nil => exact .nil
 | snoc _ h0 ih => exact ih.snoc (grE_idx ih h0)
theorem rawP_name {p : PatV} {v : VidV} {r : RawV} (h : rawP p v = some r) : p.1 = v.1 := by
 unfold rawP at h
 split at h
 ·assumption
 ·cases h
theorem rawP_get {p : PatV} {v : VidV} {r : RawV} : rawP p v = some r ↔ p.1 = v.1 ∧ ∃ o, p.2.2[v.2.val]? = some o ∧ makesO o = true ∧ r = rawO o v := by
 unfold rawP
 constructor
 ·intro h
  split at h
  ·rename_i h1
   split at h
   ·rename_i o ho
    split at h
    ·rename_i hm
     exact ⟨h1, o, ho, hm, (Option.some.inj h).symm⟩
    ·cases h
   ·cases h
  ·cases h
 ·rintro ⟨h1, o, ho, hm, rfl⟩
  rw [if_pos h1, ho]
  simp only
  rw [if_pos hm]
theorem rawV_snoc (L : List PatV) (p : PatV) (v : VidV) : rawV (L ++ [p]) v = (rawV L v).or (rawP p v) := by
 unfold rawV
 rw [List.findSome?_append]
 simp
theorem rawV_mem {L : List PatV} {v : VidV} {r : RawV} (h : rawV L v = some r) : ∃ p ∈ L, rawP p v = some r := by
 unfold rawV at h
 exact List.exists_of_findSome?_eq_some h
theorem rawV_more {L : List PatV} {v : VidV} {r : RawV} (h : rawV L v = some r) (p : PatV) : rawV (L ++ [p]) v = some r := by rw [rawV_snoc, h]; rfl
/-- names once each: a vertex is of the patch of its name -/
theorem rawV_of {L : List PatV} (hn : (L.map (·.1)).Nodup) {p : PatV} (hp : p ∈ L) {v : VidV} (hv : p.1 = v.1) : rawV L v = rawP p v := by
 induction L with
 | nil => cases hp
 | cons q L ih =>
  rw [List.map_cons, List.nodup_cons] at hn
  unfold rawV
  rw [List.findSome?_cons]
  rcases List.mem_cons.1 hp with rfl | hp
  ·cases hr : rawP p v with
   | some r => rfl
   | none =>
    simp only
    rw [List.findSome?_eq_none_iff]
    intro x hx
    unfold rawP
    rw [if_neg]
    intro e
    exact hn.1 (List.mem_map.2 ⟨x, hx, e.trans hv.symm⟩)
  ·have hq : rawP q v = none := by
    unfold rawP
    rw [if_neg]
    intro e
    exact hn.1 (List.mem_map.2 ⟨p, hp, hv.trans e.symm⟩)
   rw [hq]
   exact ih hn.2 hp
theorem rawV_none {L : List PatV} {v : VidV} (h : ∀ p ∈ L, p.1 ≠ v.1) : rawV L v = none := by
 unfold rawV
 rw [List.findSome?_eq_none_iff]
 intro p hp
 unfold rawP
 rw [if_neg (h p hp)]
theorem GrOk.hasnt {L : List PatV} (h : GrOk L) {d : PidV} (hd : hasP (vecL L) d = false) : ∀ p ∈ L, p.1 ≠ d := fun p hp e => by
 rw [(h.idx.has d).2 ⟨p, hp, e⟩] at hd; cases hd
theorem kindIs_some {f : VidV → Option RawV} {v : VidV} {k : Nat} (h : kindIs f v k = true) : ∃ a, f v = some a ∧ a.1.val = k := by
 unfold kindIs at h
 split at h
 ·rename_i a ha; exact ⟨a, ha, of_decide_eq_true h⟩
 ·cases h
theorem refB_known {f : VidV → Option RawV} {o : OpV} (h : refB f o = true) : ∀ v ∈ refsO o, (f v).isSome = true := by
 intro v hv
 unfold refB at h
 unfold refsO at hv
 by_cases c1 : o.1.val = 2 ∨ o.1.val = 3
 ·rw [if_pos c1] at h
  rw [if_pos (by omega)] at hv
  obtain rfl := List.mem_singleton.1 hv
  obtain ⟨a, ha, _⟩ := kindIs_some h
  rw [ha]; rfl
 ·rw [if_neg c1] at h
  by_cases c5 : o.1.val = 5
  ·rw [if_pos c5] at h
   rw [if_pos (by omega)] at hv
   obtain rfl := List.mem_singleton.1 hv
   exact h
  ·rw [if_neg c5] at h
   by_cases c4 : o.1.val = 4
   ·rw [if_pos c4, Bool.and_eq_true, Bool.and_eq_true] at h
    rw [if_neg (by omega), if_pos c4] at hv
    obtain ⟨a, ha, _⟩ := kindIs_some h.1
    obtain ⟨b, hb, _⟩ := kindIs_some h.2.1
    simp only [List.mem_cons, List.not_mem_nil, or_false] at hv
    rcases hv with rfl | rfl
    ·rw [ha]; rfl
    ·rw [hb]; rfl
   ·rw [if_neg (by omega), if_neg c4] at hv
    cases hv
/-- what an operation names is there -/
theorem GrOk.known {L : List PatV} (h : GrOk L) : ∀ p ∈ L, ∀ o ∈ p.2.2, ∀ v ∈ refsO o, (rawV L v).isSome = true := by
 induction h with
 | nil => simp
 | @snoc L p hL h0 ih =>
  intro q hq o ho v hv
  rcases List.mem_append.1 hq with hq | hq
  ·have := ih q hq o ho v hv
   obtain ⟨r, hr⟩ := Option.isSome_iff_exists.1 this
   rw [rawV_more hr]; rfl
  ·obtain rfl := List.mem_singleton.1 hq
   exact refB_known ((grE_zero h0).2.2.2.2 o ho) v hv
theorem killO_ref {v : VidV} {o : OpV} (h : killO v o = true) : v ∈ refsO o := by
 unfold killO at h
 rw [Bool.and_eq_true, decide_eq_true_eq, decide_eq_true_eq] at h
 unfold refsO
 rw [if_pos (by omega), h.2]
 exact List.mem_singleton.2 rfl
theorem GrOk.dead_known {L : List PatV} (h : GrOk L) {v : VidV} (hd : deadV L v = true) : ∃ p ∈ L, p.1 = v.1 := by
 unfold deadV at hd
 obtain ⟨p, hp, h1⟩ := List.any_eq_true.1 hd
 unfold deadP at h1
 obtain ⟨o, ho, h2⟩ := List.any_eq_true.1 h1
 have := h.known p hp o ho v (killO_ref h2)
 obtain ⟨r, hr⟩ := Option.isSome_iff_exists.1 this
 obtain ⟨q, hq, h3⟩ := rawV_mem hr
 exact ⟨q, hq, rawP_name h3⟩
theorem GrOk.dead_new {L : List PatV} (h : GrOk L) {v : VidV} (hn : ∀ p ∈ L, p.1 ≠ v.1) : deadV L v = false := by
 cases hd : deadV L v
 ·rfl
 ·obtain ⟨p, hp, e⟩ := h.dead_known hd
  exact absurd e (hn p hp)

/-- a patch, its first operations alone -/
def cutP (p : PatV) (k : Nat) : PatV := (p.1, p.2.1, p.2.2.take k)
theorem cutP_all (p : PatV) {k : Nat} (h : p.2.2.length ≤ k) : cutP p k = p := by unfold cutP; rw [List.take_of_length_le h]
theorem take_get {α : Type} {l : List α} {k i : Nat} {x y : α} (hk : l[k]? = some x) : (l.take (k + 1))[i]? = some y ↔ (i = k ∧ y = x) ∨ (l.take k)[i]? = some y := by
 obtain ⟨hl, rfl⟩ := List.getElem?_eq_some_iff.1 hk
 rw [List.take_succ_eq_append_getElem hl]
 rcases Nat.lt_trichotomy i k with c | c | c
 ·rw [List.getElem?_append_left (by rw [List.length_take]; omega)]
  exact ⟨.inr, fun h => h.elim (fun h => by omega) id⟩
 ·subst c
  rw [List.getElem?_append_right (by rw [List.length_take]; omega)]
  have e : i - (l.take i).length = 0 := by rw [List.length_take]; omega
  rw [e]
  have e2 : (l.take i)[i]? = none := List.getElem?_eq_none (by rw [List.length_take]; omega)
  rw [e2]
  simp
  exact ⟨fun h => h.symm, fun h => h.symm⟩
 ·have e1 : ((l.take k) ++ [l[k]])[i]? = none := List.getElem?_eq_none (by rw [List.length_append, List.length_take, List.length_singleton]; omega)
  have e2 : (l.take k)[i]? = none := List.getElem?_eq_none (by rw [List.length_take]; omega)
  rw [e1, e2]
  simp; omega
theorem rawP_cut {p : PatV} {k : Nat} {o : OpV} (hk : p.2.2[k]? = some o) (v : VidV) (r : RawV) : rawP (cutP p (k + 1)) v = some r ↔ (p.1 = v.1 ∧ v.2.val = k ∧ makesO o = true ∧ r = rawO o v) ∨ rawP (cutP p k) v = some r := by
 rw [rawP_get, rawP_get]
 unfold cutP
 simp only
 constructor
 ·rintro ⟨h1, x, hx, h2, h3⟩
  rcases (take_get hk).1 hx with ⟨e1, rfl⟩ | hx
  ·exact .inl ⟨h1, e1, h2, h3⟩
  ·exact .inr ⟨h1, x, hx, h2, h3⟩
 ·rintro (⟨h1, h2, h3, h4⟩ | ⟨h1, x, hx, h2, h3⟩)
  ·exact ⟨h1, o, (take_get hk).2 (.inl ⟨h2, rfl⟩), h3, h4⟩
  ·exact ⟨h1, x, (take_get hk).2 (.inr hx), h2, h3⟩
theorem deadP_cut {p : PatV} {k : Nat} {o : OpV} (hk : p.2.2[k]? = some o) (v : VidV) : deadP (cutP p (k + 1)) v = (deadP (cutP p k) v || killO v o) := by
 obtain ⟨hl, rfl⟩ := List.getElem?_eq_some_iff.1 hk
 unfold deadP cutP
 simp only
 rw [List.take_succ_eq_append_getElem hl, List.any_append]
 simp
theorem deadV_snoc (L : List PatV) (p : PatV) (v : VidV) : deadV (L ++ [p]) v = (deadV L v || deadP p v) := by
 unfold deadV
 rw [List.any_append]
 simp
theorem vecL_cut (L : List PatV) (p : PatV) (k : Nat) : vecL (L ++ [cutP p k]) = vecL (L ++ [p]) := by rw [vecL_snoc, vecL_snoc]; rfl
theorem vidOf_eq {p : PatV} {v : VidV} (h1 : p.1 = v.1) : v = vidOf p.1 (v.2.val : Int) := by
 unfold vidOf
 refine Prod.ext h1.symm (Fin.ext ?_)
 have := v.2.isLt
 show v.2.val = (((v.2.val : Nat) : Int) % 256).toNat
 omega
theorem vidOf_n {d : PidV} {k : Nat} (h : k < 256) : (vidOf d (k : Int)).2.val = k := by
 unfold vidOf
 show ((k : Int) % 256).toNat = k
 omega
theorem rawV_cut_new {L : List PatV} {p : PatV} (hn : ∀ q ∈ L, q.1 ≠ p.1) {v : VidV} (hv : p.1 = v.1) (k : Nat) : rawV (L ++ [cutP p k]) v = rawP (cutP p k) v := by
 rw [rawV_snoc, rawV_none (fun q hq e => hn q hq (e.trans hv.symm))]
 simp
/-- an operation that makes a vertex -/
theorem vert_made {L : List PatV} (hL : GrOk L) {p : PatV} (hn : ∀ q ∈ L, q.1 ≠ p.1) (hg : ∀ (k : Nat) o, p.2.2[k]? = some o → goodO p.1 k o = true) {k : Nat} {o : OpV} (hk : p.2.2[k]? = some o) (h256 : k < 256) (hm : makesO o = true) (v : VidV) :
  vertV (L ++ [cutP p (k + 1)]) v = if v = vidOf p.1 (k : Int) then some (vidOf p.1 (k : Int), o.1, (if o.1.val = 1 then vidOf p.1 (k : Int) else o.2.1), o.2.2.2, false) else vertV (L ++ [cutP p k]) v := by
 have hnk : ∀ u, killO u o = false := fun u => by
  unfold killO
  rw [decide_eq_false (by unfold makesO at hm; have := of_decide_eq_true hm; omega)]; rfl
 have hdead : deadV (L ++ [cutP p (k + 1)]) v = deadV (L ++ [cutP p k]) v := by rw [deadV_snoc, deadV_snoc, deadP_cut hk, hnk, Bool.or_false]
 by_cases hv : p.1 = v.1
 ·have hown : ∀ j, deadP (cutP p j) v = false := fun j => by
   unfold deadP cutP
   rw [List.any_eq_false]
   intro x hx hc
   simp only at hx
   obtain ⟨i, hi, e⟩ := List.getElem_of_mem hx
   rw [List.getElem_take] at e
   rw [List.length_take] at hi
   have hgo := hg i x (by rw [List.getElem?_eq_getElem (by omega), e])
   unfold killO at hc
   rw [Bool.and_eq_true, decide_eq_true_eq, decide_eq_true_eq] at hc
   exact goodO_kill hgo hc.1 (by rw [hc.2]; exact hv.symm)
  have hd0 : deadV (L ++ [cutP p k]) v = false := by rw [deadV_snoc, hown, hL.dead_new (fun q hq e => hn q hq (e.trans hv.symm))]; rfl
  unfold vertV
  rw [hdead, hd0, rawV_cut_new hn hv, rawV_cut_new hn hv]
  by_cases he : v = vidOf p.1 (k : Int)
  ·rw [if_pos he]
   have e1 : v.2.val = k := by rw [he]; exact vidOf_n h256
   have : rawP (cutP p (k + 1)) v = some (rawO o v) := (rawP_cut hk v _).2 (.inl ⟨hv, e1, hm, rfl⟩)
   rw [this]
   unfold rawO
   rw [he]
   rfl
  ·rw [if_neg he]
   have e1 : v.2.val ≠ k := fun e => he (by rw [vidOf_eq hv, e])
   have : rawP (cutP p (k + 1)) v = rawP (cutP p k) v := by
    apply Option.ext
    intro r
    rw [rawP_cut hk]
    exact ⟨fun h => h.elim (fun h => absurd h.2.1 e1) id, .inr⟩
   rw [this]
 ·have he : v ≠ vidOf p.1 (k : Int) := fun e => hv (by rw [e]; rfl)
  rw [if_neg he]
  unfold vertV
  rw [hdead, rawV_snoc, rawV_snoc]
  have : ∀ j, rawP (cutP p j) v = none := fun j => by unfold rawP; rw [if_neg]; exact hv
  rw [this, this]
theorem rawP_not {p : PatV} {k : Nat} {o : OpV} (hk : p.2.2[k]? = some o) (hm : makesO o = false) (v : VidV) : rawP (cutP p (k + 1)) v = rawP (cutP p k) v := by
 apply Option.ext
 intro r
 rw [rawP_cut hk]
 exact ⟨fun h => h.elim (fun h => by rw [h.2.2.1] at hm; cases hm) id, .inr⟩
/-- an operation that makes nothing, and kills nothing -/
theorem vert_edge {L : List PatV} {p : PatV} {k : Nat} {o : OpV} (hk : p.2.2[k]? = some o) (h4 : o.1.val = 4) (v : VidV) : vertV (L ++ [cutP p (k + 1)]) v = vertV (L ++ [cutP p k]) v := by
 unfold vertV
 have : killO v o = false := by unfold killO; rw [decide_eq_false (by omega)]; rfl
 rw [rawV_snoc, rawV_snoc, rawP_not hk (by unfold makesO; exact decide_eq_false (by omega)), deadV_snoc, deadV_snoc, deadP_cut hk, this, Bool.or_false]
/-- an operation that kills -/
theorem vert_kill {L : List PatV} {p : PatV} {k : Nat} {o : OpV} (hk : p.2.2[k]? = some o) (h5 : o.1.val = 5) (v : VidV) : vertV (L ++ [cutP p (k + 1)]) v = if v = o.2.1 then (vertV (L ++ [cutP p k]) v).map (fun x => (x.1, x.2.1, x.2.2.1, x.2.2.2.1, true)) else vertV (L ++ [cutP p k]) v := by
 unfold vertV
 rw [rawV_snoc, rawV_snoc, rawP_not hk (by unfold makesO; exact decide_eq_false (by omega)), deadV_snoc, deadV_snoc, deadP_cut hk]
 by_cases e : v = o.2.1
 ·rw [if_pos e]
  have : killO v o = true := by unfold killO; rw [decide_eq_true h5, decide_eq_true e.symm]; rfl
  rw [this, Bool.or_true, Bool.or_true, Option.map_map]
  rfl
 ·rw [if_neg e]
  have : killO v o = false := by unfold killO; rw [decide_eq_true h5, decide_eq_false (fun c => e c.symm)]; rfl
  rw [this, Bool.or_false]

/-! Steps -/
abbrev EdgeV := VidV × VidV
def edgeO (o : OpV) : Option EdgeV := if o.1.val = 4 then some (o.2.1, o.2.2.1) else none
def edgesP (p : PatV) : List EdgeV := p.2.2.filterMap edgeO
def edgesOf (L : List PatV) : List EdgeV := L.flatMap edgesP
def fileV (L : List PatV) (v : VidV) : VidV := fileF (rawV L) v
theorem edgesOf_snoc (L : List PatV) (p : PatV) : edgesOf (L ++ [p]) = edgesOf L ++ edgesP p := by
 unfold edgesOf; rw [List.flatMap_append]; simp
theorem edgesP_cut {p : PatV} {k : Nat} {o : OpV} (hk : p.2.2[k]? = some o) : edgesP (cutP p (k + 1)) = edgesP (cutP p k) ++ (edgeO o).toList := by
 obtain ⟨hl, rfl⟩ := List.getElem?_eq_some_iff.1 hk
 unfold edgesP cutP
 simp only
 rw [List.take_succ_eq_append_getElem hl, List.filterMap_append]
 cases h : edgeO p.2.2[k] <;> simp [h]

/-! All vertices -/
def idsP (p : PatV) : List VidV := (List.range p.2.2.length).filterMap fun (i : Nat) => match p.2.2[i]? with | some o => if makesO o = true then some (vidOf p.1 ((i : Nat) : Int)) else none | none => none
def idsOf (L : List PatV) : List VidV := L.flatMap idsP
def idsL (L : List PatV) : List VidV := setK keyV (idsOf L)
def vertsL (L : List PatV) : List VertV := (idsL L).map (vertD L)
theorem idsP_mem {p : PatV} (h : p.2.2.length ≤ 256) (v : VidV) : v ∈ idsP p ↔ (rawP p v).isSome = true := by
 unfold idsP
 rw [List.mem_filterMap, Option.isSome_iff_exists]
 constructor
 ·rintro ⟨i, hi, e⟩
  have hi := List.mem_range.1 hi
  rw [List.getElem?_eq_getElem hi] at e
  simp only at e
  split at e
  ·rename_i hm
   obtain rfl := Option.some.inj e
   exact ⟨_, rawP_get.2 ⟨rfl, p.2.2[i], by rw [vidOf_n (by omega), List.getElem?_eq_getElem hi], hm, rfl⟩⟩
  ·cases e
 ·rintro ⟨r, hr⟩
  obtain ⟨h1, o, ho, hm, _⟩ := rawP_get.1 hr
  refine ⟨v.2.val, List.mem_range.2 (List.getElem?_eq_some_iff.1 ho).1, ?_⟩
  rw [ho]
  simp only
  rw [if_pos hm, ← vidOf_eq h1]
theorem GrOk.good {L : List PatV} (h : GrOk L) : ∀ p ∈ L, patB p = true := h.idx.good
theorem GrOk.few {L : List PatV} (h : GrOk L) {p : PatV} (hp : p ∈ L) : p.2.2.length ≤ 200 := (patB_parts (h.good p hp)).2.2.1
theorem GrOk.raw {L : List PatV} (h : GrOk L) {v : VidV} {r : RawV} : rawV L v = some r ↔ ∃ p ∈ L, rawP p v = some r := by
 constructor
 ·exact rawV_mem
 ·rintro ⟨p, hp, hr⟩
  rw [rawV_of h.idx.nodup hp (rawP_name hr), hr]
theorem GrOk.ids {L : List PatV} (h : GrOk L) (v : VidV) : v ∈ idsL L ↔ (rawV L v).isSome = true := by
 unfold idsL idsOf
 rw [setK_mem keyV_inj, List.mem_flatMap, Option.isSome_iff_exists]
 constructor
 ·rintro ⟨p, hp, hv⟩
  obtain ⟨r, hr⟩ := Option.isSome_iff_exists.1 ((idsP_mem (by have := h.few hp; omega) v).1 hv)
  exact ⟨r, h.raw.2 ⟨p, hp, hr⟩⟩
 ·rintro ⟨r, hr⟩
  obtain ⟨p, hp, e⟩ := h.raw.1 hr
  exact ⟨p, hp, (idsP_mem (by have := h.few hp; omega) v).2 (by rw [e]; rfl)⟩
theorem vertD_id {L : List PatV} {v : VidV} (h : (rawV L v).isSome = true) : (vertD L v).1 = v := by
 obtain ⟨r, hr⟩ := Option.isSome_iff_exists.1 h
 unfold vertD vertV
 rw [hr]; rfl
theorem vertD_some {L : List PatV} {v : VidV} {x : VertV} (h : vertV L v = some x) : vertD L v = x := by unfold vertD; rw [h]; rfl
theorem vertV_id {L : List PatV} {v : VidV} {x : VertV} (h : vertV L v = some x) : x.1 = v := by
 unfold vertV at h
 cases hr : rawV L v with
 | none => rw [hr] at h; cases h
 | some r => rw [hr] at h; rw [← Option.some.inj h]
theorem GrOk.verts {L : List PatV} (h : GrOk L) (x : VertV) : x ∈ vertsL L ↔ vertV L x.1 = some x := by
 unfold vertsL
 rw [List.mem_map]
 constructor
 ·rintro ⟨v, hv, rfl⟩
  have hs := (h.ids v).1 hv
  rw [vertD_id hs]
  obtain ⟨r, hr⟩ := Option.isSome_iff_exists.1 hs
  unfold vertD vertV
  rw [hr]; rfl
 ·intro hx
  refine ⟨x.1, (h.ids x.1).2 ?_, vertD_some hx⟩
  unfold vertV at hx
  cases hr : rawV L x.1 with
  | none => rw [hr] at hx; cases hx
  | some r => rfl
def keyX (x : VertV) : Int := keyV x.1
theorem GrOk.verts_rise {L : List PatV} (h : GrOk L) : RiseK keyX (vertsL L) := by
 unfold vertsL RiseK
 rw [List.pairwise_map]
 refine (setK_rise keyV_inj (idsOf L)).imp_of_mem fun {a b} ha hb hab => ?_
 unfold keyX
 rw [vertD_id ((h.ids a).1 ha), vertD_id ((h.ids b).1 hb)]
 exact hab
/-- sorted by their names, each once, and the same ones: the same -/
theorem rise_eqX {a b : List VertV} (ha : RiseK keyX a) (hb : RiseK keyX b) (h : ∀ z, z ∈ a ↔ z ∈ b) : a = b := rise_eq ha hb h
def opsN (L : List PatV) : Nat := (L.map fun p => p.2.2.length).sum
theorem opsN_snoc (L : List PatV) (p : PatV) : opsN (L ++ [p]) = opsN L + p.2.2.length := by unfold opsN; simp
theorem GrOk.opsN {L : List PatV} (h : GrOk L) : opsN L ≤ 200 * L.length := by
 induction h with
 | nil => simp [Proofs.YtihggkmjalofiaaGreatDoor.opsN]
 | @snoc L p hL h0 ih =>
  rw [opsN_snoc, List.length_append, List.length_singleton]
  have := (patB_parts (grE_zero h0).1).2.2.1
  omega
end Go.Proofs.YtihggkmjalofiaaGreatDoor

/- The same patches make the same graph, in whichever order they come; what is applied hangs together: plain laws; no program in sight. -/
namespace Go.Proofs.YtihggkmjalofiaaGreatDoor
open Go.RowKit

theorem fileF_of {f : VidV → Option RawV} {v : VidV} {r : RawV} (h : f v = some r) : fileF f v = r.2.1 := by unfold fileF; rw [h]
/-- nothing more can be applied -/
def Satur (L l : List PatV) : Prop := ∀ p ∈ l, grE L p ≠ 0
/-- patches that are applied one behind another -/
def runG (L : List PatV) (l : List PatV) : List PatV := l.foldl grL L
theorem runG_snoc (L : List PatV) {l : List PatV} {k : Nat} {p : PatV} (h : l[k]? = some p) : runG L (l.take (k + 1)) = grL (runG L (l.take k)) p := by
 obtain ⟨hk, rfl⟩ := List.getElem?_eq_some_iff.1 h
 unfold runG
 rw [List.take_succ_eq_append_getElem hk, List.foldl_append]; rfl
theorem grL_len (L : List PatV) (p : PatV) : L.length ≤ (grL L p).length ∧ ((grL L p).length = L.length → grE L p ≠ 0 ∧ grL L p = L) := by
 unfold grL
 by_cases h : grE L p = 0
 ·rw [if_pos h]; exact ⟨by simp, fun e => by simp at e⟩
 ·rw [if_neg h]; exact ⟨Nat.le_refl _, fun _ => ⟨h, rfl⟩⟩
theorem runG_len (l : List PatV) : ∀ L, L.length ≤ (runG L l).length ∧ ((runG L l).length = L.length → Satur L l ∧ runG L l = L) := by
 induction l with
 | nil => intro L; exact ⟨Nat.le_refl _, fun _ => ⟨fun p hp => (by cases hp), rfl⟩⟩
 | cons p l ih =>
  intro L
  obtain ⟨i1, i2⟩ := ih (grL L p)
  obtain ⟨g1, g2⟩ := grL_len L p
  refine ⟨Nat.le_trans g1 i1, fun e => ?_⟩
  have e1 : (runG (grL L p) l).length = L.length := e
  obtain ⟨g3, g4⟩ := g2 (by omega)
  rw [g4] at i2 e1
  obtain ⟨s1, s2⟩ := i2 e1
  refine ⟨fun q hq => ?_, by show runG (grL L p) l = L; rw [g4]; exact s2⟩
  rcases List.mem_cons.1 hq with rfl | hq
  ·exact g3
  ·exact s1 q hq
theorem edgesOf_mem {L : List PatV} {e : EdgeV} : e ∈ edgesOf L ↔ ∃ p ∈ L, ∃ o ∈ p.2.2, o.1.val = 4 ∧ e = (o.2.1, o.2.2.1) := by
 unfold edgesOf edgesP
 rw [List.mem_flatMap]
 constructor
 ·rintro ⟨p, hp, h⟩
  obtain ⟨o, ho, h1⟩ := List.mem_filterMap.1 h
  unfold edgeO at h1
  split at h1
  ·rename_i h4; exact ⟨p, hp, o, ho, h4, (Option.some.inj h1).symm⟩
  ·cases h1
 ·rintro ⟨p, hp, o, ho, h4, rfl⟩
  exact ⟨p, hp, List.mem_filterMap.2 ⟨o, ho, by unfold edgeO; rw [if_pos h4]⟩⟩
end Go.Proofs.YtihggkmjalofiaaGreatDoor
