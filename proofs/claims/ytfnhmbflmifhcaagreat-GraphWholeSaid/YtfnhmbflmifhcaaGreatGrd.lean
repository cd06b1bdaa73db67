/- A graph's memory from operation to operation of a patch: what the maps hold. No program in sight but its types. -/
import Derived.Test.YtfnhmbflmifhcaaGreatGrb
import Derived.Test.YtfnhmbflmifhcaaGreatGrc
namespace Go.Proofs.YtfnhmbflmifhcaaGreat
open Go.RowKit
open Go.ChangeMaps (setBlock)

theorem raw_cut {L : List PatV} {p : PatV} {k : Nat} {v : VidV} {r : RawV} (h : rawV (L ++ [p]) v = some r) (hk : v.1 = p.1 → v.2.val < k) : rawV (L ++ [cutP p k]) v = some r := by
  rw [rawV_snoc] at h ⊢
  cases hl : rawV L v with
  | some s => rw [hl] at h; exact h
  | none =>
    rw [hl] at h
    have h2 : rawP p v = some r := h
    obtain ⟨h1, o, ho, hm, rfl⟩ := rawP_get.1 h2
    show rawP (cutP p k) v = _
    refine rawP_get.2 ⟨h1, o, ?_, hm, rfl⟩
    unfold cutP
    simp only
    rw [List.getElem?_take_of_lt (hk h1.symm)]
    exact ho
theorem gr_one {L : List PatV} {p : PatV} (h0 : grE L p = 0) {k : Nat} {o : OpV} (ho : p.2.2[k]? = some o) : goodO p.1 k o = true := (oneR_parts ((patB_parts (grE_zero h0).1).2.2.2 k o ho)).1
/-- what an operation names is there when its turn has come -/
theorem ref_cut {L : List PatV} {p : PatV} (h0 : grE L p = 0) {k : Nat} {o : OpV} (ho : p.2.2[k]? = some o) {v : VidV} (hv : v ∈ refsO o) {j : Nat} (hj : k ≤ j) : ∃ r, rawV (L ++ [p]) v = some r ∧ rawV (L ++ [cutP p j]) v = some r := by
  have hk := refB_known ((grE_zero h0).2.2.2.2 o (List.mem_of_getElem? ho)) v hv
  obtain ⟨r, hr⟩ := Option.isSome_iff_exists.1 hk
  have hg := goodO_refs (gr_one h0 ho) v hv
  exact ⟨r, hr, raw_cut hr fun e => by have := hg e; omega⟩
theorem edgesOf_cut {L : List PatV} {p : PatV} {k : Nat} {o : OpV} (hk : p.2.2[k]? = some o) (x : EdgeV) : x ∈ edgesOf (L ++ [cutP p (k + 1)]) ↔ x ∈ edgesOf (L ++ [cutP p k]) ∨ (o.1.val = 4 ∧ x = (o.2.1, o.2.2.1)) := by
  rw [edgesOf_snoc, edgesOf_snoc, edgesP_cut hk, List.mem_append, List.mem_append, List.mem_append, or_assoc]
  unfold edgeO
  by_cases h4 : o.1.val = 4
  · rw [if_pos h4]; simp [h4]
  · rw [if_neg h4]; simp [h4]
theorem at_ref {o : OpV} (h : o.1.val = 4) : o.2.1 ∈ refsO o ∧ o.2.2.1 ∈ refsO o := by
  unfold refsO
  rw [if_neg (by omega), if_pos h]
  simp
theorem at_kill {o : OpV} (h : o.1.val = 5) : o.2.1 ∈ refsO o := by
  unfold refsO
  rw [if_pos (by omega)]
  simp
theorem edge_file {L : List PatV} (hL : GrOk L) {p : PatV} (h0 : grE L p = 0) {k : Nat} {x : EdgeV} (hx : x ∈ edgesOf (L ++ [cutP p k])) {j : Nat} (hj : k ≤ j) : fileV (L ++ [cutP p j]) x.1 = fileV (L ++ [cutP p k]) x.1 := by
  obtain ⟨q, hq, o, ho, h4, rfl⟩ := edgesOf_mem.1 hx
  unfold fileV
  rcases List.mem_append.1 hq with hq | hq
  · have := hL.known q hq o ho _ (at_ref h4).1
    obtain ⟨r, hr⟩ := Option.isSome_iff_exists.1 this
    rw [fileF_of (rawV_more hr _), fileF_of (rawV_more hr _)]
  · obtain rfl := List.mem_singleton.1 hq
    obtain ⟨i, hi, e⟩ := List.getElem_of_mem ho
    unfold cutP at hi e
    simp only at hi e
    rw [List.getElem_take] at e
    rw [List.length_take] at hi
    have hi2 : p.2.2[i]? = some o := by rw [List.getElem?_eq_getElem (by omega), e]
    obtain ⟨r, _, h1⟩ := ref_cut h0 hi2 (at_ref h4).1 (j := j) (by omega)
    obtain ⟨r', _, h2⟩ := ref_cut h0 hi2 (at_ref h4).1 (j := k) (by omega)
    have e1 := raw_cut (k := j) ‹rawV (L ++ [p]) o.2.1 = some r› (fun e => by have := goodO_refs (gr_one h0 hi2) _ (at_ref h4).1 e; omega)
    have e2 := raw_cut (k := k) ‹rawV (L ++ [p]) o.2.1 = some r› (fun e => by have := goodO_refs (gr_one h0 hi2) _ (at_ref h4).1 e; omega)
    rw [fileF_of e1, fileF_of e2]
theorem opsN_cut {L : List PatV} {p : PatV} {k : Nat} {o : OpV} (hk : p.2.2[k]? = some o) : opsN (L ++ [cutP p (k + 1)]) = opsN (L ++ [cutP p k]) + 1 := by
  have := (List.getElem?_eq_some_iff.1 hk).1
  rw [opsN_snoc, opsN_snoc]
  unfold cutP
  simp only [List.length_take]
  omega
section
variable {w : World} {F : Nat → Prop} {g gm ge : Nat} {L L' : List PatV}
/-- the vertices' map is written -/
theorem GrCells.setM (h : GrCells w F g L gm ge) (hF : ∀ k, F k → k < w.heap.size) (hg : F g) {o : Obj} {E' : List (Value × Value)} (hm : MapIs Tryz.prog 43 (setBlock w gm o) gm E') (hv : VertsM L' E') (hl : E'.length ≤ opsN L') (h1 : vecL L' = vecL L) (h2 : ∀ x, x ∈ edgesOf L' ↔ x ∈ edgesOf L) (h3 : ∀ x ∈ edgesOf L, fileV L' x.1 = fileV L x.1) (h4 : opsN L ≤ opsN L') :
    GraphM (setBlock w gm o) F g L' ∧ Kept F w (setBlock w gm o) := by
  obtain ⟨f1, f2, f3, f4, f5⟩ := h.inF
  obtain ⟨Ee, m1, m2, m3⟩ := h.emap
  have kep : Kept F w (setBlock w gm o) := Kept.setBlock (Kept.refl _ _) (.inl f1) o
  refine ⟨⟨fun k hk => Nat.lt_of_lt_of_le (hF k hk) kep.size, hg, gm, ge, E', Ee, ?_, h.inF, hm, m1.keep (setBlock_other (Ne.symm f5)), hv, m2.same h2 h3, hl, by omega⟩, kep⟩
  rw [h1]
  exact h.blk.setBlock f3 o
/-- the steps' map is written -/
theorem GrCells.setE (h : GrCells w F g L gm ge) (hF : ∀ k, F k → k < w.heap.size) (hg : F g) {o : Obj} {E' : List (Value × Value)} (hm : MapIs Tryz.prog 64 (setBlock w ge o) ge E') (hv : EdgesM L' E') (hl : E'.length ≤ opsN L') (h1 : vecL L' = vecL L) (h2 : ∀ v, vertV L' v = vertV L v) (h4 : opsN L ≤ opsN L') :
    GraphM (setBlock w ge o) F g L' ∧ Kept F w (setBlock w ge o) := by
  obtain ⟨f1, f2, f3, f4, f5⟩ := h.inF
  obtain ⟨E, m1, m2, m3⟩ := h.map
  have kep : Kept F w (setBlock w ge o) := Kept.setBlock (Kept.refl _ _) (.inl f2) o
  refine ⟨⟨fun k hk => Nat.lt_of_lt_of_le (hF k hk) kep.size, hg, gm, ge, E, E', ?_, h.inF, m1.keep (setBlock_other f5), hm, m2.same h2, hv, by omega, hl⟩, kep⟩
  rw [h1]
  exact h.blk.setBlock f4 o
end
/-- the vertex that an operation makes, as the program builds it -/
def madeX (p : PatV) (k : Nat) (o : OpV) : VertV := (vidOf p.1 (k : Int), o.1, (if o.1.val = 1 then vidOf p.1 (k : Int) else o.2.1), o.2.2.2, false)
theorem vert_at {L : List PatV} {v : VidV} {r : RawV} (h : rawV L v = some r) : vertV L v = some (vertD L v) := by
  unfold vertD vertV
  rw [h]; rfl
def killX (x : VertV) : VertV := (x.1, x.2.1, x.2.2.1, x.2.2.2.1, true)
theorem vert_file {L : List PatV} {v : VidV} {r : RawV} (h : rawV L v = some r) : (vertD L v).2.2.1 = fileV L v := by
  unfold vertD vertV fileV
  rw [h, fileF_of h]; rfl
section
variable {w : World} {F : Nat → Prop} {g gm ge : Nat} {L : List PatV} {p : PatV} {k : Nat} {o : OpV}
theorem step_made (hL : GrOk L) (h0 : grE L p = 0) (hk : p.2.2[k]? = some o) (hm : makesO o = true) (h : GrCells w F g (L ++ [cutP p k]) gm ge) (hF : ∀ k, F k → k < w.heap.size) (hg : F g) {ob : Obj} {E E' : List (Value × Value)} (hE : VertsM (L ++ [cutP p k]) E) (hp : E.Pairwise fun p q => p.1 ≠ q.1) (hl : E.length ≤ opsN (L ++ [cutP p k]))
    (hput : PutL E (.agg (encV (vidOf p.1 (k : Int))).toArray) (.agg (encX (madeX p k o)).toArray) E') (hM : MapIs Tryz.prog 43 (setBlock w gm ob) gm E') : GraphM (setBlock w gm ob) F g (L ++ [cutP p (k + 1)]) ∧ Kept F w (setBlock w gm ob) := by
  have h200 := (patB_parts (grE_zero h0).1).2.2.1
  have hlt := (List.getElem?_eq_some_iff.1 hk).1
  have h4 : o.1.val ≠ 4 := by unfold makesO at hm; have := of_decide_eq_true hm; omega
  refine h.setM hF hg hM (hE.put hp hput fun u => vert_made hL (hL.hasnt (grE_zero h0).2.1) (fun j x hj => gr_one h0 hj) hk (by omega) hm u) ?_ (by rw [vecL_cut, vecL_cut]) (fun x => ?_) (fun x hx => edge_file hL h0 hx (Nat.le_succ k)) (by rw [opsN_cut hk]; omega)
  · rw [opsN_cut hk]
    have := hput.len
    omega
  · rw [edgesOf_cut hk]
    exact ⟨fun h => h.elim id (fun h => absurd h.1 h4), .inl⟩
theorem step_kill (hL : GrOk L) (h0 : grE L p = 0) (hk : p.2.2[k]? = some o) (h5 : o.1.val = 5) (h : GrCells w F g (L ++ [cutP p k]) gm ge) (hF : ∀ k, F k → k < w.heap.size) (hg : F g) {ob : Obj} {E E' : List (Value × Value)} (hE : VertsM (L ++ [cutP p k]) E) (hp : E.Pairwise fun p q => p.1 ≠ q.1) (hl : E.length ≤ opsN (L ++ [cutP p k]))
    (hput : PutL E (.agg (encV o.2.1).toArray) (.agg (encX (killX (vertD (L ++ [cutP p k]) o.2.1))).toArray) E') (hM : MapIs Tryz.prog 43 (setBlock w gm ob) gm E') : GraphM (setBlock w gm ob) F g (L ++ [cutP p (k + 1)]) ∧ Kept F w (setBlock w gm ob) := by
  obtain ⟨r, _, hr⟩ := ref_cut h0 hk (at_kill h5) (Nat.le_refl k)
  refine h.setM hF hg hM (hE.put hp hput fun u => ?_) ?_ (by rw [vecL_cut, vecL_cut]) (fun x => ?_) (fun x hx => edge_file hL h0 hx (Nat.le_succ k)) (by rw [opsN_cut hk]; omega)
  · rw [vert_kill hk h5]
    by_cases e : u = o.2.1
    · rw [if_pos e, if_pos e, e, vert_at hr]; rfl
    · rw [if_neg e, if_neg e]
  · rw [opsN_cut hk]
    have := hput.len
    omega
  · rw [edgesOf_cut hk]
    exact ⟨fun h => h.elim id (fun h => absurd h.1 (by omega)), .inl⟩
theorem step_edge (hL : GrOk L) (h0 : grE L p = 0) (hk : p.2.2[k]? = some o) (h4 : o.1.val = 4) (h : GrCells w F g (L ++ [cutP p k]) gm ge) (hF : ∀ k, F k → k < w.heap.size) (hg : F g) {ob : Obj} {E E' : List (Value × Value)} (hE : EdgesM (L ++ [cutP p k]) E) (hp : E.Pairwise fun p q => p.1 ≠ q.1) (hl : E.length ≤ opsN (L ++ [cutP p k]))
    (hput : PutL E (.agg (encE (o.2.1, o.2.2.1)).toArray) (.agg (encV (vertD (L ++ [cutP p k]) o.2.1).2.2.1).toArray) E') (hM : MapIs Tryz.prog 64 (setBlock w ge ob) ge E') : GraphM (setBlock w ge ob) F g (L ++ [cutP p (k + 1)]) ∧ Kept F w (setBlock w ge ob) := by
  obtain ⟨r, hr0, hr⟩ := ref_cut h0 hk (at_ref h4).1 (Nat.le_refl k)
  obtain ⟨r', hr0', hr'⟩ := ref_cut h0 hk (at_ref h4).1 (Nat.le_succ k)
  have e : (vertD (L ++ [cutP p k]) o.2.1).2.2.1 = fileV (L ++ [cutP p (k + 1)]) o.2.1 := by
    rw [vert_file hr]
    unfold fileV
    rw [hr0] at hr0'
    obtain rfl := Option.some.inj hr0'
    rw [fileF_of hr, fileF_of hr']
  rw [e] at hput
  refine h.setE hF hg hM (hE.put (e := (o.2.1, o.2.2.1)) hp hput (fun x => ?_) (fun x hx => edge_file hL h0 hx (Nat.le_succ k))) ?_ (by rw [vecL_cut, vecL_cut]) (fun v => vert_edge hk h4 v) (by rw [opsN_cut hk]; omega)
  · rw [edgesOf_cut hk]
    exact ⟨fun h => h.elim .inl (fun h => .inr h.2), fun h => h.elim .inl (fun h => .inr ⟨h4, h⟩)⟩
  · rw [opsN_cut hk]
    have := hput.len
    omega
end
end Go.Proofs.YtfnhmbflmifhcaaGreat
