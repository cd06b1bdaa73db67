/- Texts of general use, one behind another. -/
import Derived.Test.YtihggkmjalofiaaGreatDoorIdxa
import Derived.Test.YtihggkmjalofiaaGreatDoorPaws
import Derived.Test.YtihggkmjalofiaaGreatDoorVids
import Derived.Test.YtihggkmjalofiaaGreatDoorGen
import Derived.Test.YtihggkmjalofiaaGreatDoorSets
import Derived.Deep.RegionHeld3
import Derived.Deep.DeepCutAuto
import Derived.Test.YtihggkmjalofiaaGreatDoorIdxw
import Derived.Test.YtihggkmjalofiaaGreatDoorIdxz
import Derived.Test.YtihggkmjalofiaaGreatDoorSort
import Derived.Test.YtihggkmjalofiaaGreatDoorPats
import Derived.Test.YtihggkmjalofiaaGreatDoorLists
import Derived.Test.YtihggkmjalofiaaGreatDoorMasks
import Derived.Test.YtihggkmjalofiaaGreatDoorKinds
import Derived.Test.YtihggkmjalofiaaGreatDoorVecs

/- A graph is patches in the order of their coming: plain laws; no program in sight. -/
namespace Go.Proofs.YtihggkmjalofiaaGreatDoor
open Go.RowKit

/-- a vertex: its kind, its file, its text -/
abbrev RawV := Fin 256 × VidV × ByteArray
def makesO (o : OpV) : Bool := decide (1 ≤ o.1.val ∧ o.1.val ≤ 3)
def rawO (o : OpV) (v : VidV) : RawV := (o.1, (if o.1.val = 1 then v else o.2.1), o.2.2.2)
def rawP (p : PatV) (v : VidV) : Option RawV :=
  if p.1 = v.1 then (match p.2.2[v.2.val]? with | some o => if makesO o = true then some (rawO o v) else none | none => none) else none
def rawV (L : List PatV) (v : VidV) : Option RawV := L.findSome? fun p => rawP p v
def killO (v : VidV) (o : OpV) : Bool := decide (o.1.val = 5) && decide (o.2.1 = v)
def deadP (p : PatV) (v : VidV) : Bool := p.2.2.any (killO v)
def deadV (L : List PatV) (v : VidV) : Bool := L.any fun p => deadP p v
/-- a vertex with its name, and whether it is dead -/
abbrev VertV := VidV × Fin 256 × VidV × ByteArray × Bool
def vertV (L : List PatV) (v : VidV) : Option VertV := (rawV L v).map fun r => (v, r.1, r.2.1, r.2.2, deadV L v)
def zeroVert : VertV := (vid0, 0, vid0, ByteArray.empty, false)
def vertD (L : List PatV) (v : VidV) : VertV := (vertV L v).getD zeroVert
def kindIs (f : VidV → Option RawV) (v : VidV) (k : Nat) : Bool := match f v with | some a => decide (a.1.val = k) | none => false
def fileF (f : VidV → Option RawV) (v : VidV) : VidV := match f v with | some a => a.2.1 | none => vid0
/-- are the vertices that an operation names there, and of the kinds that it takes? -/
def refB (f : VidV → Option RawV) (o : OpV) : Bool :=
  if o.1.val = 2 ∨ o.1.val = 3 then kindIs f o.2.1 1
  else if o.1.val = 5 then (f o.2.1).isSome
  else if o.1.val = 4 then kindIs f o.2.1 3 && (kindIs f o.2.2.1 3 && decide (fileF f o.2.1 = fileF f o.2.2.1))
  else true
/-- the error of a patch that is applied -/
def grE (L : List PatV) (p : PatV) : Nat :=
  if patB p = true then
    if hasP (vecL L) p.1 = true then 7
    else if nextB (vecL L) p.1 = true then
      if p.2.1.all (hasP (vecL L)) = true then
        if p.2.2.all (refB (rawV (L ++ [p]))) = true then 0 else 10
      else 9
    else 9
  else 1
def grL (L : List PatV) (p : PatV) : List PatV := if grE L p = 0 then L ++ [p] else L
theorem grE_zero {L : List PatV} {p : PatV} (h : grE L p = 0) : patB p = true ∧ hasP (vecL L) p.1 = false ∧ nextB (vecL L) p.1 = true ∧ (∀ d ∈ p.2.1, hasP (vecL L) d = true) ∧ ∀ o ∈ p.2.2, refB (rawV (L ++ [p])) o = true := by
  unfold grE at h
  split at h
  · rename_i h1
    split at h
    · cases h
    · rename_i h2
      split at h
      · rename_i h3
        split at h
        · rename_i h4
          split at h
          · rename_i h5
            exact ⟨h1, by simpa using h2, h3, List.all_eq_true.1 h4, List.all_eq_true.1 h5⟩
          · cases h
        · cases h
      · cases h
  · cases h
inductive GrOk : List PatV → Prop
  | nil : GrOk []
  | snoc {L : List PatV} {p : PatV} : GrOk L → grE L p = 0 → GrOk (L ++ [p])
theorem GrOk.put {L : List PatV} (h : GrOk L) (p : PatV) : GrOk (grL L p) := by
  unfold grL
  split
  · rename_i h0; exact h.snoc h0
  · exact h
theorem grE_idx {L : List PatV} {p : PatV} (hL : IdxOk L) (h : grE L p = 0) : idxE L p = 0 := by
  obtain ⟨h1, h2, h3, h4, _⟩ := grE_zero h
  refine idxE_of h1 (findP_none.2 fun q hq e => ?_) h4 (by rw [putB_next h1]; exact h3)
  rw [(hL.has p.1).2 ⟨q, hq, e⟩] at h2; cases h2
theorem GrOk.idx {L : List PatV} (h : GrOk L) : IdxOk L := by
  induction h with
  | nil => exact .nil
  | snoc _ h0 ih => exact ih.snoc (grE_idx ih h0)
theorem rawV_snoc (L : List PatV) (p : PatV) (v : VidV) : rawV (L ++ [p]) v = (rawV L v).or (rawP p v) := by
  unfold rawV
  rw [List.findSome?_append]
  simp
theorem rawV_more {L : List PatV} {v : VidV} {r : RawV} (h : rawV L v = some r) (p : PatV) : rawV (L ++ [p]) v = some r := by rw [rawV_snoc, h]; rfl
theorem GrOk.hasnt {L : List PatV} (h : GrOk L) {d : PidV} (hd : hasP (vecL L) d = false) : ∀ p ∈ L, p.1 ≠ d := fun p hp e => by
  rw [(h.idx.has d).2 ⟨p, hp, e⟩] at hd; cases hd
theorem kindIs_some {f : VidV → Option RawV} {v : VidV} {k : Nat} (h : kindIs f v k = true) : ∃ a, f v = some a ∧ a.1.val = k := by
  unfold kindIs at h
  split at h
  · rename_i a ha; exact ⟨a, ha, of_decide_eq_true h⟩
  · cases h
theorem refB_known {f : VidV → Option RawV} {o : OpV} (h : refB f o = true) : ∀ v ∈ refsO o, (f v).isSome = true := by
  intro v hv
  unfold refB at h
  unfold refsO at hv
  by_cases c1 : o.1.val = 2 ∨ o.1.val = 3
  · rw [if_pos c1] at h
    rw [if_pos (by omega)] at hv
    obtain rfl := List.mem_singleton.1 hv
    obtain ⟨a, ha, _⟩ := kindIs_some h
    rw [ha]; rfl
  · rw [if_neg c1] at h
    by_cases c5 : o.1.val = 5
    · rw [if_pos c5] at h
      rw [if_pos (by omega)] at hv
      obtain rfl := List.mem_singleton.1 hv
      exact h
    · rw [if_neg c5] at h
      by_cases c4 : o.1.val = 4
      · rw [if_pos c4, Bool.and_eq_true, Bool.and_eq_true] at h
        rw [if_neg (by omega), if_pos c4] at hv
        obtain ⟨a, ha, _⟩ := kindIs_some h.1
        obtain ⟨b, hb, _⟩ := kindIs_some h.2.1
        simp only [List.mem_cons, List.not_mem_nil, or_false] at hv
        rcases hv with rfl | rfl
        · rw [ha]; rfl
        · rw [hb]; rfl
      · rw [if_neg (by omega), if_neg c4] at hv
        cases hv
/-- what an operation names is there -/
theorem GrOk.known {L : List PatV} (h : GrOk L) : ∀ p ∈ L, ∀ o ∈ p.2.2, ∀ v ∈ refsO o, (rawV L v).isSome = true := by
  induction h with
  | nil => simp
  | @snoc L p hL h0 ih =>
    intro q hq o ho v hv
    rcases List.mem_append.1 hq with hq | hq
    · have := ih q hq o ho v hv
      obtain ⟨r, hr⟩ := Option.isSome_iff_exists.1 this
      rw [rawV_more hr]; rfl
    · obtain rfl := List.mem_singleton.1 hq
      exact refB_known ((grE_zero h0).2.2.2.2 o ho) v hv
/-- a patch, its first operations alone -/
def cutP (p : PatV) (k : Nat) : PatV := (p.1, p.2.1, p.2.2.take k)
theorem deadV_snoc (L : List PatV) (p : PatV) (v : VidV) : deadV (L ++ [p]) v = (deadV L v || deadP p v) := by
  unfold deadV
  rw [List.any_append]
  simp
theorem vecL_cut (L : List PatV) (p : PatV) (k : Nat) : vecL (L ++ [cutP p k]) = vecL (L ++ [p]) := by rw [vecL_snoc, vecL_snoc]; rfl
abbrev EdgeV := VidV × VidV
def edgeO (o : OpV) : Option EdgeV := if o.1.val = 4 then some (o.2.1, o.2.2.1) else none
def edgesP (p : PatV) : List EdgeV := p.2.2.filterMap edgeO
def edgesOf (L : List PatV) : List EdgeV := L.flatMap edgesP
def keyE (e : EdgeV) : Int := keyV e.1 * 4294967296 + keyV e.2
theorem keyV_bd (v : VidV) : 0 ≤ keyV v ∧ keyV v < 4294967296 := by
  have := keyP_bd v.1
  have := v.2.isLt
  unfold keyV
  omega
theorem keyE_inj (x y : EdgeV) (h : keyE x = keyE y) : x = y := by
  unfold keyE at h
  have h1 := keyV_bd x.1
  have h2 := keyV_bd x.2
  have h3 := keyV_bd y.1
  have h4 := keyV_bd y.2
  exact Prod.ext (keyV_inj _ _ (by omega)) (keyV_inj _ _ (by omega))
def edgesL (L : List PatV) : List EdgeV := setK keyE (edgesOf L)
def fileV (L : List PatV) (v : VidV) : VidV := fileF (rawV L) v
theorem edgesOf_snoc (L : List PatV) (p : PatV) : edgesOf (L ++ [p]) = edgesOf L ++ edgesP p := by
  unfold edgesOf; rw [List.flatMap_append]; simp
theorem GrOk.good {L : List PatV} (h : GrOk L) : ∀ p ∈ L, patB p = true := h.idx.good
theorem GrOk.few {L : List PatV} (h : GrOk L) {p : PatV} (hp : p ∈ L) : p.2.2.length ≤ 200 := (patB_parts (h.good p hp)).2.2.1
theorem vertD_some {L : List PatV} {v : VidV} {x : VertV} (h : vertV L v = some x) : vertD L v = x := by unfold vertD; rw [h]; rfl
def opsN (L : List PatV) : Nat := (L.map fun p => p.2.2.length).sum
theorem opsN_snoc (L : List PatV) (p : PatV) : opsN (L ++ [p]) = opsN L + p.2.2.length := by unfold opsN; simp
theorem GrOk.opsN {L : List PatV} (h : GrOk L) : opsN L ≤ 200 * L.length := by
  induction h with
  | nil => simp [Proofs.YtihggkmjalofiaaGreatDoor.opsN]
  | @snoc L p hL h0 ih =>
    rw [opsN_snoc, List.length_append, List.length_singleton]
    have := (patB_parts (grE_zero h0).1).2.2.1
    omega
end Go.Proofs.YtihggkmjalofiaaGreatDoor

/- The same patches make the same graph, in whichever order they come; what is applied hangs together: plain laws; no program in sight. -/
namespace Go.Proofs.YtihggkmjalofiaaGreatDoor
open Go.RowKit

theorem kindIs_mono {f g : VidV → Option RawV} (h : ∀ v r, f v = some r → g v = some r) {v : VidV} {k : Nat} (hk : kindIs f v k = true) : kindIs g v k = true := by
  obtain ⟨a, ha, e⟩ := kindIs_some hk
  unfold kindIs
  rw [h v a ha]
  exact decide_eq_true e
theorem fileF_of {f : VidV → Option RawV} {v : VidV} {r : RawV} (h : f v = some r) : fileF f v = r.2.1 := by unfold fileF; rw [h]
theorem refB_mono {f g : VidV → Option RawV} (h : ∀ v r, f v = some r → g v = some r) {o : OpV} (ho : refB f o = true) : refB g o = true := by
  unfold refB at ho ⊢
  by_cases c1 : o.1.val = 2 ∨ o.1.val = 3
  · rw [if_pos c1] at ho ⊢
    exact kindIs_mono h ho
  rw [if_neg c1] at ho ⊢
  by_cases c5 : o.1.val = 5
  · rw [if_pos c5] at ho ⊢
    obtain ⟨r, hr⟩ := Option.isSome_iff_exists.1 ho
    rw [h _ r hr]; rfl
  rw [if_neg c5] at ho ⊢
  by_cases c4 : o.1.val = 4
  · rw [if_pos c4] at ho ⊢
    rw [Bool.and_eq_true, Bool.and_eq_true, decide_eq_true_eq] at ho ⊢
    obtain ⟨a, ha, _⟩ := kindIs_some ho.1
    obtain ⟨b, hb, _⟩ := kindIs_some ho.2.1
    refine ⟨kindIs_mono h ho.1, kindIs_mono h ho.2.1, ?_⟩
    rw [fileF_of (h _ a ha), fileF_of (h _ b hb), ← fileF_of ha, ← fileF_of hb]
    exact ho.2.2
  rw [if_neg c4]
/-- patches that are applied one behind another -/
def runG (L : List PatV) (l : List PatV) : List PatV := l.foldl grL L
/-- so many rounds over patches -/
def rounds (l : List PatV) : Nat → List PatV
  | 0 => []
  | k + 1 => runG (rounds l k) l
theorem edgesOf_mem {L : List PatV} {e : EdgeV} : e ∈ edgesOf L ↔ ∃ p ∈ L, ∃ o ∈ p.2.2, o.1.val = 4 ∧ e = (o.2.1, o.2.2.1) := by
  unfold edgesOf edgesP
  rw [List.mem_flatMap]
  constructor
  · rintro ⟨p, hp, h⟩
    obtain ⟨o, ho, h1⟩ := List.mem_filterMap.1 h
    unfold edgeO at h1
    split at h1
    · rename_i h4; exact ⟨p, hp, o, ho, h4, (Option.some.inj h1).symm⟩
    · cases h1
  · rintro ⟨p, hp, o, ho, h4, rfl⟩
    exact ⟨p, hp, List.mem_filterMap.2 ⟨o, ho, by unfold edgeO; rw [if_pos h4]⟩⟩
end Go.Proofs.YtihggkmjalofiaaGreatDoor

/- vid.Set: names of vertices, each once, rising. -/
namespace Go.Proofs.YtihggkmjalofiaaGreatDoor
open Go.RowKit Go.Sort
open Go.ChangeMaps (setBlock)

theorem kLawV : Go.WideMaps.KeyLaw Tryz.prog 120 := deep_law_laid (by kernel_rfl) (m := 3) (by omega) (of_decide_eq_true (by kernel_rfl)) (by kernel_rfl) (by kernel_rfl)
theorem kKeyV (v : VidV) : ∃ kl, keyOf Tryz.prog 120 (.agg (encV v).toArray) = some kl := by
  have h1 := v.1.1.isLt
  have h2 := v.1.2.isLt
  have h3 := v.2.isLt
  have : FlatOk [.int .u8, .int .u16, .int .u8] (encV v) := by
    refine ⟨⟨_, rfl, ?_⟩, ⟨_, rfl, ?_⟩, ⟨_, rfl, ?_⟩, trivial⟩ <;> simp [Lit.wf, IntKind.min, IntKind.max, IntKind.signed, IntKind.bits] <;> omega
  exact keyOf_flat (by kernel_rfl) (by kernel_rfl) (by kernel_rfl) (by kernel_rfl) (of_decide_eq_true (by kernel_rfl)) this
end Go.Proofs.YtihggkmjalofiaaGreatDoor

/- Texts of general use, one behind another. -/

/- A graph as it lies. -/
namespace Go.Proofs.YtihggkmjalofiaaGreatDoor
open Go.RowKit
open Go.ChangeMaps (setBlock)

def encX (x : VertV) : List Value := [.int .u8 ((x.1.1.1.val : Nat) : Int), .int .u16 ((x.1.1.2.val : Nat) : Int), .int .u8 ((x.1.2.val : Nat) : Int), .int .u8 ((x.2.1.val : Nat) : Int), .int .u8 ((x.2.2.1.1.1.val : Nat) : Int), .int .u16 ((x.2.2.1.1.2.val : Nat) : Int), .int .u8 ((x.2.2.1.2.val : Nat) : Int), .string x.2.2.2.1, .bool x.2.2.2.2]
def encE (e : EdgeV) : List Value := [.int .u8 ((e.1.1.1.val : Nat) : Int), .int .u16 ((e.1.1.2.val : Nat) : Int), .int .u8 ((e.1.2.val : Nat) : Int), .int .u8 ((e.2.1.1.val : Nat) : Int), .int .u16 ((e.2.1.2.val : Nat) : Int), .int .u8 ((e.2.2.val : Nat) : Int)]
theorem encX_len (x : VertV) : (encX x).length = 9 := rfl
theorem encE_len (e : EdgeV) : (encE e).length = 6 := rfl
theorem vid_nat {x y : VidV} (h1 : x.1.1.val = y.1.1.val) (h2 : x.1.2.val = y.1.2.val) (h3 : x.2.val = y.2.val) : x = y := Prod.ext (Prod.ext (Fin.ext h1) (Fin.ext h2)) (Fin.ext h3)
theorem encVa_inj {x y : VidV} (h : (Value.agg (encV x).toArray) = .agg (encV y).toArray) : x = y := by
  simp only [encV, Value.agg.injEq, Array.mk.injEq, List.cons.injEq, Value.int.injEq, true_and, and_true] at h
  exact vid_nat (by omega) (by omega) (by omega)
theorem encEa_inj {x y : EdgeV} (h : (Value.agg (encE x).toArray) = .agg (encE y).toArray) : x = y := by
  simp only [encE, Value.agg.injEq, Array.mk.injEq, List.cons.injEq, Value.int.injEq, true_and, and_true] at h
  exact Prod.ext (vid_nat (by omega) (by omega) (by omega)) (vid_nat (by omega) (by omega) (by omega))
/-- a graph's cells -/
def grC (v : List Int) (gm ge : Nat) : Array Value := vecA v ++ #[.map (some gm), .map (some ge)]
def VertsM (L : List PatV) (E : List (Value × Value)) : Prop := ∀ q : Value × Value, q ∈ E ↔ ∃ v x, vertV L v = some x ∧ q = (.agg (encV v).toArray, .agg (encX x).toArray)
def EdgesM (L : List PatV) (E : List (Value × Value)) : Prop := ∀ q : Value × Value, q ∈ E ↔ ∃ e ∈ edgesOf L, q = (.agg (encE e).toArray, .agg (encV (fileV L e.1)).toArray)
/-- a graph's memory: its own blocks are those of F -/
structure GraphM (w : World) (F : Nat → Prop) (g : Nat) (L : List PatV) : Prop where
  lt : ∀ k, F k → k < w.heap.size
  self : F g
  ex : ∃ gm ge E Ee, Blk w g 129 (grC (vecL L) gm ge) ∧ (F gm ∧ F ge ∧ g ≠ gm ∧ g ≠ ge ∧ gm ≠ ge) ∧ MapIs Tryz.prog 120 w gm E ∧ MapIs Tryz.prog 137 w ge Ee ∧ VertsM L E ∧ EdgesM L Ee ∧ E.length ≤ opsN L ∧ Ee.length ≤ opsN L
theorem GraphM.stay {w w' : World} {F : Nat → Prop} {g : Nat} {L : List PatV} (h : GraphM w F g L) (hk : Stay F w w') : GraphM w' F g L := by
  obtain ⟨h1, h2, gm, ge, E, Ee, k1, k2, k3, k4, k5, k6, k7, k8⟩ := h
  exact ⟨fun k hF => Nat.lt_of_lt_of_le (h1 k hF) hk.1, h2, gm, ge, E, Ee, k1.keep (hk.2 g (h1 g h2) h2), k2, k3.keep (hk.2 gm (h1 gm k2.1) k2.1), k4.keep (hk.2 ge (h1 ge k2.2.1) k2.2.1), k5, k6, k7, k8⟩
theorem GraphM.ext {w w' : World} {F : Nat → Prop} {g : Nat} {L : List PatV} (h : GraphM w F g L) (hb : Below w.heap.size w w') : GraphM w' F g L := h.stay (Stay.of_below hb)
/-- a graph as it lies, of patches that could be applied -/
structure GraphAt (w : World) (F : Nat → Prop) (g : Nat) (L : List PatV) : Prop where
  ok : GrOk L
  mem : GraphM w F g L
theorem GraphAt.stay {w w' : World} {F : Nat → Prop} {g : Nat} {L : List PatV} (h : GraphAt w F g L) (hk : Stay F w w') : GraphAt w' F g L := ⟨h.ok, h.mem.stay hk⟩
theorem GraphAt.ext {w w' : World} {F : Nat → Prop} {g : Nat} {L : List PatV} (h : GraphAt w F g L) (hb : Below w.heap.size w w') : GraphAt w' F g L := ⟨h.ok, h.mem.ext hb⟩
theorem kMapVert : Tryz.prog.underlying 126 = some (.map 120 134) := by kernel_rfl
theorem kZeroVert (u : World) : (zeroValue 134).run Tryz.prog u = .ok (.agg (encX zeroVert).toArray) u := by kernel_rfl
theorem grC_size {v : List Int} (hv : VecOk v) (gm ge : Nat) : (grC v gm ge).size = 66 := by
  unfold grC
  rw [Array.size_append, vecA_size, hv.len]; rfl
section
variable {w : World} {g gm ge : Nat} {t : TypeId} {v : List Int}
theorem gr_m (hv : VecOk v) (h : Blk w g t (grC v gm ge)) : w.cell? ⟨g, 64, none⟩ = some (.map (some gm)) := by
  rw [h.cell 64]
  unfold grC
  rw [Array.getElem?_append_right (by rw [vecA_size, hv.len]; exact Nat.le_refl _), vecA_size, hv.len]; rfl
theorem gr_e (hv : VecOk v) (h : Blk w g t (grC v gm ge)) : w.cell? ⟨g, 65, none⟩ = some (.map (some ge)) := by
  rw [h.cell 65]
  unfold grC
  rw [Array.getElem?_append_right (by rw [vecA_size, hv.len]; omega), vecA_size, hv.len]; rfl
theorem gr_v (h : Blk w g t (grC v gm ge)) : w.rangeAt g 0 (v.map (Value.int .u16)) := by
  intro j u hj
  rw [Nat.zero_add, h.cell j]
  unfold grC
  have hl := (List.getElem?_eq_some_iff.1 hj).1
  rw [List.length_map] at hl
  rw [Array.getElem?_append_left (by rw [vecA_size]; exact hl)]
  unfold vecA
  simpa using hj
end
/-- what a graph's cells are, in any world that has only more -/
structure GrCells (w : World) (F : Nat → Prop) (g : Nat) (L : List PatV) (gm ge : Nat) : Prop where
  m : ∀ z : Ext w, z.w.cell? ⟨g, 64, none⟩ = some (.map (some gm))
  e : ∀ z : Ext w, z.w.cell? ⟨g, 65, none⟩ = some (.map (some ge))
  v : w.rangeAt g 0 ((vecL L).map (Value.int .u16))
  lt : g < w.heap.size
  inF : F gm ∧ F ge ∧ g ≠ gm ∧ g ≠ ge ∧ gm ≠ ge
  mlt : gm < w.heap.size
  elt : ge < w.heap.size
  map : ∃ E, MapIs Tryz.prog 120 w gm E ∧ VertsM L E ∧ E.length ≤ opsN L
  emap : ∃ E, MapIs Tryz.prog 137 w ge E ∧ EdgesM L E ∧ E.length ≤ opsN L
  blk : Blk w g 129 (grC (vecL L) gm ge)
theorem GraphM.cells {w : World} {F : Nat → Prop} {g : Nat} {L : List PatV} (h : GraphM w F g L) : ∃ gm ge, GrCells w F g L gm ge := by
  obtain ⟨h1, h2, gm, ge, E, Ee, k1, k2, k3, k4, k5, k6, k7, k8⟩ := h
  have hv := vecL_ok L
  exact ⟨gm, ge, fun z => gr_m hv (k1.ext z.h), fun z => gr_e hv (k1.ext z.h), gr_v k1, h1 g h2, k2, k3.lt, k4.lt, ⟨E, k3, k5, k7⟩, ⟨Ee, k4, k6, k8⟩, k1⟩
/-- a vertex is found by its name, in any world where the map stands -/
theorem VertsM.look {w : World} {L : List PatV} {gm : Nat} {E : List (Value × Value)} (hm : MapIs Tryz.prog 120 w gm E) (hE : VertsM L E) (v : VidV) :
    (∀ w', w'.heap[gm]? = w.heap[gm]? → (Instr.lookup 126 (.map (some gm)) (.agg (encV v).toArray) true).run Tryz.prog w' = .ok (.tuple #[.agg (encX (vertD L v)).toArray, .bool (vertV L v).isSome]) w') ∧
    ∀ w', w'.heap[gm]? = w.heap[gm]? → (Instr.lookup 126 (.map (some gm)) (.agg (encV v).toArray) false).run Tryz.prog w' = .ok (.agg (encX (vertD L v)).toArray) w' := by
  obtain ⟨kl, hkl⟩ := kKeyV v
  have key : ∀ u, GetL E (.agg (encV v).toArray) (.agg (encX zeroVert).toArray) u → u = .agg (encX (vertD L v)).toArray := by
    rintro u (⟨hno, rfl⟩ | hyes)
    · cases hv : vertV L v with
      | none => unfold vertD; rw [hv]; rfl
      | some x => exact ((hno (.agg (encV v).toArray, .agg (encX x).toArray) ((hE (.agg (encV v).toArray, .agg (encX x).toArray)).2 ⟨v, x, hv, rfl⟩)) rfl).elim
    · obtain ⟨v', x, hv, e⟩ := (hE _).1 hyes
      have e1 : Value.agg (encV v).toArray = .agg (encV v').toArray := congrArg Prod.fst e
      have e2 : u = .agg (encX x).toArray := congrArg Prod.snd e
      obtain rfl := encVa_inj e1
      rw [e2, vertD_some hv]
  constructor
  · obtain ⟨u, ok, hg, hl⟩ := hm.look_ok kLawV kMapVert kZeroVert hkl
    have hu : u = .agg (encX (vertD L v)).toArray ∧ ok = (vertV L v).isSome := by
      rcases hg with ⟨rfl, hno, rfl⟩ | ⟨rfl, hyes⟩
      · refine ⟨key _ (.inl ⟨hno, rfl⟩), ?_⟩
        cases hv : vertV L v with
        | none => rfl
        | some x => exact ((hno (.agg (encV v).toArray, .agg (encX x).toArray) ((hE (.agg (encV v).toArray, .agg (encX x).toArray)).2 ⟨v, x, hv, rfl⟩)) rfl).elim
      · refine ⟨key _ (.inr hyes), ?_⟩
        obtain ⟨v', x, hv, e⟩ := (hE _).1 hyes
        have e1 : Value.agg (encV v).toArray = .agg (encV v').toArray := congrArg Prod.fst e
        obtain rfl := encVa_inj e1
        rw [hv]; rfl
    obtain ⟨rfl, rfl⟩ := hu
    exact hl
  · obtain ⟨u, hg, hl⟩ := hm.look kLawV kMapVert kZeroVert hkl
    obtain rfl := key u hg
    exact hl
/-- what is in a map once a key has a value -/
theorem PutL.mem {l l' : List (Value × Value)} {key val : Value} (h : PutL l key val l') (hp : l.Pairwise fun p q => p.1 ≠ q.1) (q : Value × Value) : q ∈ l' ↔ q = (key, val) ∨ (q.1 ≠ key ∧ q ∈ l) := by
  rcases h with ⟨h1, rfl⟩ | ⟨j, v0, h1, rfl⟩
  · rw [List.mem_append, List.mem_singleton]
    constructor
    · rintro (h | h)
      · exact .inr ⟨h1 q h, h⟩
      · exact .inl h
    · rintro (h | h)
      · exact .inr h
      · exact .inl h.2
  · obtain ⟨hj, hj2⟩ := List.getElem?_eq_some_iff.1 h1
    have hp := List.pairwise_iff_getElem.1 hp
    rw [List.mem_iff_getElem]
    constructor
    · rintro ⟨i, hi, e⟩
      rw [List.getElem_set] at e
      rw [List.length_set] at hi
      split at e
      · exact .inl e.symm
      · rename_i hne
        refine .inr ⟨fun c => ?_, by rw [← e]; exact List.getElem_mem hi⟩
        rw [← e] at c
        rcases Nat.lt_or_gt_of_ne hne with c1 | c1
        · exact hp j i hj hi c1 (by rw [hj2, c])
        · exact hp i j hi hj c1 (by rw [hj2, c])
    · rintro (rfl | ⟨h2, h3⟩)
      · exact ⟨j, by rw [List.length_set]; exact hj, by rw [List.getElem_set_self]⟩
      · obtain ⟨i, hi, e⟩ := List.getElem_of_mem h3
        refine ⟨i, by rw [List.length_set]; exact hi, ?_⟩
        rw [List.getElem_set, if_neg]
        · exact e
        · rintro rfl
          rw [hj2] at e
          exact h2 (by rw [← e])
/-- a vertex is put -/
theorem VertsM.put {L L' : List PatV} {E E' : List (Value × Value)} {v : VidV} {x : VertV} (hE : VertsM L E) (hp : E.Pairwise fun p q => p.1 ≠ q.1) (h : PutL E (.agg (encV v).toArray) (.agg (encX x).toArray) E') (hL : ∀ u, vertV L' u = if u = v then some x else vertV L u) : VertsM L' E' := by
  intro q
  rw [h.mem hp, hE]
  constructor
  · rintro (rfl | ⟨h1, u, y, hu, rfl⟩)
    · exact ⟨v, x, by rw [hL, if_pos rfl], rfl⟩
    · exact ⟨u, y, by rw [hL, if_neg (fun e => h1 (by rw [e]))]; exact hu, rfl⟩
  · rintro ⟨u, y, hu, rfl⟩
    rw [hL] at hu
    by_cases e : u = v
    · rw [if_pos e] at hu
      subst e
      obtain rfl := Option.some.inj hu
      exact .inl rfl
    · rw [if_neg e] at hu
      exact .inr ⟨fun c => e (encVa_inj c), u, y, hu, rfl⟩
theorem VertsM.same {L L' : List PatV} {E : List (Value × Value)} (hE : VertsM L E) (hL : ∀ u, vertV L' u = vertV L u) : VertsM L' E := by
  intro q
  rw [hE]
  constructor
  · rintro ⟨u, y, hu, rfl⟩; exact ⟨u, y, by rw [hL]; exact hu, rfl⟩
  · rintro ⟨u, y, hu, rfl⟩; exact ⟨u, y, by rw [← hL]; exact hu, rfl⟩
/-- a step is put -/
theorem EdgesM.put {L L' : List PatV} {E E' : List (Value × Value)} {e : EdgeV} (hE : EdgesM L E) (hp : E.Pairwise fun p q => p.1 ≠ q.1) (h : PutL E (.agg (encE e).toArray) (.agg (encV (fileV L' e.1)).toArray) E') (hL : ∀ x, x ∈ edgesOf L' ↔ x ∈ edgesOf L ∨ x = e) (hf : ∀ x ∈ edgesOf L, fileV L' x.1 = fileV L x.1) : EdgesM L' E' := by
  intro q
  rw [h.mem hp, hE]
  constructor
  · rintro (rfl | ⟨h1, x, hx, rfl⟩)
    · exact ⟨e, (hL e).2 (.inr rfl), rfl⟩
    · exact ⟨x, (hL x).2 (.inl hx), by rw [hf x hx]⟩
  · rintro ⟨x, hx, rfl⟩
    by_cases c : x = e
    · subst c; exact .inl rfl
    · refine .inr ⟨fun d => c (encEa_inj d), x, ((hL x).1 hx).elim id (fun d => absurd d c), ?_⟩
      rw [hf x (((hL x).1 hx).elim id (fun d => absurd d c))]
theorem EdgesM.same {L L' : List PatV} {E : List (Value × Value)} (hE : EdgesM L E) (hL : ∀ x, x ∈ edgesOf L' ↔ x ∈ edgesOf L) (hf : ∀ x ∈ edgesOf L, fileV L' x.1 = fileV L x.1) : EdgesM L' E := by
  intro q
  rw [hE]
  constructor
  · rintro ⟨x, hx, rfl⟩; exact ⟨x, (hL x).2 hx, by rw [hf x hx]⟩
  · rintro ⟨x, hx, rfl⟩; exact ⟨x, (hL x).1 hx, by rw [hf x ((hL x).1 hx)]⟩
end Go.Proofs.YtihggkmjalofiaaGreatDoor

/- A graph's memory from operation to operation of a patch: what the maps hold. No program in sight but its types. -/
namespace Go.Proofs.YtihggkmjalofiaaGreatDoor
open Go.RowKit
open Go.ChangeMaps (setBlock)

section
variable {w : World} {F : Nat → Prop} {g gm ge : Nat} {L L' : List PatV}
end
section
variable {w : World} {F : Nat → Prop} {g gm ge : Nat} {L : List PatV} {p : PatV} {k : Nat} {o : OpV}
end
end Go.Proofs.YtihggkmjalofiaaGreatDoor

/- A graph's vertices and steps: the comparisons of the sorts, the library's sorts at them: walked. -/
namespace Go.Proofs.YtihggkmjalofiaaGreatDoor
open Go.RowKit Go.Sort

instance : Inhabited VertV := ⟨zeroVert⟩
instance : Inhabited EdgeV := ⟨(vid0, vid0)⟩
end Go.Proofs.YtihggkmjalofiaaGreatDoor

/- A graph: a patch is applied: walked. -/
namespace Go.Proofs.YtihggkmjalofiaaGreatDoor
open Go.RowKit
open Go.ChangeMaps (setBlock)

theorem rawP_cut0 (p : PatV) (v : VidV) : rawP (cutP p 0) v = none := by
  unfold rawP cutP
  split <;> simp
theorem vertV_cut0 (L : List PatV) (p : PatV) (v : VidV) : vertV (L ++ [cutP p 0]) v = vertV L v := by
  unfold vertV
  rw [rawV_snoc, rawP_cut0, deadV_snoc]
  have : deadP (cutP p 0) v = false := rfl
  rw [this, Bool.or_false]
  simp
theorem edgesOf_cut0 (L : List PatV) (p : PatV) : edgesOf (L ++ [cutP p 0]) = edgesOf L := by rw [edgesOf_snoc]; simp [edgesP, cutP]
theorem opsN_cut0 (L : List PatV) (p : PatV) : opsN (L ++ [cutP p 0]) = opsN L := by rw [opsN_snoc]; simp [cutP]
theorem fileV_cut0 (L : List PatV) (p : PatV) (v : VidV) : fileV (L ++ [cutP p 0]) v = fileV L v := by
  unfold fileV fileF
  rw [rawV_snoc, rawP_cut0]
  simp
theorem setCells_gr {w : World} {g gm ge : Nat} {t : TypeId} {v v' : List Int} (hv : VecOk v) (hv' : VecOk v') (h : Blk w g t (grC v gm ge)) : Blk (w.setCells g 0 (vecA v').toList) g t (grC v' gm ge) := by
  obtain ⟨cs', h1, h2, h3⟩ := Blk.setCells (vecA v').toList 0 w _ h
  have e : cs' = grC v' gm ge := by
    apply Array.ext_getElem?
    intro j
    rw [grC_size hv] at h2 h3
    have hl : (vecA v').toList.length = 64 := by rw [Array.length_toList, vecA_size, hv'.len]
    rcases Nat.lt_or_ge j 66 with hj | hj
    · rw [h3 j hj, hl]
      by_cases hc : j < 64
      · rw [if_pos (by omega)]
        unfold grC
        rw [Array.getElem?_append_left (by rw [vecA_size, hv'.len]; exact hc)]
        simp
      · rw [if_neg (by omega)]
        unfold grC
        rw [Array.getElem?_append_right (by rw [vecA_size, hv.len]; omega), Array.getElem?_append_right (by rw [vecA_size, hv'.len]; omega), vecA_size, vecA_size, hv.len, hv'.len]
    · rw [Array.getElem?_eq_none (by omega), Array.getElem?_eq_none (by rw [grC_size hv']; omega)]
  rw [← e]; exact h1
/-- the vector is written -/
theorem GrCells.setV {w : World} {F : Nat → Prop} {g gm ge : Nat} {L : List PatV} (h : GrCells w F g L gm ge) (hF : ∀ k, F k → k < w.heap.size) (hg : F g) (p : PatV) :
    GraphM (w.setCells g 0 (vecA (putW (vecL L) p.1)).toList) F g (L ++ [cutP p 0]) ∧ Kept F w (w.setCells g 0 (vecA (putW (vecL L) p.1)).toList) := by
  obtain ⟨f1, f2, f3, f4, f5⟩ := h.inF
  obtain ⟨E, m1, m2, m3⟩ := h.map
  obtain ⟨Ee, e1, e2, e3⟩ := h.emap
  have kep : Kept (fun k => k = g) w (w.setCells g 0 (vecA (putW (vecL L) p.1)).toList) := Kept.setCells (F := fun k => k = g) (.inl rfl) _ 0 _ (Kept.refl _ _)
  refine ⟨⟨fun k hk => Nat.lt_of_lt_of_le (hF k hk) kep.size, hg, gm, ge, E, Ee, ?_, h.inF, m1.keep (kep.block gm h.mlt (Ne.symm f3)), e1.keep (kep.block ge h.elt (Ne.symm f4)), m2.same fun v => vertV_cut0 L p v, e2.same (fun x => by rw [edgesOf_cut0]) (fun x _ => fileV_cut0 L p x.1), by rw [opsN_cut0]; exact m3, by rw [opsN_cut0]; exact e3⟩, kep.mono fun k e => by rw [e]; exact hg⟩
  have hv : vecL (L ++ [cutP p 0]) = putW (vecL L) p.1 := by rw [vecL_cut, vecL_snoc]
  rw [hv]
  exact setCells_gr (vecL_ok L) (putV_ok (vecL_ok L) _ _) h.blk
end Go.Proofs.YtihggkmjalofiaaGreatDoor

/- Two graphs that hold the same are the same: graph.Same, walked for that case. -/
namespace Go.Proofs.YtihggkmjalofiaaGreatDoor
open Go.RowKit

/-- vertices in a slice -/
structure VertsAt (w : World) (A : Option Addr) (n : Nat) (l : List VertV) : Prop where
  len : l.length = n
  sl : Sl w w.heap.size 9 A n (l.flatMap encX)
theorem VertsAt.ext {w w' : World} {A : Option Addr} {n : Nat} {l : List VertV} (h : VertsAt w A n l) (hb : Below w.heap.size w w') : VertsAt w' A n l := ⟨h.len, (h.sl.below hb (Nat.le_refl _)).more hb.size⟩
theorem VertsAt.at_ {w : World} {A : Option Addr} {n : Nat} {l : List VertV} (h : VertsAt w A n l) {k : Nat} (hk : k < n) : ∃ b o x, A = some ⟨b, o, none⟩ ∧ b < w.heap.size ∧ l[k]? = some x ∧ w.rangeAt b (o + k * 9) (encX x) := by
  have hk' : k < l.length := by rw [h.len]; exact hk
  obtain ⟨b, o, e, hb, hr⟩ := h.sl.rowAt h.len (fun x _ => encX_len x) hk'
  exact ⟨b, o, l[k], e, hb, List.getElem?_eq_getElem hk', hr⟩
theorem VertsAt.of_own {w : World} {base n : Nat} {v : Value} {l : List VertV} (h : w.ownsRow base 134 9 v n (l.flatMap encX)) (hn : l.length = n) : ∃ A c, v = .slice A n c ∧ n ≤ c ∧ VertsAt w A n l := by
  obtain ⟨A, c, rfl, hc, hs⟩ := Sl.of_own h
  exact ⟨A, c, rfl, hc, hn, hs⟩
/-- steps in a slice -/
structure EdgesAt (w : World) (A : Option Addr) (n : Nat) (l : List EdgeV) : Prop where
  len : l.length = n
  sl : Sl w w.heap.size 6 A n (l.flatMap encE)
theorem EdgesAt.ext {w w' : World} {A : Option Addr} {n : Nat} {l : List EdgeV} (h : EdgesAt w A n l) (hb : Below w.heap.size w w') : EdgesAt w' A n l := ⟨h.len, (h.sl.below hb (Nat.le_refl _)).more hb.size⟩
theorem EdgesAt.at_ {w : World} {A : Option Addr} {n : Nat} {l : List EdgeV} (h : EdgesAt w A n l) {k : Nat} (hk : k < n) : ∃ b o x, A = some ⟨b, o, none⟩ ∧ b < w.heap.size ∧ l[k]? = some x ∧ w.rangeAt b (o + k * 6) (encE x) := by
  have hk' : k < l.length := by rw [h.len]; exact hk
  obtain ⟨b, o, e, hb, hr⟩ := h.sl.rowAt h.len (fun x _ => encE_len x) hk'
  exact ⟨b, o, l[k], e, hb, List.getElem?_eq_getElem hk', hr⟩
theorem EdgesAt.of_own {w : World} {base n : Nat} {v : Value} {l : List EdgeV} (h : w.ownsRow base 137 6 v n (l.flatMap encE)) (hn : l.length = n) : ∃ A c, v = .slice A n c ∧ n ≤ c ∧ EdgesAt w A n l := by
  obtain ⟨A, c, rfl, hc, hs⟩ := Sl.of_own h
  exact ⟨A, c, rfl, hc, hn, hs⟩
end Go.Proofs.YtihggkmjalofiaaGreatDoor

/- Texts of general use, one behind another. -/

/- The chapter's example of a graph: walked. -/
namespace Go.Proofs.YtihggkmjalofiaaGreatDoor
open Go.RowKit

end Go.Proofs.YtihggkmjalofiaaGreatDoor

/- The same patches make the same graph: the statement walked. -/
namespace Go.Proofs.YtihggkmjalofiaaGreatDoor
open Go.RowKit

/-- no two of the first k with one name -/
def OneN (l : List PatV) (k : Nat) : Prop := ∀ a b p q, a < k → b < a → l[a]? = some p → l[b]? = some q → p.1 = q.1 → p = q
def OneI (l : List PatV) (p : PatV) (j : Nat) : Prop := ∀ b q, b < j → l[b]? = some q → p.1 = q.1 → p = q
theorem OneN.snoc {l : List PatV} {k : Nat} {p : PatV} (h : OneN l k) (hp : l[k]? = some p) (hi : OneI l p k) : OneN l (k + 1) := fun a b p' q ha hb hp' hq e => by
  by_cases hk : a = k
  · subst hk
    rw [hp] at hp'
    obtain rfl := Option.some.inj hp'
    exact hi b q hb hq e
  · exact h a b p' q (by omega) hb hp' hq e
theorem OneI.snoc {l : List PatV} {p q : PatV} {j : Nat} (h : OneI l p j) (hq : l[j]? = some q) (hi : p.1 = q.1 → p = q) : OneI l p (j + 1) := fun b q' hb hq' e => by
  by_cases hk : b = j
  · subst hk
    rw [hq] at hq'
    obtain rfl := Option.some.inj hq'
    exact hi e
  · exact h b q' (by omega) hq' e
theorem OneN.all {l : List PatV} (h : OneN l l.length) : ∀ p ∈ l, ∀ q ∈ l, p.1 = q.1 → p = q := fun p hp q hq e => by
  obtain ⟨a, ha⟩ := List.mem_iff_getElem?.1 hp
  obtain ⟨b, hb⟩ := List.mem_iff_getElem?.1 hq
  have la := (List.getElem?_eq_some_iff.1 ha).1
  have lb := (List.getElem?_eq_some_iff.1 hb).1
  rcases Nat.lt_trichotomy b a with c | c | c
  · exact h a b p q la c ha hb e
  · subst c
    rw [ha] at hb
    exact Option.some.inj hb
  · exact (h b a q p lb c hb ha e.symm).symm
theorem fews_at20 {l : List PatV} {m : Int} (h : fewsB l m = true) : (l.length : Int) ≤ m ∧ ∀ p ∈ l, p.2.1.length ≤ 100 ∧ p.2.2.length ≤ 60 := by
  unfold fewsB at h
  rw [Bool.and_eq_true, decide_eq_true_eq, List.all_eq_true] at h
  refine ⟨h.1, fun p hp => ?_⟩
  have := h.2 p hp
  unfold fewOne fewP at this
  simp only [Bool.and_eq_true, decide_eq_true_eq] at this
  exact ⟨this.1.1, this.2⟩
end Go.Proofs.YtihggkmjalofiaaGreatDoor

/- What GraphWhole needs beside: comparisons, walked again; what is applied hangs together. -/
namespace Go.Proofs.YtihggkmjalofiaaGreatDoor
open Go.RowKit

theorem veqV_iffQ (x y : VidV) : veqV (oldV x) (oldV y) = decide (x = y) := by
  unfold veqV oldV
  by_cases h : x = y
  · subst h; simp
  · rw [decide_eq_false h]
    simp only [Bool.and_eq_false_iff, decide_eq_false_iff_not]
    by_cases h1 : ((x.1.1.val : Nat) : Int) = ((y.1.1.val : Nat) : Int)
    · by_cases h2 : ((x.1.2.val : Nat) : Int) = ((y.1.2.val : Nat) : Int)
      · exact .inr fun h3 => h (Prod.ext (Prod.ext (fin_eq h1) (fin_eq h2)) (fin_eq h3))
      · exact .inl (.inr h2)
    · exact .inl (.inl h1)
theorem goodO_edge {id : PidV} {i : Int} {o : OpV} (h : goodO id i o = true) (hk : o.1.val = 4) : o.2.1 ≠ o.2.2.1 := by
  intro he
  unfold goodO opGood at h
  rw [Bool.and_eq_true] at h
  have h2 := h.2
  unfold tailOk at h2
  rw [if_neg (by omega), if_neg (by omega), if_neg (by omega), if_pos (by omega), veqV_iffQ, decide_eq_true he] at h2
  simp at h2
theorem GrOk.refs {L : List PatV} (h : GrOk L) : ∀ p ∈ L, ∀ o ∈ p.2.2, refB (rawV L) o = true := by
  induction h with
  | nil => simp
  | @snoc L p hL h0 ih =>
    intro q hq o ho
    rcases List.mem_append.1 hq with hq | hq
    · exact refB_mono (fun v r hr => rawV_more hr p) (ih q hq o ho)
    · obtain rfl := List.mem_singleton.1 hq
      exact (grE_zero h0).2.2.2.2 o ho
theorem GrOk.edge {L : List PatV} (h : GrOk L) {e : EdgeV} (he : e ∈ edgesL L) : kindIs (rawV L) e.1 3 = true ∧ kindIs (rawV L) e.2 3 = true ∧ fileV L e.1 = fileV L e.2 ∧ e.1 ≠ e.2 := by
  obtain ⟨p, hp, o, ho, h4, rfl⟩ := edgesOf_mem.1 ((setK_mem keyE_inj _ _).1 he)
  have hr := h.refs p hp o ho
  unfold refB at hr
  rw [if_neg (by omega), if_neg (by omega), if_pos h4, Bool.and_eq_true, Bool.and_eq_true, decide_eq_true_eq] at hr
  refine ⟨hr.1, hr.2.1, hr.2.2, ?_⟩
  obtain ⟨k, hk⟩ := List.getElem?_of_mem ho
  exact goodO_edge (oneR_parts ((patB_parts (h.good p hp)).2.2.2 k o hk)).1 h4
end Go.Proofs.YtihggkmjalofiaaGreatDoor

/- What is applied hangs together: the statement walked. -/
namespace Go.Proofs.YtihggkmjalofiaaGreatDoor
open Go.RowKit

end Go.Proofs.YtihggkmjalofiaaGreatDoor
