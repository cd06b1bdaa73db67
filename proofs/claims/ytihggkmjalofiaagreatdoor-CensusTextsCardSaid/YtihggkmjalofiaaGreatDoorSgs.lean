/- Texts of general use, one behind another. -/
import Derived.Test.YtihggkmjalofiaaGreatDoorVids
import Derived.Test.YtihggkmjalofiaaGreatDoorGen
import Derived.Test.YtihggkmjalofiaaGreatDoorSets
import Derived.Deep.RegionHeld3
import Derived.Deep.DeepCutAuto
import Derived.Test.YtihggkmjalofiaaGreatDoorGras
import Derived.Test.YtihggkmjalofiaaGreatDoorIdxw

/- Sets of names: the document's, walked. -/
namespace Go.Proofs.YtihggkmjalofiaaGreatDoor
open Go.RowKit

end Go.Proofs.YtihggkmjalofiaaGreatDoor

/- vid.Set: names of vertices, each once, rising. -/
namespace Go.Proofs.YtihggkmjalofiaaGreatDoor
open Go.RowKit Go.Sort
open Go.ChangeMaps (setBlock)

theorem kLawV : Go.WideMaps.KeyLaw Tryz.prog 120 := deep_law_laid (by kernel_rfl) (m := 3) (by omega) (of_decide_eq_true (by kernel_rfl)) (by kernel_rfl) (by kernel_rfl)
theorem kKeyV (v : VidV) : ∃ kl, keyOf Tryz.prog 120 (.agg (encV v).toArray) = some kl := by
 have h1 := v.1.1.isLt
 have h2 := v.1.2.isLt
 have h3 := v.2.isLt
 have : FlatOk [.int .u8, .int .u16, .int .u8] (encV v) := by
  refine ⟨⟨_, rfl, ?_⟩, ⟨_, rfl, ?_⟩, ⟨_, rfl, ?_⟩, trivial⟩ <;> simp [Lit.wf, IntKind.min, IntKind.max, IntKind.signed, IntKind.bits] <;> omega
 exact keyOf_flat (by kernel_rfl) (by kernel_rfl) (by kernel_rfl) (by kernel_rfl) (of_decide_eq_true (by kernel_rfl)) this
end Go.Proofs.YtihggkmjalofiaaGreatDoor

/- Texts of general use, one behind another. -/

/- A graph as it lies. -/
namespace Go.Proofs.YtihggkmjalofiaaGreatDoor
open Go.RowKit
open Go.ChangeMaps (setBlock)

def encX (x : VertV) : List Value := [.int .u8 ((x.1.1.1.val : Nat) : Int), .int .u16 ((x.1.1.2.val : Nat) : Int), .int .u8 ((x.1.2.val : Nat) : Int), .int .u8 ((x.2.1.val : Nat) : Int), .int .u8 ((x.2.2.1.1.1.val : Nat) : Int), .int .u16 ((x.2.2.1.1.2.val : Nat) : Int), .int .u8 ((x.2.2.1.2.val : Nat) : Int), .string x.2.2.2.1, .bool x.2.2.2.2]
def encE (e : EdgeV) : List Value := [.int .u8 ((e.1.1.1.val : Nat) : Int), .int .u16 ((e.1.1.2.val : Nat) : Int), .int .u8 ((e.1.2.val : Nat) : Int), .int .u8 ((e.2.1.1.val : Nat) : Int), .int .u16 ((e.2.1.2.val : Nat) : Int), .int .u8 ((e.2.2.val : Nat) : Int)]
theorem encX_len (x : VertV) : (encX x).length = 9 := rfl
theorem encE_len (e : EdgeV) : (encE e).length = 6 := rfl
theorem encX_one (x : VertV) : ∀ u ∈ encX x, u.oneCell' = true := by
 intro u hu
 simp only [encX, List.mem_cons, List.not_mem_nil, or_false] at hu
 rcases hu with rfl | rfl | rfl | rfl | rfl | rfl | rfl | rfl | rfl <;> rfl
theorem vid_nat {x y : VidV} (h1 : x.1.1.val = y.1.1.val) (h2 : x.1.2.val = y.1.2.val) (h3 : x.2.val = y.2.val) : x = y := Prod.ext (Prod.ext (Fin.ext h1) (Fin.ext h2)) (Fin.ext h3)
theorem encVa_inj {x y : VidV} (h : (Value.agg (encV x).toArray) = .agg (encV y).toArray) : x = y := by
 simp only [encV, Value.agg.injEq, Array.mk.injEq, List.cons.injEq, Value.int.injEq, true_and, and_true] at h
 exact vid_nat (by omega) (by omega) (by omega)
theorem encEa_inj {x y : EdgeV} (h : (Value.agg (encE x).toArray) = .agg (encE y).toArray) : x = y := by
 simp only [encE, Value.agg.injEq, Array.mk.injEq, List.cons.injEq, Value.int.injEq, true_and, and_true] at h
 exact Prod.ext (vid_nat (by omega) (by omega) (by omega)) (vid_nat (by omega) (by omega) (by omega))
theorem encX_inj {x y : VertV} (h : encX x = encX y) : x = y := by
 simp only [encX, List.cons.injEq, Value.int.injEq, Value.string.injEq, Value.bool.injEq, true_and, and_true] at h
 obtain ⟨h1, h2, h3, h4, h5, h6, h7, h8, h9⟩ := h
 exact Prod.ext (vid_nat (by omega) (by omega) (by omega)) (Prod.ext (Fin.ext (by omega)) (Prod.ext (vid_nat (by omega) (by omega) (by omega)) (Prod.ext h8 h9)))
/-- a graph's cells -/
def grC (v : List Int) (gm ge : Nat) : Array Value := vecA v ++ #[.map (some gm), .map (some ge)]
def VertsM (L : List PatV) (E : List (Value × Value)) : Prop := ∀ q : Value × Value, q ∈ E ↔ ∃ v x, vertV L v = some x ∧ q = (.agg (encV v).toArray, .agg (encX x).toArray)
def EdgesM (L : List PatV) (E : List (Value × Value)) : Prop := ∀ q : Value × Value, q ∈ E ↔ ∃ e ∈ edgesOf L, q = (.agg (encE e).toArray, .agg (encV (fileV L e.1)).toArray)
/-- a graph's memory: its own blocks are those of F -/
structure GraphM (w : World) (F : Nat → Prop) (g : Nat) (L : List PatV) : Prop where
 lt : ∀ k, F k → k < w.heap.size
 self : F g
 ex : ∃ gm ge E Ee, Blk w g 129 (grC (vecL L) gm ge) ∧ (F gm ∧ F ge ∧ g ≠ gm ∧ g ≠ ge ∧ gm ≠ ge) ∧ MapIs Tryz.prog 120 w gm E ∧ MapIs Tryz.prog 137 w ge Ee ∧ VertsM L E ∧ EdgesM L Ee ∧ E.length ≤ opsN L ∧ Ee.length ≤ opsN L
theorem GraphM.stay {w w' : World} {F : Nat → Prop} {g : Nat} {L : List PatV} (h : GraphM w F g L) (hk : Stay F w w') : GraphM w' F g L := by
 obtain ⟨h1, h2, gm, ge, E, Ee, k1, k2, k3, k4, k5, k6, k7, k8⟩ := h
 exact ⟨fun k hF => Nat.lt_of_lt_of_le (h1 k hF) hk.1, h2, gm, ge, E, Ee, k1.keep (hk.2 g (h1 g h2) h2), k2, k3.keep (hk.2 gm (h1 gm k2.1) k2.1), k4.keep (hk.2 ge (h1 ge k2.2.1) k2.2.1), k5, k6, k7, k8⟩
theorem GraphM.ext {w w' : World} {F : Nat → Prop} {g : Nat} {L : List PatV} (h : GraphM w F g L) (hb : Below w.heap.size w w') : GraphM w' F g L := h.stay (Stay.of_below hb)
/-- a graph as it lies, of patches that could be applied -/
structure GraphAt (w : World) (F : Nat → Prop) (g : Nat) (L : List PatV) : Prop where
 ok : GrOk L
 mem : GraphM w F g L
theorem GraphAt.stay {w w' : World} {F : Nat → Prop} {g : Nat} {L : List PatV} (h : GraphAt w F g L) (hk : Stay F w w') : GraphAt w' F g L := ⟨h.ok, h.mem.stay hk⟩
theorem GraphAt.ext {w w' : World} {F : Nat → Prop} {g : Nat} {L : List PatV} (h : GraphAt w F g L) (hb : Below w.heap.size w w') : GraphAt w' F g L := ⟨h.ok, h.mem.ext hb⟩
theorem underVert : Tryz.prog.underlying 134 = some (.struct (Tryz.prog.fieldsOf 134)) := by kernel_rfl
theorem infoVert : (Tryz.prog.info? 134).map (·.size) = some 9 := by kernel_rfl
theorem vertSl : SlT Tryz.prog 141 134 9 40 := slT_of (z := .agg (encX zeroVert).toArray) Tryz.underlying141 (by kernel_rfl) rfl (by omega)
theorem kMapVert : Tryz.prog.underlying 126 = some (.map 120 134) := by kernel_rfl
theorem kMapEdge : Tryz.prog.underlying 127 = some (.map 137 120) := by kernel_rfl
theorem kZeroVert (u : World) : (zeroValue 134).run Tryz.prog u = .ok (.agg (encX zeroVert).toArray) u := by kernel_rfl
theorem kLawE : Go.WideMaps.KeyLaw Tryz.prog 137 := deep_law_laid (by kernel_rfl) (m := 4) (by omega) (of_decide_eq_true (by kernel_rfl)) (by kernel_rfl) (by kernel_rfl)
theorem kKeyE (e : EdgeV) : ∃ kl, keyOf Tryz.prog 137 (.agg (encE e).toArray) = some kl :=
 keyOf_flat (ks := [.int .u8, .int .u16, .int .u8, .int .u8, .int .u16, .int .u8]) (by kernel_rfl) (by kernel_rfl) (by kernel_rfl) (by kernel_rfl) (of_decide_eq_true (by kernel_rfl)) ⟨⟨_, rfl, lit_u8 _⟩, ⟨_, rfl, lit_u16 _⟩, ⟨_, rfl, lit_u8 _⟩, ⟨_, rfl, lit_u8 _⟩, ⟨_, rfl, lit_u16 _⟩, ⟨_, rfl, lit_u8 _⟩, trivial⟩
theorem grC_size {v : List Int} (hv : VecOk v) (gm ge : Nat) : (grC v gm ge).size = 66 := by
 unfold grC
 rw [Array.size_append, vecA_size, hv.len]; rfl
section
variable {w : World} {g gm ge : Nat} {t : TypeId} {v : List Int}
theorem gr_m (hv : VecOk v) (h : Blk w g t (grC v gm ge)) : w.cell? ⟨g, 64, none⟩ = some (.map (some gm)) := by
 rw [h.cell 64]
 unfold grC
 rw [Array.getElem?_append_right (by rw [vecA_size, hv.len]; exact Nat.le_refl _), vecA_size, hv.len]; rfl
theorem gr_e (hv : VecOk v) (h : Blk w g t (grC v gm ge)) : w.cell? ⟨g, 65, none⟩ = some (.map (some ge)) := by
 rw [h.cell 65]
 unfold grC
 rw [Array.getElem?_append_right (by rw [vecA_size, hv.len]; omega), vecA_size, hv.len]; rfl
theorem gr_v (h : Blk w g t (grC v gm ge)) : w.rangeAt g 0 (v.map (Value.int .u16)) := by
 intro j u hj
 rw [Nat.zero_add, h.cell j]
 unfold grC
 have hl := (List.getElem?_eq_some_iff.1 hj).1
 rw [List.length_map] at hl
 rw [Array.getElem?_append_left (by rw [vecA_size]; exact hl)]
 unfold vecA
 simpa using hj
end
/-- what a graph's cells are, in any world that has only more -/
structure GrCells (w : World) (F : Nat → Prop) (g : Nat) (L : List PatV) (gm ge : Nat) : Prop where
 m : ∀ z : Ext w, z.w.cell? ⟨g, 64, none⟩ = some (.map (some gm))
 e : ∀ z : Ext w, z.w.cell? ⟨g, 65, none⟩ = some (.map (some ge))
 v : w.rangeAt g 0 ((vecL L).map (Value.int .u16))
 lt : g < w.heap.size
 inF : F gm ∧ F ge ∧ g ≠ gm ∧ g ≠ ge ∧ gm ≠ ge
 mlt : gm < w.heap.size
 elt : ge < w.heap.size
 map : ∃ E, MapIs Tryz.prog 120 w gm E ∧ VertsM L E ∧ E.length ≤ opsN L
 emap : ∃ E, MapIs Tryz.prog 137 w ge E ∧ EdgesM L E ∧ E.length ≤ opsN L
 blk : Blk w g 129 (grC (vecL L) gm ge)
theorem GraphM.cells {w : World} {F : Nat → Prop} {g : Nat} {L : List PatV} (h : GraphM w F g L) : ∃ gm ge, GrCells w F g L gm ge := by
 obtain ⟨h1, h2, gm, ge, E, Ee, k1, k2, k3, k4, k5, k6, k7, k8⟩ := h
 have hv := vecL_ok L
 exact ⟨gm, ge, fun z => gr_m hv (k1.ext z.h), fun z => gr_e hv (k1.ext z.h), gr_v k1, h1 g h2, k2, k3.lt, k4.lt, ⟨E, k3, k5, k7⟩, ⟨Ee, k4, k6, k8⟩, k1⟩
/-- a vertex is found by its name, in any world where the map stands -/
theorem VertsM.look {w : World} {L : List PatV} {gm : Nat} {E : List (Value × Value)} (hm : MapIs Tryz.prog 120 w gm E) (hE : VertsM L E) (v : VidV) :
  (∀ w', w'.heap[gm]? = w.heap[gm]? → (Instr.lookup 126 (.map (some gm)) (.agg (encV v).toArray) true).run Tryz.prog w' = .ok (.tuple #[.agg (encX (vertD L v)).toArray, .bool (vertV L v).isSome]) w') ∧
  ∀ w', w'.heap[gm]? = w.heap[gm]? → (Instr.lookup 126 (.map (some gm)) (.agg (encV v).toArray) false).run Tryz.prog w' = .ok (.agg (encX (vertD L v)).toArray) w' := by
 obtain ⟨kl, hkl⟩ := kKeyV v
 have key : ∀ u, GetL E (.agg (encV v).toArray) (.agg (encX zeroVert).toArray) u → u = .agg (encX (vertD L v)).toArray := by
  rintro u (⟨hno, rfl⟩ | hyes)
  ·cases hv : vertV L v with
   | none => unfold vertD; rw [hv]; rfl
   | some x => exact ((hno (.agg (encV v).toArray, .agg (encX x).toArray) ((hE (.agg (encV v).toArray, .agg (encX x).toArray)).2 ⟨v, x, hv, rfl⟩)) rfl).elim
  ·obtain ⟨v', x, hv, e⟩ := (hE _).1 hyes
   have e1 : Value.agg (encV v).toArray = .agg (encV v').toArray := congrArg Prod.fst e
   have e2 : u = .agg (encX x).toArray := congrArg Prod.snd e
   obtain rfl := encVa_inj e1
   rw [e2, vertD_some hv]
 constructor
 ·obtain ⟨u, ok, hg, hl⟩ := hm.look_ok kLawV kMapVert kZeroVert hkl
  have hu : u = .agg (encX (vertD L v)).toArray ∧ ok = (vertV L v).isSome := by
   rcases hg with ⟨rfl, hno, rfl⟩ | ⟨rfl, hyes⟩
   ·refine ⟨key _ (.inl ⟨hno, rfl⟩), ?_⟩
    cases hv : vertV L v with
    | none => rfl
    | some x => exact ((hno (.agg (encV v).toArray, .agg (encX x).toArray) ((hE (.agg (encV v).toArray, .agg (encX x).toArray)).2 ⟨v, x, hv, rfl⟩)) rfl).elim
   ·refine ⟨key _ (.inr hyes), ?_⟩
    obtain ⟨v', x, hv, e⟩ := (hE _).1 hyes
    have e1 : Value.agg (encV v).toArray = .agg (encV v').toArray := congrArg Prod.fst e
    obtain rfl := encVa_inj e1
    rw [hv]; rfl
  obtain ⟨rfl, rfl⟩ := hu
  exact hl
 ·obtain ⟨u, hg, hl⟩ := hm.look kLawV kMapVert kZeroVert hkl
  obtain rfl := key u hg
  exact hl
/-- what is in a map once a key has a value -/
theorem PutL.mem {l l' : List (Value × Value)} {key val : Value} (h : PutL l key val l') (hp : l.Pairwise fun p q => p.1 ≠ q.1) (q : Value × Value) : q ∈ l' ↔ q = (key, val) ∨ (q.1 ≠ key ∧ q ∈ l) := by
 rcases h with ⟨h1, rfl⟩ | ⟨j, v0, h1, rfl⟩
 ·rw [List.mem_append, List.mem_singleton]
  constructor
  ·rintro (h | h)
   ·exact .inr ⟨h1 q h, h⟩
   ·exact .inl h
  ·rintro (h | h)
   ·exact .inr h
   ·exact .inl h.2
 ·obtain ⟨hj, hj2⟩ := List.getElem?_eq_some_iff.1 h1
  have hp := List.pairwise_iff_getElem.1 hp
  rw [List.mem_iff_getElem]
  constructor
  ·rintro ⟨i, hi, e⟩
   rw [List.getElem_set] at e
   rw [List.length_set] at hi
   split at e
   ·exact .inl e.symm
   ·rename_i hne
    refine .inr ⟨fun c => ?_, by rw [← e]; exact List.getElem_mem hi⟩
    rw [← e] at c
    rcases Nat.lt_or_gt_of_ne hne with c1 | c1
    ·exact hp j i hj hi c1 (by rw [hj2, c])
    ·exact hp i j hi hj c1 (by rw [hj2, c])
  ·rintro (rfl | ⟨h2, h3⟩)
   ·exact ⟨j, by rw [List.length_set]; exact hj, by rw [List.getElem_set_self]⟩
   ·obtain ⟨i, hi, e⟩ := List.getElem_of_mem h3
    refine ⟨i, by rw [List.length_set]; exact hi, ?_⟩
    rw [List.getElem_set, if_neg]
    ·exact e
    ·rintro rfl
     rw [hj2] at e
     exact h2 (by rw [← e])
/-- a vertex is put -/
theorem VertsM.put {L L' : List PatV} {E E' : List (Value × Value)} {v : VidV} {x : VertV} (hE : VertsM L E) (hp : E.Pairwise fun p q => p.1 ≠ q.1) (h : PutL E (.agg (encV v).toArray) (.agg (encX x).toArray) E') (hL : ∀ u, vertV L' u = if u = v then some x else vertV L u) : VertsM L' E' := by
 intro q
 rw [h.mem hp, hE]
 constructor
 ·rintro (rfl | ⟨h1, u, y, hu, rfl⟩)
  ·exact ⟨v, x, by rw [hL, if_pos rfl], rfl⟩
  ·exact ⟨u, y, by rw [hL, if_neg (fun e => h1 (by rw [e]))]; exact hu, rfl⟩
 ·rintro ⟨u, y, hu, rfl⟩
  rw [hL] at hu
  by_cases e : u = v
  ·rw [if_pos e] at hu
   subst e
   obtain rfl := Option.some.inj hu
   exact .inl rfl
  ·rw [if_neg e] at hu
   exact .inr ⟨fun c => e (encVa_inj c), u, y, hu, rfl⟩
theorem VertsM.same {L L' : List PatV} {E : List (Value × Value)} (hE : VertsM L E) (hL : ∀ u, vertV L' u = vertV L u) : VertsM L' E := by
 intro q
 rw [hE]
 constructor
 ·rintro ⟨u, y, hu, rfl⟩; exact ⟨u, y, by rw [hL]; exact hu, rfl⟩
 ·rintro ⟨u, y, hu, rfl⟩; exact ⟨u, y, by rw [← hL]; exact hu, rfl⟩
/-- a step is put -/
theorem EdgesM.put {L L' : List PatV} {E E' : List (Value × Value)} {e : EdgeV} (hE : EdgesM L E) (hp : E.Pairwise fun p q => p.1 ≠ q.1) (h : PutL E (.agg (encE e).toArray) (.agg (encV (fileV L' e.1)).toArray) E') (hL : ∀ x, x ∈ edgesOf L' ↔ x ∈ edgesOf L ∨ x = e) (hf : ∀ x ∈ edgesOf L, fileV L' x.1 = fileV L x.1) : EdgesM L' E' := by
 intro q
 rw [h.mem hp, hE]
 constructor
 ·rintro (rfl | ⟨h1, x, hx, rfl⟩)
  ·exact ⟨e, (hL e).2 (.inr rfl), rfl⟩
  ·exact ⟨x, (hL x).2 (.inl hx), by rw [hf x hx]⟩
 ·rintro ⟨x, hx, rfl⟩
  by_cases c : x = e
  ·subst c; exact .inl rfl
  ·refine .inr ⟨fun d => c (encEa_inj d), x, ((hL x).1 hx).elim id (fun d => absurd d c), ?_⟩
   rw [hf x (((hL x).1 hx).elim id (fun d => absurd d c))]
theorem EdgesM.same {L L' : List PatV} {E : List (Value × Value)} (hE : EdgesM L E) (hL : ∀ x, x ∈ edgesOf L' ↔ x ∈ edgesOf L) (hf : ∀ x ∈ edgesOf L, fileV L' x.1 = fileV L x.1) : EdgesM L' E := by
 intro q
 rw [hE]
 constructor
 ·rintro ⟨x, hx, rfl⟩; exact ⟨x, (hL x).2 hx, by rw [hf x hx]⟩
 ·rintro ⟨x, hx, rfl⟩; exact ⟨x, (hL x).1 hx, by rw [hf x ((hL x).1 hx)]⟩
end Go.Proofs.YtihggkmjalofiaaGreatDoor

/- A graph's memory from operation to operation of a patch: what the maps hold. No program in sight but its types. -/
namespace Go.Proofs.YtihggkmjalofiaaGreatDoor
open Go.RowKit
open Go.ChangeMaps (setBlock)

theorem raw_cut {L : List PatV} {p : PatV} {k : Nat} {v : VidV} {r : RawV} (h : rawV (L ++ [p]) v = some r) (hk : v.1 = p.1 → v.2.val < k) : rawV (L ++ [cutP p k]) v = some r := by
 rw [rawV_snoc] at h ⊢
 cases hl : rawV L v with
 | some s => rw [hl] at h; exact h
 | none =>
  rw [hl] at h
  have h2 : rawP p v = some r := h
  obtain ⟨h1, o, ho, hm, rfl⟩ := rawP_get.1 h2
  show rawP (cutP p k) v = _
  refine rawP_get.2 ⟨h1, o, ?_, hm, rfl⟩
  unfold cutP
  simp only
  rw [List.getElem?_take_of_lt (hk h1.symm)]
  exact ho
theorem gr_one {L : List PatV} {p : PatV} (h0 : grE L p = 0) {k : Nat} {o : OpV} (ho : p.2.2[k]? = some o) : goodO p.1 k o = true := (oneR_parts ((patB_parts (grE_zero h0).1).2.2.2 k o ho)).1
/-- what an operation names is there when its turn has come -/
theorem ref_cut {L : List PatV} {p : PatV} (h0 : grE L p = 0) {k : Nat} {o : OpV} (ho : p.2.2[k]? = some o) {v : VidV} (hv : v ∈ refsO o) {j : Nat} (hj : k ≤ j) : ∃ r, rawV (L ++ [p]) v = some r ∧ rawV (L ++ [cutP p j]) v = some r := by
 have hk := refB_known ((grE_zero h0).2.2.2.2 o (List.mem_of_getElem? ho)) v hv
 obtain ⟨r, hr⟩ := Option.isSome_iff_exists.1 hk
 have hg := goodO_refs (gr_one h0 ho) v hv
 exact ⟨r, hr, raw_cut hr fun e => by have := hg e; omega⟩
theorem edgesOf_cut {L : List PatV} {p : PatV} {k : Nat} {o : OpV} (hk : p.2.2[k]? = some o) (x : EdgeV) : x ∈ edgesOf (L ++ [cutP p (k + 1)]) ↔ x ∈ edgesOf (L ++ [cutP p k]) ∨ (o.1.val = 4 ∧ x = (o.2.1, o.2.2.1)) := by
 rw [edgesOf_snoc, edgesOf_snoc, edgesP_cut hk, List.mem_append, List.mem_append, List.mem_append, or_assoc]
 unfold edgeO
 by_cases h4 : o.1.val = 4
 ·rw [if_pos h4]; simp [h4]
 ·rw [if_neg h4]; simp [h4]
theorem at_ref {o : OpV} (h : o.1.val = 4) : o.2.1 ∈ refsO o ∧ o.2.2.1 ∈ refsO o := by
 unfold refsO
 rw [if_neg (by omega), if_pos h]
 simp
theorem at_kill {o : OpV} (h : o.1.val = 5) : o.2.1 ∈ refsO o := by
 unfold refsO
 rw [if_pos (by omega)]
 simp
theorem edge_file {L : List PatV} (hL : GrOk L) {p : PatV} (h0 : grE L p = 0) {k : Nat} {x : EdgeV} (hx : x ∈ edgesOf (L ++ [cutP p k])) {j : Nat} (hj : k ≤ j) : fileV (L ++ [cutP p j]) x.1 = fileV (L ++ [cutP p k]) x.1 := by
 obtain ⟨q, hq, o, ho, h4, rfl⟩ := edgesOf_mem.1 hx
 unfold fileV
 rcases List.mem_append.1 hq with hq | hq
 ·have := hL.known q hq o ho _ (at_ref h4).1
  obtain ⟨r, hr⟩ := Option.isSome_iff_exists.1 this
  rw [fileF_of (rawV_more hr _), fileF_of (rawV_more hr _)]
 ·obtain rfl := List.mem_singleton.1 hq
  obtain ⟨i, hi, e⟩ := List.getElem_of_mem ho
  unfold cutP at hi e
  simp only at hi e
  rw [List.getElem_take] at e
  rw [List.length_take] at hi
  have hi2 : p.2.2[i]? = some o := by rw [List.getElem?_eq_getElem (by omega), e]
  obtain ⟨r, _, h1⟩ := ref_cut h0 hi2 (at_ref h4).1 (j := j) (by omega)
  obtain ⟨r', _, h2⟩ := ref_cut h0 hi2 (at_ref h4).1 (j := k) (by omega)
  have e1 := raw_cut (k := j) ‹rawV (L ++ [p]) o.2.1 = some r› (fun e => by have := goodO_refs (gr_one h0 hi2) _ (at_ref h4).1 e; omega)
  have e2 := raw_cut (k := k) ‹rawV (L ++ [p]) o.2.1 = some r› (fun e => by have := goodO_refs (gr_one h0 hi2) _ (at_ref h4).1 e; omega)
  rw [fileF_of e1, fileF_of e2]
theorem opsN_cut {L : List PatV} {p : PatV} {k : Nat} {o : OpV} (hk : p.2.2[k]? = some o) : opsN (L ++ [cutP p (k + 1)]) = opsN (L ++ [cutP p k]) + 1 := by
 have := (List.getElem?_eq_some_iff.1 hk).1
 rw [opsN_snoc, opsN_snoc]
 unfold cutP
 simp only [List.length_take]
 omega
section
variable {w : World} {F : Nat → Prop} {g gm ge : Nat} {L L' : List PatV}
/-- the vertices' map is written -/
theorem GrCells.setM (h : GrCells w F g L gm ge) (hF : ∀ k, F k → k < w.heap.size) (hg : F g) {o : Obj} {E' : List (Value × Value)} (hm : MapIs Tryz.prog 120 (setBlock w gm o) gm E') (hv : VertsM L' E') (hl : E'.length ≤ opsN L') (h1 : vecL L' = vecL L) (h2 : ∀ x, x ∈ edgesOf L' ↔ x ∈ edgesOf L) (h3 : ∀ x ∈ edgesOf L, fileV L' x.1 = fileV L x.1) (h4 : opsN L ≤ opsN L') :
  GraphM (setBlock w gm o) F g L' ∧ Kept F w (setBlock w gm o) := by
 obtain ⟨f1, f2, f3, f4, f5⟩ := h.inF
 obtain ⟨Ee, m1, m2, m3⟩ := h.emap
 have kep : Kept F w (setBlock w gm o) := Kept.setBlock (Kept.refl _ _) (.inl f1) o
 refine ⟨⟨fun k hk => Nat.lt_of_lt_of_le (hF k hk) kep.size, hg, gm, ge, E', Ee, ?_, h.inF, hm, m1.keep (setBlock_other (Ne.symm f5)), hv, m2.same h2 h3, hl, by omega⟩, kep⟩
 rw [h1]
 exact h.blk.setBlock f3 o
/-- the steps' map is written -/
theorem GrCells.setE (h : GrCells w F g L gm ge) (hF : ∀ k, F k → k < w.heap.size) (hg : F g) {o : Obj} {E' : List (Value × Value)} (hm : MapIs Tryz.prog 137 (setBlock w ge o) ge E') (hv : EdgesM L' E') (hl : E'.length ≤ opsN L') (h1 : vecL L' = vecL L) (h2 : ∀ v, vertV L' v = vertV L v) (h4 : opsN L ≤ opsN L') :
  GraphM (setBlock w ge o) F g L' ∧ Kept F w (setBlock w ge o) := by
 obtain ⟨f1, f2, f3, f4, f5⟩ := h.inF
 obtain ⟨E, m1, m2, m3⟩ := h.map
 have kep : Kept F w (setBlock w ge o) := Kept.setBlock (Kept.refl _ _) (.inl f2) o
 refine ⟨⟨fun k hk => Nat.lt_of_lt_of_le (hF k hk) kep.size, hg, gm, ge, E, E', ?_, h.inF, m1.keep (setBlock_other f5), hm, m2.same h2, hv, by omega, hl⟩, kep⟩
 rw [h1]
 exact h.blk.setBlock f4 o
end
/-- the vertex that an operation makes, as the program builds it -/
def madeX (p : PatV) (k : Nat) (o : OpV) : VertV := (vidOf p.1 (k : Int), o.1, (if o.1.val = 1 then vidOf p.1 (k : Int) else o.2.1), o.2.2.2, false)
theorem vert_at {L : List PatV} {v : VidV} {r : RawV} (h : rawV L v = some r) : vertV L v = some (vertD L v) := by
 unfold vertD vertV
 rw [h]; rfl
def killX (x : VertV) : VertV := (x.1, x.2.1, x.2.2.1, x.2.2.2.1, true)
theorem vert_file {L : List PatV} {v : VidV} {r : RawV} (h : rawV L v = some r) : (vertD L v).2.2.1 = fileV L v := by
 unfold vertD vertV fileV
 rw [h, fileF_of h]; rfl
section
variable {w : World} {F : Nat → Prop} {g gm ge : Nat} {L : List PatV} {p : PatV} {k : Nat} {o : OpV}
theorem step_made (hL : GrOk L) (h0 : grE L p = 0) (hk : p.2.2[k]? = some o) (hm : makesO o = true) (h : GrCells w F g (L ++ [cutP p k]) gm ge) (hF : ∀ k, F k → k < w.heap.size) (hg : F g) {ob : Obj} {E E' : List (Value × Value)} (hE : VertsM (L ++ [cutP p k]) E) (hp : E.Pairwise fun p q => p.1 ≠ q.1) (hl : E.length ≤ opsN (L ++ [cutP p k]))
  (hput : PutL E (.agg (encV (vidOf p.1 (k : Int))).toArray) (.agg (encX (madeX p k o)).toArray) E') (hM : MapIs Tryz.prog 120 (setBlock w gm ob) gm E') : GraphM (setBlock w gm ob) F g (L ++ [cutP p (k + 1)]) ∧ Kept F w (setBlock w gm ob) := by
 have h200 := (patB_parts (grE_zero h0).1).2.2.1
 have hlt := (List.getElem?_eq_some_iff.1 hk).1
 have h4 : o.1.val ≠ 4 := by unfold makesO at hm; have := of_decide_eq_true hm; omega
 refine h.setM hF hg hM (hE.put hp hput fun u => vert_made hL (hL.hasnt (grE_zero h0).2.1) (fun j x hj => gr_one h0 hj) hk (by omega) hm u) ?_ (by rw [vecL_cut, vecL_cut]) (fun x => ?_) (fun x hx => edge_file hL h0 hx (Nat.le_succ k)) (by rw [opsN_cut hk]; omega)
 ·rw [opsN_cut hk]
  have := hput.len
  omega
 ·rw [edgesOf_cut hk]
  exact ⟨fun h => h.elim id (fun h => absurd h.1 h4), .inl⟩
theorem step_kill (hL : GrOk L) (h0 : grE L p = 0) (hk : p.2.2[k]? = some o) (h5 : o.1.val = 5) (h : GrCells w F g (L ++ [cutP p k]) gm ge) (hF : ∀ k, F k → k < w.heap.size) (hg : F g) {ob : Obj} {E E' : List (Value × Value)} (hE : VertsM (L ++ [cutP p k]) E) (hp : E.Pairwise fun p q => p.1 ≠ q.1) (hl : E.length ≤ opsN (L ++ [cutP p k]))
  (hput : PutL E (.agg (encV o.2.1).toArray) (.agg (encX (killX (vertD (L ++ [cutP p k]) o.2.1))).toArray) E') (hM : MapIs Tryz.prog 120 (setBlock w gm ob) gm E') : GraphM (setBlock w gm ob) F g (L ++ [cutP p (k + 1)]) ∧ Kept F w (setBlock w gm ob) := by
 obtain ⟨r, _, hr⟩ := ref_cut h0 hk (at_kill h5) (Nat.le_refl k)
 refine h.setM hF hg hM (hE.put hp hput fun u => ?_) ?_ (by rw [vecL_cut, vecL_cut]) (fun x => ?_) (fun x hx => edge_file hL h0 hx (Nat.le_succ k)) (by rw [opsN_cut hk]; omega)
 ·rw [vert_kill hk h5]
  by_cases e : u = o.2.1
  ·rw [if_pos e, if_pos e, e, vert_at hr]; rfl
  ·rw [if_neg e, if_neg e]
 ·rw [opsN_cut hk]
  have := hput.len
  omega
 ·rw [edgesOf_cut hk]
  exact ⟨fun h => h.elim id (fun h => absurd h.1 (by omega)), .inl⟩
theorem step_edge (hL : GrOk L) (h0 : grE L p = 0) (hk : p.2.2[k]? = some o) (h4 : o.1.val = 4) (h : GrCells w F g (L ++ [cutP p k]) gm ge) (hF : ∀ k, F k → k < w.heap.size) (hg : F g) {ob : Obj} {E E' : List (Value × Value)} (hE : EdgesM (L ++ [cutP p k]) E) (hp : E.Pairwise fun p q => p.1 ≠ q.1) (hl : E.length ≤ opsN (L ++ [cutP p k]))
  (hput : PutL E (.agg (encE (o.2.1, o.2.2.1)).toArray) (.agg (encV (vertD (L ++ [cutP p k]) o.2.1).2.2.1).toArray) E') (hM : MapIs Tryz.prog 137 (setBlock w ge ob) ge E') : GraphM (setBlock w ge ob) F g (L ++ [cutP p (k + 1)]) ∧ Kept F w (setBlock w ge ob) := by
 obtain ⟨r, hr0, hr⟩ := ref_cut h0 hk (at_ref h4).1 (Nat.le_refl k)
 obtain ⟨r', hr0', hr'⟩ := ref_cut h0 hk (at_ref h4).1 (Nat.le_succ k)
 have e : (vertD (L ++ [cutP p k]) o.2.1).2.2.1 = fileV (L ++ [cutP p (k + 1)]) o.2.1 := by
  rw [vert_file hr]
  unfold fileV
  rw [hr0] at hr0'
  obtain rfl := Option.some.inj hr0'
  rw [fileF_of hr, fileF_of hr']
 rw [e] at hput
 refine h.setE hF hg hM (hE.put (e := (o.2.1, o.2.2.1)) hp hput (fun x => ?_) (fun x hx => edge_file hL h0 hx (Nat.le_succ k))) ?_ (by rw [vecL_cut, vecL_cut]) (fun v => vert_edge hk h4 v) (by rw [opsN_cut hk]; omega)
 ·rw [edgesOf_cut hk]
  exact ⟨fun h => h.elim .inl (fun h => .inr h.2), fun h => h.elim .inl (fun h => .inr ⟨h4, h⟩)⟩
 ·rw [opsN_cut hk]
  have := hput.len
  omega
end
end Go.Proofs.YtihggkmjalofiaaGreatDoor
