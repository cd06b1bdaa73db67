/- An index: what it holds is told: walked. -/
import Derived.Test.YtnhbbggpgieipaaGreatIdxb
import Derived.Test.YtnhbbggpgieipaaGreatGuard
import Derived.Deep.DeepCutAuto
namespace Go.Proofs.YtnhbbggpgieipaaGreat
open Go.RowKit

theorem patB_len {p : PatV} (h : patB p = true) : p.2.1.length ≤ 1000 ∧ p.2.2.length ≤ 200 := by
  unfold patB at h
  simp only [Bool.and_eq_true, decide_eq_true_eq] at h
  obtain ⟨_, _, h2, h3, _⟩ := h
  have := depsV_le p.1 p.2.2
  rw [← h3] at this
  omega
theorem underIdx : Tryz.prog.underlying 94 = some (.struct (Tryz.prog.fieldsOf 94)) := by kernel_rfl
theorem kLawI : Go.WideMaps.KeyLaw Tryz.prog 33 := deep_law_laid (by kernel_rfl) (m := 4) (by omega) (of_decide_eq_true (by kernel_rfl)) (by kernel_rfl) (by kernel_rfl)
theorem kMapI : Tryz.prog.underlying 92 = some (.map 33 3) := by kernel_rfl
theorem kKeyP (d : PidV) : ∃ kl, keyOf Tryz.prog 33 (.agg (encP d).toArray) = some kl :=
  keyOf_flat (ks := [.int .u8, .int .u16]) (by kernel_rfl) (by kernel_rfl) (by kernel_rfl) (by kernel_rfl) (of_decide_eq_true (by kernel_rfl)) ⟨⟨_, rfl, lit_u8 _⟩, ⟨_, rfl, lit_u16 _⟩, trivial⟩
theorem idxC_size {v : List Int} (hv : VecOk v) (s : Value) (gm : Nat) : (idxC v s gm).size = 66 := by
  unfold idxC
  rw [Array.size_append, vecA_size, hv.len]; rfl
section
variable {w : World} {g gm : Nat} {t : TypeId} {v : List Int} {s : Value}
theorem idx_s (hv : VecOk v) (h : Blk w g t (idxC v s gm)) : w.cell? ⟨g, 64, none⟩ = some s := by
  rw [h.cell 64]
  unfold idxC
  rw [Array.getElem?_append_right (by rw [vecA_size, hv.len]; exact Nat.le_refl _), vecA_size, hv.len]; rfl
theorem idx_m (hv : VecOk v) (h : Blk w g t (idxC v s gm)) : w.cell? ⟨g, 65, none⟩ = some (.map (some gm)) := by
  rw [h.cell 65]
  unfold idxC
  rw [Array.getElem?_append_right (by rw [vecA_size, hv.len]; omega), vecA_size, hv.len]; rfl
theorem idx_v (h : Blk w g t (idxC v s gm)) : w.rangeAt g 0 (v.map (Value.int .u16)) := by
  intro j u hj
  rw [Nat.zero_add, h.cell j]
  unfold idxC
  have hl := (List.getElem?_eq_some_iff.1 hj).1
  rw [List.length_map] at hl
  rw [Array.getElem?_append_left (by rw [vecA_size]; exact hl)]
  unfold vecA
  simpa using hj
end
/-- what an index's cells are, in any world that has only more -/
structure IdxCells (w : World) (F : Nat → Prop) (g : Nat) (L : List PatV) (A : Option Addr) (c gm : Nat) : Prop where
  s : ∀ z : Ext w, z.w.cell? ⟨g, 64, none⟩ = some (.slice A L.length c)
  m : ∀ z : Ext w, z.w.cell? ⟨g, 65, none⟩ = some (.map (some gm))
  v : w.rangeAt g 0 ((vecL L).map (Value.int .u16))
  lt : g < w.heap.size
  map : MapIs Tryz.prog 33 w gm (idxM L)
  pats : PatsIn w F A L.length L
theorem IdxAt.cells {w : World} {F : Nat → Prop} {g : Nat} {L : List PatV} (h : IdxAt w F g L) : ∃ A c gm, IdxCells w F g L A c gm := by
  obtain ⟨h1, h2, h3, s, gm, rows, D, k1, k2, k3, k4, k5, k6, k7⟩ := h
  obtain ⟨A, c, rfl, _, hs⟩ := Sl.of_own k4
  have hv := vecL_ok L
  exact ⟨A, c, gm, fun z => idx_s hv (k1.ext z.h), fun z => idx_m hv (k1.ext z.h), idx_v k1, h2 g h3, k3, rfl, fun _ b o e => k5 b (by subst e; rfl), rows, k6.mono fun k e => (k7 k e).1, hs⟩
theorem PatsIn.pat_ {w : World} {G : Nat → Prop} {A : Option Addr} {n : Nat} {l : List PatV} (h : PatsIn w G A n l) {k : Nat} (hk : k < n) : ∃ b o x r, A = some ⟨b, o, none⟩ ∧ b < w.heap.size ∧ l[k]? = some x ∧ PatIn w G r x ∧ w.rangeAt b (o + k * 4) r := by
  obtain ⟨rows, h1, h2⟩ := h.ex
  have hk1 : k < l.length := by rw [h.len]; exact hk
  have hk2 : k < rows.length := by rw [h1.1]; exact hk1
  have e : rows.flatten = rows.flatMap id := by simp [List.flatMap_def]
  rw [e] at h2
  obtain ⟨b, o, rfl, hb, hr⟩ := h2.rowAt (by rw [h1.1, h.len]) (fun x hx => h1.rowsP.len4 x hx) hk2
  exact ⟨b, o, l[k], rows[k], rfl, hb, List.getElem?_eq_getElem hk1, h1.2 k _ _ (List.getElem?_eq_getElem hk2) (List.getElem?_eq_getElem hk1), hr⟩
theorem pid_range {w : World} {b o : Nat} {id : PidV} {A : Option Addr} {n c : Nat} {A' : Option Addr} {n' c' : Nat} (h : w.rangeAt b o (patC id A n c A' n' c')) : w.rangeAt b o (encP id) := fun j v hj =>
  match j, hj with
  | 0, hj => h 0 v hj
  | 1, hj => h 1 v hj
  | j + 2, hj => by simp [encP] at hj

set_option maxRecDepth 100000 in
set_option maxHeartbeats 1000000 in
theorem len31_any {w : World} {F : Nat → Prop} {g : Nat} {L : List PatV} (hI : IdxAt w F g L) :
    Calls Tryz.prog 31 #[.pointer (some ⟨g, 0, none⟩)] w (Ret w (.int .i64 L.length)) := by
  obtain ⟨A, c, gm, h⟩ := hI.cells
  have c64 : w.cell? ⟨g, 64, none⟩ = some (.slice A L.length c) := h.s ⟨w, Below.refl _ _⟩
  clear h hI
  go_enter Tryz.func31, Tryz.ntmps31
  go_wp2
  go_ret
  exact ⟨rfl, rfl⟩

set_option maxRecDepth 100000 in
set_option maxHeartbeats 1000000 in
theorem vec31_any {w : World} {F : Nat → Prop} {g : Nat} {L : List PatV} (hI : IdxAt w F g L) :
    Calls Tryz.prog 38 #[.pointer (some ⟨g, 0, none⟩)] w (RetB w (.agg (vecA (vecL L)))) := by
  have B0 : Hid (Below w.heap.size w (w.alloc (.cells (vecA vec0) 39))) := below_new _ _
  have K1 : Hid (Blk (w.alloc (.cells (vecA vec0) 39)) w.heap.size 39 (vecA vec0)) := Blk.new _ _ _
  have hs1 : Hid ((vecA (vecL L)).size = 64) := by rw [Hid, vecA_size]; exact (vecL_ok L).len
  have hs2 : Hid ((vecA vec0).size = 64) := by rw [Hid, vecA_size]; simp [vec0]
  have h1 := Lib.hid (vecA_one (vecL L))
  have hl1 : Hid (((vecL L).map (Value.int .u16)).length = 64) := by rw [Hid, List.length_map]; exact (vecL_ok L).len
  obtain ⟨A, c, gm, h⟩ := hI.cells
  have R := Lib.hid (rangeAt_below h.v B0.out h.lt)
  clear h hI
  go_enter Tryz.func38, Tryz.ntmps38
  go_wp2_with (first
    | (refine wpList_alloced (alloc64 _) ?_)
    | (refine wpList_load_mid rfl 39 _ (by rfl) g 0 (by rfl) _ _ R.out under64 rfl (by rw [hl1.out]; exact info64) ?_)
    | (refine wpList_store_row rfl 39 _ _ (by rfl) w.heap.size (vecA (vecL L)) (by rfl) (by rfl) _ _ K1.out (by rw [hs1.out]; exact info64) (by rw [hs1.out, hs2.out]) h1.out ?_))
  refine bodyPost_ret (results_cell_row rfl _ _ w.heap.size _ (vecA (vecL L)) _ _ rfl (K1.out.row _) under64 rfl (by rw [hs1.out]; exact info64)) rfl ?_
  exact ⟨rfl, below_setRow B0.out (Nat.le_refl _) _⟩
end Go.Proofs.YtnhbbggpgieipaaGreat
