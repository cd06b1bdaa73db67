/- Vectors: joined and met. -/
import Derived.Test.YtceapefjdiphpaaQuiet
namespace Go.Proofs.Ytceapefjdiphpaa
open Go.RowKit

def vecA (l : List Int) : Array Value := (l.map (Value.int .u16)).toArray
/-- a vector's numbers -/
structure VecOk (l : List Int) : Prop where
  len : l.length = 64
  bd : ∀ n ∈ l, 0 ≤ n ∧ n ≤ 65535
theorem VecOk.get {l : List Int} (h : VecOk l) (k : Nat) (hk : k < 64) : 0 ≤ l.getD k 0 ∧ l.getD k 0 ≤ 65535 := by
  have hl : k < l.length := by rw [h.len]; exact hk
  rw [List.getD_eq_getElem?_getD, List.getElem?_eq_getElem hl]; exact h.bd _ (List.getElem_mem hl)
theorem vecOk_of {l : List Int} (hl : l.length = 64) (hw : ∀ z ∈ l, (Lit.int .u16 z).wf = true) : VecOk l :=
  ⟨hl, fun n hn => by have := hw n hn; simp [Lit.wf, IntKind.min, IntKind.max, IntKind.signed, IntKind.bits] at this; omega⟩
theorem vecA_get (l : List Int) (k : Nat) (hk : k < l.length) : (vecA l)[k]? = some (.int .u16 (l.getD k 0)) := by
  simp [vecA, hk]
theorem vecA_set (l : List Int) (k : Nat) (v : Int) : (vecA l).setIfInBounds k (.int .u16 v) = vecA (l.set k v) := by
  simp [vecA, List.map_set]
theorem vecA_size (l : List Int) : (vecA l).size = l.length := by simp [vecA]
theorem vecA_one (l : List Int) : (vecA l).all (·.oneCell') = true := by
  simp [vecA, Value.oneCell']
def vec0 : List Int := List.replicate 64 0
theorem alloc64 (w : World) : (Instr.alloc 24 true (.tuple #[])).run Try.prog w = .ok (.pointer (some ⟨w.heap.size, 0, none⟩)) (w.alloc (.cells (vecA vec0) 24)) := by kernel_rfl
theorem info64 : (Try.prog.info? 24).map (·.size) = some 64 := by kernel_rfl
theorem under64 : Try.prog.underlying 24 = some (.array 64 22) := by kernel_rfl
theorem mixed : Try.prog.follows .mixedOrders = true := by kernel_rfl

/-- two lists put together, place by place: as far as a loop has come -/
def zipTo (f : Int → Int → Int) (a b : List Int) (k : Nat) : List Int := (List.zipWith f a b).take k ++ a.drop k
theorem zipTo_zero (f : Int → Int → Int) (a b : List Int) : zipTo f a b 0 = a := by simp [zipTo]
theorem zipTo_all (f : Int → Int → Int) {a b : List Int} (ha : a.length = 64) (hb : b.length = 64) : zipTo f a b 64 = List.zipWith f a b := by
  simp [zipTo, ha, hb, List.take_of_length_le, List.drop_eq_nil_of_le]
theorem zipTo_len (f : Int → Int → Int) {a b : List Int} (ha : a.length = 64) (hb : b.length = 64) (k : Nat) (hk : k ≤ 64) : (zipTo f a b k).length = 64 := by
  simp [zipTo, ha, hb]; omega
theorem zipTo_get (f : Int → Int → Int) {a b : List Int} (ha : a.length = 64) (hb : b.length = 64) (k : Nat) (hk : k < 64) : (zipTo f a b k).getD k 0 = a.getD k 0 := by
  have h1 : ((List.zipWith f a b).take k).length = k := by simp [ha, hb]; omega
  rw [zipTo, List.getD_eq_getElem?_getD, List.getD_eq_getElem?_getD, List.getElem?_append_right (Nat.le_of_eq h1), h1, Nat.sub_self, List.getElem?_drop]; rfl
theorem zipTo_succ (f : Int → Int → Int) {a b : List Int} (ha : a.length = 64) (hb : b.length = 64) (k : Nat) (hk : k < 64) : (zipTo f a b k).set k (f (a.getD k 0) (b.getD k 0)) = zipTo f a b (k + 1) := by
  have h1 : ((List.zipWith f a b).take k).length = k := by simp [ha, hb]; omega
  have hl : k < (List.zipWith f a b).length := by simp [ha, hb]; omega
  have e : a.drop k = a[k] :: a.drop (k + 1) := List.drop_eq_getElem_cons (by omega)
  have ga : a.getD k 0 = a[k] := by simp [List.getD_eq_getElem?_getD, ha, hk]
  have gb : b.getD k 0 = b[k] := by simp [List.getD_eq_getElem?_getD, hb, hk]
  rw [zipTo, zipTo, List.take_succ_eq_append_getElem hl, List.set_append_right (h := Nat.le_of_eq h1), h1, e, ga, gb]
  simp only [Nat.sub_self, List.set_cons_zero, List.append_assoc, List.cons_append, List.nil_append, List.getElem_zipWith]
theorem zipTo_skip (f : Int → Int → Int) {a b : List Int} (ha : a.length = 64) (hb : b.length = 64) (k : Nat) (hk : k < 64) (h : f (a.getD k 0) (b.getD k 0) = a.getD k 0) : zipTo f a b k = zipTo f a b (k + 1) := by
  rw [← zipTo_succ f ha hb k hk, h]
  have := zipTo_get f ha hb k hk
  rw [← this]
  apply List.ext_getElem?
  intro i
  rw [List.getElem?_set]
  split
  · rename_i hi
    subst hi
    have hl : k < (zipTo f a b k).length := by rw [zipTo_len f ha hb k (by omega)]; exact hk
    simp [List.getD_eq_getElem?_getD, hl]
  · rfl
def joinV (a b : List Int) : List Int := List.zipWith max a b
def meetV (a b : List Int) : List Int := List.zipWith min a b
theorem VecOk.zip {a b : List Int} (f : Int → Int → Int) (hf : ∀ x y, f x y = x ∨ f x y = y) (ha : VecOk a) (hb : VecOk b) : VecOk (List.zipWith f a b) := by
  refine ⟨by simp [ha.len, hb.len], fun n hn => ?_⟩
  obtain ⟨i, hi, rfl⟩ := List.getElem_of_mem hn
  have h1 : i < a.length := by simp at hi; omega
  have h2 : i < b.length := by simp at hi; omega
  rw [List.getElem_zipWith]
  rcases hf a[i] b[i] with h | h
  · rw [h]; exact ha.bd _ (List.getElem_mem h1)
  · rw [h]; exact hb.bd _ (List.getElem_mem h2)
theorem VecOk.join {a b : List Int} (ha : VecOk a) (hb : VecOk b) : VecOk (joinV a b) := ha.zip max (fun x y => by omega) hb
theorem VecOk.meet {a b : List Int} (ha : VecOk a) (hb : VecOk b) : VecOk (meetV a b) := ha.zip min (fun x y => by omega) hb

set_option maxRecDepth 100000 in
set_option maxHeartbeats 1000000 in
theorem join_any (a b : List Int) (ha : VecOk a) (hb : VecOk b) (w : World) : Calls Try.prog 19 #[.agg (vecA a), .agg (vecA b)] w (RetB w (.agg (vecA (joinV a b)))) := by
  have HA := Lib.hid ha
  have HB := Lib.hid hb
  clear ha hb
  go_enter Try.func19, Try.ntmps19
  go_wp2_with (refine wpList_alloced (alloc64 _) ?_)
  have B0 : Hid (Below w.heap.size w (((w.alloc (.cells (vecA a) 24)).alloc (.cells (vecA b) 24)).alloc (.cells (vecA vec0) 24))) :=
    (((Below.refl _ _).alloc (Nat.le_refl _) _).alloc (by simp) _).alloc (by simp; omega) _
  have K1 : Hid (Blk (((w.alloc (.cells (vecA a) 24)).alloc (.cells (vecA b) 24)).alloc (.cells (vecA vec0) 24)) w.heap.size 24 (vecA (zipTo max a b 0))) := by rw [zipTo_zero]; exact ((Blk.new _ _ _).alloc _).alloc _
  have K2 : Hid (Blk (((w.alloc (.cells (vecA a) 24)).alloc (.cells (vecA b) 24)).alloc (.cells (vecA vec0) 24)) (w.heap.size + 1) 24 (vecA b)) := (Blk.newAt (by simp) _ _).alloc _
  have K3 : Hid (Blk (((w.alloc (.cells (vecA a) 24)).alloc (.cells (vecA b) 24)).alloc (.cells (vecA vec0) 24)) (w.heap.size + 1 + 1) 24 (vecA vec0)) := Blk.newAt (by simp) _ _
  go_loopw [6] (fun i wr => ∃ k : Nat, k ≤ 64 ∧ i = .int .i64 k ∧ Blk wr w.heap.size 24 (vecA (zipTo max a b k)) ∧ Blk wr (w.heap.size + 1) 24 (vecA b) ∧ Blk wr (w.heap.size + 1 + 1) 24 (vecA vec0) ∧ Below w.heap.size w wr) (fun i _ => 64 - (intOf i).toNat)
  case atStart => exact ⟨0, by omega, rfl, K1.out, K2.out, K3.out, B0.out⟩
  case round =>
    obtain ⟨k, hk, rfl, k1, k2, k3, b0⟩ := hrel
    clear K1 K2 K3 B0
    have K1 := Lib.hid k1
    have K2 := Lib.hid k2
    have K3 := Lib.hid k3
    have B0 := Lib.hid b0
    clear k1 k2 k3 b0
    have e3 := K3.out.lt
    by_cases hlt : k < 64
    · have c1 := K1.out.cell k
      rw [vecA_get _ _ (by rw [zipTo_len _ HA.out.len HB.out.len k hk]; exact hlt), zipTo_get _ HA.out.len HB.out.len k hlt] at c1
      have c2 := K2.out.cell k
      rw [vecA_get _ _ (by rw [HB.out.len]; exact hlt)] at c2
      have f1 := K1.out.fr k
      obtain ⟨x0, x1⟩ := HA.out.get k hlt
      obtain ⟨y0, y1⟩ := HB.out.get k hlt
      have S := Lib.hid (zipTo_succ max HA.out.len HB.out.len k hlt)
      generalize a.getD k 0 = x at *
      generalize b.getD k 0 = y at *
      have hb0 : (0 : Int) ≤ (k : Int) := by omega
      have hb1 : (k : Int) < 64 := by omega
      by_cases hxy : x < y
      · go_wp2_with fail
        go_region
        all_goals
          go_wp2
          go_roundw
          case rel => exact ⟨k + 1, by omega, by go_num, by rw [← S.out, show max x y = y by omega]; have := K1.out.set_ k (.int .u16 y); rw [vecA_set] at this; exact this, K2.out.far (by simp) _, K3.out.far (by simp; omega) _, (B0.out.setCell (p := ⟨w.heap.size, k, none⟩) (Nat.le_refl _) _).drew⟩
          case measure => simp [intOf]; omega
      · go_wp2_with fail
        go_region
        all_goals
          go_wp2
          go_roundw
          case rel => exact ⟨k + 1, by omega, by go_num, by rw [← S.out, show max x y = x by omega]; have := K1.out.set_ k (.int .u16 x); rw [vecA_set] at this; exact this, K2.out.far (by simp) _, K3.out.far (by simp; omega) _, (B0.out.setCell (p := ⟨w.heap.size, k, none⟩) (Nat.le_refl _) _).drew⟩
          case measure => simp [intOf]; omega
    · have hk' : k = 64 := by omega
      subst hk'
      have K1' : Hid (Blk wr w.heap.size 24 (vecA (joinV a b))) := by have := K1.out; rw [zipTo_all _ HA.out.len HB.out.len] at this; exact this
      have hs1 : Hid ((vecA (joinV a b)).size = 64) := by rw [Hid, vecA_size]; simp [joinV, HA.out.len, HB.out.len]
      go_wp2_with (first
        | (refine wpList_load_row rfl 24 _ (by rfl) w.heap.size (by rfl) _ _ _ _ K1'.out under64 rfl (by rw [hs1.out]; exact info64) ?_)
        | (refine wpList_store_row rfl 24 _ _ (by rfl) (w.heap.size + 1 + 1) _ (by rfl) (by rfl) _ _ K3.out (by rw [hs1.out]; exact info64) (by rw [hs1.out]; simp [vecA_size, vec0]) (vecA_one _) ?_))
      refine bodyPost_ret (results_cell_row rfl _ _ (w.heap.size + 1 + 1) _ (vecA (joinV a b)) _ _ rfl (K3.out.row _) under64 rfl (by rw [hs1.out]; exact info64)) rfl ?_
      exact ⟨rfl, below_setRow B0.out (by omega) _⟩
set_option maxRecDepth 100000 in
set_option maxHeartbeats 1000000 in
theorem rjoin_any (a b : List Int) (ha : VecOk a) (hb : VecOk b) (w : World) : Calls Try.prog 22 #[.agg (vecA a), .agg (vecA b)] w (RetB w (.agg (vecA (joinV a b)))) := by
  have HA := Lib.hid ha
  have HB := Lib.hid hb
  clear ha hb
  go_enter Try.func22, Try.ntmps22
  go_wp2_with (refine wpList_alloced (alloc64 _) ?_)
  have B0 : Hid (Below w.heap.size w (((w.alloc (.cells (vecA a) 24)).alloc (.cells (vecA b) 24)).alloc (.cells (vecA vec0) 24))) :=
    (((Below.refl _ _).alloc (Nat.le_refl _) _).alloc (by simp) _).alloc (by simp; omega) _
  have K1 : Hid (Blk (((w.alloc (.cells (vecA a) 24)).alloc (.cells (vecA b) 24)).alloc (.cells (vecA vec0) 24)) w.heap.size 24 (vecA (zipTo max a b 0))) := by rw [zipTo_zero]; exact ((Blk.new _ _ _).alloc _).alloc _
  have K2 : Hid (Blk (((w.alloc (.cells (vecA a) 24)).alloc (.cells (vecA b) 24)).alloc (.cells (vecA vec0) 24)) (w.heap.size + 1) 24 (vecA b)) := (Blk.newAt (by simp) _ _).alloc _
  have K3 : Hid (Blk (((w.alloc (.cells (vecA a) 24)).alloc (.cells (vecA b) 24)).alloc (.cells (vecA vec0) 24)) (w.heap.size + 1 + 1) 24 (vecA vec0)) := Blk.newAt (by simp) _ _
  go_loopw [5] (fun i wr => ∃ k : Nat, k ≤ 64 ∧ i = .int .i64 k ∧ Blk wr w.heap.size 24 (vecA (zipTo max a b k)) ∧ Blk wr (w.heap.size + 1) 24 (vecA b) ∧ Blk wr (w.heap.size + 1 + 1) 24 (vecA vec0) ∧ Below w.heap.size w wr) (fun i _ => 64 - (intOf i).toNat)
  case atStart => exact ⟨0, by omega, rfl, K1.out, K2.out, K3.out, B0.out⟩
  case round =>
    obtain ⟨k, hk, rfl, k1, k2, k3, b0⟩ := hrel
    clear K1 K2 K3 B0
    have K1 := Lib.hid k1
    have K2 := Lib.hid k2
    have K3 := Lib.hid k3
    have B0 := Lib.hid b0
    clear k1 k2 k3 b0
    have e3 := K3.out.lt
    by_cases hlt : k < 64
    · have c1 := K1.out.cell k
      rw [vecA_get _ _ (by rw [zipTo_len _ HA.out.len HB.out.len k hk]; exact hlt), zipTo_get _ HA.out.len HB.out.len k hlt] at c1
      have c2 := K2.out.cell k
      rw [vecA_get _ _ (by rw [HB.out.len]; exact hlt)] at c2
      have f1 := K1.out.fr k
      obtain ⟨x0, x1⟩ := HA.out.get k hlt
      obtain ⟨y0, y1⟩ := HB.out.get k hlt
      have S := Lib.hid (zipTo_succ max HA.out.len HB.out.len k hlt)
      have Z := Lib.hid (zipTo_skip max HA.out.len HB.out.len k hlt)
      generalize a.getD k 0 = x at *
      generalize b.getD k 0 = y at *
      have hb0 : (0 : Int) ≤ (k : Int) := by omega
      have hb1 : (k : Int) < 64 := by omega
      by_cases hxy : x < y
      · go_wp2_with fail
        go_quiet (fail)
        go_wp2
        go_roundw
        case rel => exact ⟨k + 1, by omega, by go_num, by rw [← S.out, show max x y = y by omega]; have := K1.out.set_ k (.int .u16 y); rw [vecA_set] at this; exact this, K2.out.far (by simp) _, K3.out.far (by simp; omega) _, below_drewN (B0.out.setCell (p := ⟨w.heap.size, k, none⟩) (Nat.le_refl _) _) _⟩
        case measure => simp [intOf]; omega
      · go_wp2_with fail
        go_quiet (fail)
        go_wp2
        go_roundw
        case rel => exact ⟨k + 1, by omega, by go_num, by rw [← Z.out (by omega)]; exact K1.out, K2.out, K3.out, below_drewN B0.out _⟩
        case measure => simp [intOf]; omega
    · have hk' : k = 64 := by omega
      subst hk'
      have K1' : Hid (Blk wr w.heap.size 24 (vecA (joinV a b))) := by have := K1.out; rw [zipTo_all _ HA.out.len HB.out.len] at this; exact this
      have hs1 : Hid ((vecA (joinV a b)).size = 64) := by rw [Hid, vecA_size]; simp [joinV, HA.out.len, HB.out.len]
      go_wp2_with (first
        | (refine wpList_load_row rfl 24 _ (by rfl) w.heap.size (by rfl) _ _ _ _ K1'.out under64 rfl (by rw [hs1.out]; exact info64) ?_)
        | (refine wpList_store_row rfl 24 _ _ (by rfl) (w.heap.size + 1 + 1) _ (by rfl) (by rfl) _ _ K3.out (by rw [hs1.out]; exact info64) (by rw [hs1.out]; simp [vecA_size, vec0]) (vecA_one _) ?_))
      refine bodyPost_ret (results_cell_row rfl _ _ (w.heap.size + 1 + 1) _ (vecA (joinV a b)) _ _ rfl (K3.out.row _) under64 rfl (by rw [hs1.out]; exact info64)) rfl ?_
      exact ⟨rfl, below_setRow B0.out (by omega) _⟩
set_option maxRecDepth 100000 in
set_option maxHeartbeats 1000000 in
theorem meet_any (a b : List Int) (ha : VecOk a) (hb : VecOk b) (w : World) : Calls Try.prog 20 #[.agg (vecA a), .agg (vecA b)] w (RetB w (.agg (vecA (meetV a b)))) := by
  have HA := Lib.hid ha
  have HB := Lib.hid hb
  clear ha hb
  go_enter Try.func20, Try.ntmps20
  go_wp2_with (refine wpList_alloced (alloc64 _) ?_)
  have B0 : Hid (Below w.heap.size w (((w.alloc (.cells (vecA a) 24)).alloc (.cells (vecA b) 24)).alloc (.cells (vecA vec0) 24))) :=
    (((Below.refl _ _).alloc (Nat.le_refl _) _).alloc (by simp) _).alloc (by simp; omega) _
  have K1 : Hid (Blk (((w.alloc (.cells (vecA a) 24)).alloc (.cells (vecA b) 24)).alloc (.cells (vecA vec0) 24)) w.heap.size 24 (vecA (zipTo min a b 0))) := by rw [zipTo_zero]; exact ((Blk.new _ _ _).alloc _).alloc _
  have K2 : Hid (Blk (((w.alloc (.cells (vecA a) 24)).alloc (.cells (vecA b) 24)).alloc (.cells (vecA vec0) 24)) (w.heap.size + 1) 24 (vecA b)) := (Blk.newAt (by simp) _ _).alloc _
  have K3 : Hid (Blk (((w.alloc (.cells (vecA a) 24)).alloc (.cells (vecA b) 24)).alloc (.cells (vecA vec0) 24)) (w.heap.size + 1 + 1) 24 (vecA vec0)) := Blk.newAt (by simp) _ _
  go_loopw [6] (fun i wr => ∃ k : Nat, k ≤ 64 ∧ i = .int .i64 k ∧ Blk wr w.heap.size 24 (vecA (zipTo min a b k)) ∧ Blk wr (w.heap.size + 1) 24 (vecA b) ∧ Blk wr (w.heap.size + 1 + 1) 24 (vecA vec0) ∧ Below w.heap.size w wr) (fun i _ => 64 - (intOf i).toNat)
  case atStart => exact ⟨0, by omega, rfl, K1.out, K2.out, K3.out, B0.out⟩
  case round =>
    obtain ⟨k, hk, rfl, k1, k2, k3, b0⟩ := hrel
    clear K1 K2 K3 B0
    have K1 := Lib.hid k1
    have K2 := Lib.hid k2
    have K3 := Lib.hid k3
    have B0 := Lib.hid b0
    clear k1 k2 k3 b0
    have e3 := K3.out.lt
    by_cases hlt : k < 64
    · have c1 := K1.out.cell k
      rw [vecA_get _ _ (by rw [zipTo_len _ HA.out.len HB.out.len k hk]; exact hlt), zipTo_get _ HA.out.len HB.out.len k hlt] at c1
      have c2 := K2.out.cell k
      rw [vecA_get _ _ (by rw [HB.out.len]; exact hlt)] at c2
      have f1 := K1.out.fr k
      obtain ⟨x0, x1⟩ := HA.out.get k hlt
      obtain ⟨y0, y1⟩ := HB.out.get k hlt
      have S := Lib.hid (zipTo_succ min HA.out.len HB.out.len k hlt)
      generalize a.getD k 0 = x at *
      generalize b.getD k 0 = y at *
      have hb0 : (0 : Int) ≤ (k : Int) := by omega
      have hb1 : (k : Int) < 64 := by omega
      by_cases hxy : y < x
      · go_wp2_with fail
        go_region
        all_goals
          go_wp2
          go_roundw
          case rel => exact ⟨k + 1, by omega, by go_num, by rw [← S.out, show min x y = y by omega]; have := K1.out.set_ k (.int .u16 y); rw [vecA_set] at this; exact this, K2.out.far (by simp) _, K3.out.far (by simp; omega) _, (B0.out.setCell (p := ⟨w.heap.size, k, none⟩) (Nat.le_refl _) _).drew⟩
          case measure => simp [intOf]; omega
      · go_wp2_with fail
        go_region
        all_goals
          go_wp2
          go_roundw
          case rel => exact ⟨k + 1, by omega, by go_num, by rw [← S.out, show min x y = x by omega]; have := K1.out.set_ k (.int .u16 x); rw [vecA_set] at this; exact this, K2.out.far (by simp) _, K3.out.far (by simp; omega) _, (B0.out.setCell (p := ⟨w.heap.size, k, none⟩) (Nat.le_refl _) _).drew⟩
          case measure => simp [intOf]; omega
    · have hk' : k = 64 := by omega
      subst hk'
      have K1' : Hid (Blk wr w.heap.size 24 (vecA (meetV a b))) := by have := K1.out; rw [zipTo_all _ HA.out.len HB.out.len] at this; exact this
      have hs1 : Hid ((vecA (meetV a b)).size = 64) := by rw [Hid, vecA_size]; simp [meetV, HA.out.len, HB.out.len]
      go_wp2_with (first
        | (refine wpList_load_row rfl 24 _ (by rfl) w.heap.size (by rfl) _ _ _ _ K1'.out under64 rfl (by rw [hs1.out]; exact info64) ?_)
        | (refine wpList_store_row rfl 24 _ _ (by rfl) (w.heap.size + 1 + 1) _ (by rfl) (by rfl) _ _ K3.out (by rw [hs1.out]; exact info64) (by rw [hs1.out]; simp [vecA_size, vec0]) (vecA_one _) ?_))
      refine bodyPost_ret (results_cell_row rfl _ _ (w.heap.size + 1 + 1) _ (vecA (meetV a b)) _ _ rfl (K3.out.row _) under64 rfl (by rw [hs1.out]; exact info64)) rfl ?_
      exact ⟨rfl, below_setRow B0.out (by omega) _⟩
set_option maxRecDepth 100000 in
set_option maxHeartbeats 1000000 in
theorem rmeet_any (a b : List Int) (ha : VecOk a) (hb : VecOk b) (w : World) : Calls Try.prog 23 #[.agg (vecA a), .agg (vecA b)] w (RetB w (.agg (vecA (meetV a b)))) := by
  have HA := Lib.hid ha
  have HB := Lib.hid hb
  clear ha hb
  go_enter Try.func23, Try.ntmps23
  go_wp2_with (refine wpList_alloced (alloc64 _) ?_)
  have B0 : Hid (Below w.heap.size w (((w.alloc (.cells (vecA a) 24)).alloc (.cells (vecA b) 24)).alloc (.cells (vecA vec0) 24))) :=
    (((Below.refl _ _).alloc (Nat.le_refl _) _).alloc (by simp) _).alloc (by simp; omega) _
  have K1 : Hid (Blk (((w.alloc (.cells (vecA a) 24)).alloc (.cells (vecA b) 24)).alloc (.cells (vecA vec0) 24)) w.heap.size 24 (vecA (zipTo min a b 0))) := by rw [zipTo_zero]; exact ((Blk.new _ _ _).alloc _).alloc _
  have K2 : Hid (Blk (((w.alloc (.cells (vecA a) 24)).alloc (.cells (vecA b) 24)).alloc (.cells (vecA vec0) 24)) (w.heap.size + 1) 24 (vecA b)) := (Blk.newAt (by simp) _ _).alloc _
  have K3 : Hid (Blk (((w.alloc (.cells (vecA a) 24)).alloc (.cells (vecA b) 24)).alloc (.cells (vecA vec0) 24)) (w.heap.size + 1 + 1) 24 (vecA vec0)) := Blk.newAt (by simp) _ _
  go_loopw [5] (fun i wr => ∃ k : Nat, k ≤ 64 ∧ i = .int .i64 k ∧ Blk wr w.heap.size 24 (vecA (zipTo min a b k)) ∧ Blk wr (w.heap.size + 1) 24 (vecA b) ∧ Blk wr (w.heap.size + 1 + 1) 24 (vecA vec0) ∧ Below w.heap.size w wr) (fun i _ => 64 - (intOf i).toNat)
  case atStart => exact ⟨0, by omega, rfl, K1.out, K2.out, K3.out, B0.out⟩
  case round =>
    obtain ⟨k, hk, rfl, k1, k2, k3, b0⟩ := hrel
    clear K1 K2 K3 B0
    have K1 := Lib.hid k1
    have K2 := Lib.hid k2
    have K3 := Lib.hid k3
    have B0 := Lib.hid b0
    clear k1 k2 k3 b0
    have e3 := K3.out.lt
    by_cases hlt : k < 64
    · have c1 := K1.out.cell k
      rw [vecA_get _ _ (by rw [zipTo_len _ HA.out.len HB.out.len k hk]; exact hlt), zipTo_get _ HA.out.len HB.out.len k hlt] at c1
      have c2 := K2.out.cell k
      rw [vecA_get _ _ (by rw [HB.out.len]; exact hlt)] at c2
      have f1 := K1.out.fr k
      obtain ⟨x0, x1⟩ := HA.out.get k hlt
      obtain ⟨y0, y1⟩ := HB.out.get k hlt
      have S := Lib.hid (zipTo_succ min HA.out.len HB.out.len k hlt)
      have Z := Lib.hid (zipTo_skip min HA.out.len HB.out.len k hlt)
      generalize a.getD k 0 = x at *
      generalize b.getD k 0 = y at *
      have hb0 : (0 : Int) ≤ (k : Int) := by omega
      have hb1 : (k : Int) < 64 := by omega
      by_cases hxy : y < x
      · go_wp2_with fail
        go_quiet (fail)
        go_wp2
        go_roundw
        case rel => exact ⟨k + 1, by omega, by go_num, by rw [← S.out, show min x y = y by omega]; have := K1.out.set_ k (.int .u16 y); rw [vecA_set] at this; exact this, K2.out.far (by simp) _, K3.out.far (by simp; omega) _, below_drewN (B0.out.setCell (p := ⟨w.heap.size, k, none⟩) (Nat.le_refl _) _) _⟩
        case measure => simp [intOf]; omega
      · go_wp2_with fail
        go_quiet (fail)
        go_wp2
        go_roundw
        case rel => exact ⟨k + 1, by omega, by go_num, by rw [← Z.out (by omega)]; exact K1.out, K2.out, K3.out, below_drewN B0.out _⟩
        case measure => simp [intOf]; omega
    · have hk' : k = 64 := by omega
      subst hk'
      have K1' : Hid (Blk wr w.heap.size 24 (vecA (meetV a b))) := by have := K1.out; rw [zipTo_all _ HA.out.len HB.out.len] at this; exact this
      have hs1 : Hid ((vecA (meetV a b)).size = 64) := by rw [Hid, vecA_size]; simp [meetV, HA.out.len, HB.out.len]
      go_wp2_with (first
        | (refine wpList_load_row rfl 24 _ (by rfl) w.heap.size (by rfl) _ _ _ _ K1'.out under64 rfl (by rw [hs1.out]; exact info64) ?_)
        | (refine wpList_store_row rfl 24 _ _ (by rfl) (w.heap.size + 1 + 1) _ (by rfl) (by rfl) _ _ K3.out (by rw [hs1.out]; exact info64) (by rw [hs1.out]; simp [vecA_size, vec0]) (vecA_one _) ?_))
      refine bodyPost_ret (results_cell_row rfl _ _ (w.heap.size + 1 + 1) _ (vecA (meetV a b)) _ _ rfl (K3.out.row _) under64 rfl (by rw [hs1.out]; exact info64)) rfl ?_
      exact ⟨rfl, below_setRow B0.out (by omega) _⟩
end Go.Proofs.Ytceapefjdiphpaa
