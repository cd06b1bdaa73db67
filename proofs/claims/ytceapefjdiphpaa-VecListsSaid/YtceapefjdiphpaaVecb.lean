/- Vectors: within, total, lack. -/
import Derived.Test.YtceapefjdiphpaaVec
namespace Go.Proofs.Ytceapefjdiphpaa
open Go.RowKit

theorem eq_of_getD {a b : List Int} (ha : a.length = 64) (hb : b.length = 64) (h : ∀ k, k < 64 → a.getD k 0 = b.getD k 0) : a = b := by
  apply List.ext_getElem (by omega)
  intro i h1 h2
  have := h i (by omega)
  simpa [List.getD_eq_getElem?_getD, h1, h2] using this
theorem joinV_len {a b : List Int} (ha : VecOk a) (hb : VecOk b) : (joinV a b).length = 64 := (ha.join hb).len
theorem joinV_get {a b : List Int} (ha : VecOk a) (hb : VecOk b) (k : Nat) (hk : k < 64) : (joinV a b).getD k 0 = max (a.getD k 0) (b.getD k 0) := by
  have h1 : k < a.length := by rw [ha.len]; exact hk
  have h2 : k < b.length := by rw [hb.len]; exact hk
  rw [joinV, List.getD_eq_getElem?_getD, List.getElem?_eq_getElem (by simp; omega), List.getElem_zipWith]; simp [List.getD_eq_getElem?_getD, h1, h2]
theorem meetV_get {a b : List Int} (ha : VecOk a) (hb : VecOk b) (k : Nat) (hk : k < 64) : (meetV a b).getD k 0 = min (a.getD k 0) (b.getD k 0) := by
  have h1 : k < a.length := by rw [ha.len]; exact hk
  have h2 : k < b.length := by rw [hb.len]; exact hk
  rw [meetV, List.getD_eq_getElem?_getD, List.getElem?_eq_getElem (by simp; omega), List.getElem_zipWith]; simp [List.getD_eq_getElem?_getD, h1, h2]
def withinV (a b : List Int) : Bool := decide (joinV a b = b)
theorem withinV_iff {a b : List Int} (ha : VecOk a) (hb : VecOk b) : withinV a b = true ↔ ∀ k, k < 64 → a.getD k 0 ≤ b.getD k 0 := by
  unfold withinV
  rw [decide_eq_true_iff]
  constructor
  · intro h k hk
    have := joinV_get ha hb k hk
    rw [h] at this; omega
  · intro h
    refine eq_of_getD (joinV_len ha hb) hb.len fun k hk => ?_
    rw [joinV_get ha hb k hk]; have := h k hk; omega

theorem isAgg16 (w : World) : (isAgg 22).run Try.prog w = .ok false w := by kernel_rfl
theorem sizeOf16 (w : World) : (sizeOf 22).run Try.prog w = .ok 1 w := by kernel_rfl
theorem under16 : Try.prog.underlying 22 = some (.int .u16) := by kernel_rfl
theorem eql_vec (a b : List Int) (ha : VecOk a) (hb : VecOk b) (w : World) : (binOp .eql 24 (.agg (vecA a)) (.agg (vecA b))).run Try.prog w = .ok (.bool (decide (a = b))) w :=
  run_eql_ints under64 under16 isAgg16 sizeOf16 a b ha.len hb.len w
theorem index_vec (a : List Int) (ha : VecOk a) (k : Nat) (hk : k < 64) (w : World) : (Instr.index 24 (.agg (vecA a)) (.int .i64 k)).run Try.prog w = .ok (.int .u16 (a.getD k 0)) w := by
  have hl : k < a.length := by rw [ha.len]; exact hk
  have hv : (vecA a)[k]? = some (.int .u16 (a.getD k 0)) := vecA_get a k hl
  have hb : (0 : Int) ≤ (k : Int) ∧ (k : Int) < (64 : Nat) := by omega
  simp only [Instr.index, asIntOf, Sem.run_bind, Sem.run_pure, Result.andThen_ok, run_underlying under64]
  rw [if_pos hb]
  simp only [part, Sem.run_bind, sizeOf16, isAgg16, Result.andThen_ok, Bool.false_eq_true, if_false, Int.toNat_natCast, Nat.mul_one, hv, Sem.run_pure]

set_option maxRecDepth 100000 in
set_option maxHeartbeats 1000000 in
theorem within_any (a b : List Int) (ha : VecOk a) (hb : VecOk b) (w : World) : Calls Try.prog 21 #[.agg (vecA a), .agg (vecA b)] w (RetB w (.bool (withinV a b))) := by
  have hab := ha.join hb
  have HJ := Lib.hid (fun w0 => join_any a b ha hb w0)
  have he := eql_vec (joinV a b) b hab hb
  have F : Hid (withinV a b = decide (joinV a b = b)) := rfl
  have HB := Lib.hid hb
  have hs1 : Hid ((vecA a).size = 64) := by rw [Hid, vecA_size]; exact ha.len
  have hs2 : Hid ((vecA b).size = 64) := by rw [Hid, vecA_size]; exact hb.len
  clear ha hb hab
  have B0 : Hid (Below w.heap.size w ((w.alloc (.cells (vecA a) 24)).alloc (.cells (vecA b) 24))) := ((Below.refl _ _).alloc (Nat.le_refl _) _).alloc (by simp) _
  have K1 : Hid (Blk ((w.alloc (.cells (vecA a) 24)).alloc (.cells (vecA b) 24)) w.heap.size 24 (vecA a)) := (Blk.new _ _ _).alloc _
  have K2 : Hid (Blk ((w.alloc (.cells (vecA a) 24)).alloc (.cells (vecA b) 24)) (w.heap.size + 1) 24 (vecA b)) := Blk.newAt (by simp) _ _
  go_enter Try.func21, Try.ntmps21
  go_wp2_with fail
  generalize ((w.alloc (.cells (vecA a) 24)).alloc (.cells (vecA b) 24)) = w0 at *
  refine wp_region_ext mixed (by kernel_rfl) ?_
  repeat (first
    | (refine wpQuiet_load_row K1.out under64 rfl (by rw [hs1.out]; exact info64) rfl rfl ?_; simp only [List.set_cons_succ, List.set_cons_zero])
    | (refine wpQuiet_load_row K2.out under64 rfl (by rw [hs2.out]; exact info64) rfl rfl ?_; simp only [List.set_cons_succ, List.set_cons_zero])
    | go_big_quiet_step ((go_at_call 19; exact ext_call (HJ.out _))))
  refine wpQuiet_nil ?_
  rintro _ ⟨z, rfl⟩
  go_wp2
  go_ret
  exact ⟨ret_bool F.out.symm, B0.out.trans (z.h.mono B0.out.size)⟩

/-- the sum of a vector's numbers -/
def totTo (a : List Int) (k : Nat) : Int := (a.take k).sum
def totV (a : List Int) : Int := totTo a 64
theorem totTo_succ (a : List Int) (k : Nat) (hk : k < a.length) : totTo a (k + 1) = totTo a k + a.getD k 0 := by
  unfold totTo; rw [List.take_succ_eq_append_getElem hk, List.sum_append]; simp [List.getD_eq_getElem?_getD, hk]
theorem totTo_bd {a : List Int} (ha : VecOk a) : ∀ k, k ≤ 64 → 0 ≤ totTo a k ∧ totTo a k ≤ 65535 * k
  | 0, _ => by simp [totTo]
  | k + 1, h => by
    have := totTo_bd ha k (by omega)
    have hg := ha.get k (by omega)
    rw [totTo_succ a k (by rw [ha.len]; omega)]; omega

set_option maxRecDepth 100000 in
set_option maxHeartbeats 1000000 in
theorem total_any (a : List Int) (ha : VecOk a) (w : World) : Calls Try.prog 30 #[.agg (vecA a)] w (RetB w (.int .i64 (totV a))) := by
  have HA := Lib.hid ha
  have hs1 : Hid ((vecA a).size = 64) := by rw [Hid, vecA_size]; exact ha.len
  have B0 : Hid (Below w.heap.size w (w.alloc (.cells (vecA a) 24))) := (Below.refl _ _).alloc (Nat.le_refl _) _
  have K1 : Hid (Blk (w.alloc (.cells (vecA a) 24)) w.heap.size 24 (vecA a)) := Blk.new _ _ _
  clear ha
  go_enter Try.func30, Try.ntmps30
  go_wp2_with (refine wpList_load_row rfl 24 _ (by rfl) w.heap.size (by rfl) _ _ _ _ K1.out under64 rfl (by rw [hs1.out]; exact info64) ?_)
  go_loop [3, 7] (fun s i => ∃ k : Nat, k ≤ 64 ∧ i = .int .i64 k ∧ s = .int .i64 (totTo a k)) (fun _ i => 64 - (intOf i).toNat)
  case atStart => exact ⟨0, by omega, rfl, by simp [totTo]⟩
  case round =>
    obtain ⟨k, hk, rfl, rfl⟩ := hrel
    have hbd := totTo_bd HA.out k hk
    by_cases hlt : k < 64
    · have hix := index_vec a HA.out k hlt
      have S := Lib.hid (totTo_succ a k (by rw [HA.out.len]; exact hlt))
      obtain ⟨x0, x1⟩ := HA.out.get k hlt
      generalize a.getD k 0 = x at *
      generalize totTo a k = s at *
      have hb0 : (k : Int) < 64 := by omega
      have hb1 : s ≤ 5000000 := by omega
      obtain ⟨hs0, _⟩ := hbd
      go_wp2
      go_round
      case rel => exact ⟨k + 1, by omega, by go_num, by rw [S.out]⟩
      case measure => simp [intOf]; omega
    · have hk' : k = 64 := by omega
      subst hk'
      go_wp2
      go_ret
      exact ⟨rfl, B0.out⟩

set_option maxRecDepth 100000 in
set_option maxHeartbeats 1000000 in
theorem rtotal_any (a : List Int) (ha : VecOk a) (w : World) : Calls Try.prog 12 #[.agg (vecA a)] w (RetB w (.int .i64 (totV a))) := by
  have HA := Lib.hid ha
  have B0 : Hid (Below w.heap.size w (w.alloc (.cells (vecA a) 24))) := (Below.refl _ _).alloc (Nat.le_refl _) _
  have K1 : Hid (Blk (w.alloc (.cells (vecA a) 24)) w.heap.size 24 (vecA a)) := Blk.new _ _ _
  clear ha
  go_enter Try.func12, Try.ntmps12
  go_wp2_with fail
  generalize (w.alloc (.cells (vecA a) 24)) = w0 at *
  go_loop [3, 4] (fun s i => ∃ k : Nat, k ≤ 64 ∧ i = .int .i64 k ∧ s = .int .i64 (totTo a k)) (fun _ i => 64 - (intOf i).toNat)
  case atStart => exact ⟨0, by omega, rfl, by simp [totTo]⟩
  case round =>
    obtain ⟨k, hk, rfl, rfl⟩ := hrel
    have hbd := totTo_bd HA.out k hk
    by_cases hlt : k < 64
    · have c1 := K1.out.cell k
      rw [vecA_get _ _ (by rw [HA.out.len]; exact hlt)] at c1
      have S := Lib.hid (totTo_succ a k (by rw [HA.out.len]; exact hlt))
      obtain ⟨x0, x1⟩ := HA.out.get k hlt
      generalize a.getD k 0 = x at *
      generalize totTo a k = s at *
      have hb0 : (k : Int) < 64 := by omega
      have hb1 : s ≤ 5000000 := by omega
      obtain ⟨hs0, _⟩ := hbd
      go_wp2
      go_round
      case rel => exact ⟨k + 1, by omega, by go_num, by rw [S.out]⟩
      case measure => simp [intOf]; omega
    · have hk' : k = 64 := by omega
      subst hk'
      go_wp2
      go_ret
      exact ⟨rfl, B0.out⟩

/-- how many one has that the other lacks -/
def lackV (a b : List Int) : Int := totV b - totV (meetV a b)
def lackTo (a b : List Int) (k : Nat) : Int := totTo b k - totTo (meetV a b) k
theorem lackTo_succ {a b : List Int} (ha : VecOk a) (hb : VecOk b) (k : Nat) (hk : k < 64) : lackTo a b (k + 1) = lackTo a b k + (if a.getD k 0 < b.getD k 0 then b.getD k 0 - a.getD k 0 else 0) := by
  unfold lackTo
  rw [totTo_succ b k (by rw [hb.len]; exact hk), totTo_succ (meetV a b) k (by rw [(ha.meet hb).len]; exact hk), meetV_get ha hb k hk]
  split <;> omega
theorem lackTo_bd {a b : List Int} (ha : VecOk a) (hb : VecOk b) : ∀ k, k ≤ 64 → 0 ≤ lackTo a b k ∧ lackTo a b k ≤ 65535 * k
  | 0, _ => by simp [lackTo, totTo]
  | k + 1, h => by
    have := lackTo_bd ha hb k (by omega)
    have h1 := ha.get k (by omega)
    have h2 := hb.get k (by omega)
    rw [lackTo_succ ha hb k (by omega)]; split <;> omega

set_option maxRecDepth 100000 in
set_option maxHeartbeats 1000000 in
theorem lack_any (a b : List Int) (ha : VecOk a) (hb : VecOk b) (w : World) : Calls Try.prog 25 #[.agg (vecA a), .agg (vecA b)] w (RetB w (.int .i64 (lackV a b))) := by
  have hab := ha.meet hb
  have HM := Lib.hid (fun w0 => meet_any a b ha hb w0)
  have HT := Lib.hid (fun w0 => total_any b hb w0)
  have HT' := Lib.hid (fun w0 => total_any (meetV a b) hab w0)
  have t1 := totTo_bd hb 64 (by omega)
  have t2 := totTo_bd hab 64 (by omega)
  have F : Hid (lackV a b = totV b - totV (meetV a b)) := rfl
  have hs1 : Hid ((vecA a).size = 64) := by rw [Hid, vecA_size]; exact ha.len
  have hs2 : Hid ((vecA b).size = 64) := by rw [Hid, vecA_size]; exact hb.len
  clear ha hb hab
  have t3 : 0 ≤ totV b ∧ totV b ≤ 5000000 := by unfold totV; omega
  have t4 : 0 ≤ totV (meetV a b) ∧ totV (meetV a b) ≤ 5000000 := by unfold totV; omega
  clear t1 t2
  generalize totV b = tb at *
  generalize totV (meetV a b) = tm at *
  obtain ⟨t30, t31⟩ := t3
  obtain ⟨t40, t41⟩ := t4
  have B0 : Hid (Below w.heap.size w ((w.alloc (.cells (vecA a) 24)).alloc (.cells (vecA b) 24))) := ((Below.refl _ _).alloc (Nat.le_refl _) _).alloc (by simp) _
  have K1 : Hid (Blk ((w.alloc (.cells (vecA a) 24)).alloc (.cells (vecA b) 24)) w.heap.size 24 (vecA a)) := (Blk.new _ _ _).alloc _
  have K2 : Hid (Blk ((w.alloc (.cells (vecA a) 24)).alloc (.cells (vecA b) 24)) (w.heap.size + 1) 24 (vecA b)) := Blk.newAt (by simp) _ _
  go_enter Try.func25, Try.ntmps25
  go_wp2_with fail
  generalize ((w.alloc (.cells (vecA a) 24)).alloc (.cells (vecA b) 24)) = w0 at *
  refine wp_region_ext mixed (by kernel_rfl) ?_
  repeat (first
    | (refine wpQuiet_load_row K1.out under64 rfl (by rw [hs1.out]; exact info64) rfl rfl ?_; simp only [List.set_cons_succ, List.set_cons_zero])
    | (refine wpQuiet_load_row K2.out under64 rfl (by rw [hs2.out]; exact info64) rfl rfl ?_; simp only [List.set_cons_succ, List.set_cons_zero])
    | go_big_quiet_step ((first | (go_at_call 20; exact ext_call (HM.out _)) | (go_at_call 30; with_reducible exact ext_call (HT.out _)) | (go_at_call 30; with_reducible exact ext_call (HT'.out _)))))
  refine wpQuiet_nil ?_
  rintro _ ⟨z, rfl⟩
  go_wp2
  go_ret
  exact ⟨ret_int F.out.symm, B0.out.trans (z.h.mono B0.out.size)⟩

set_option maxRecDepth 100000 in
set_option maxHeartbeats 1000000 in
theorem rlack_any (a b : List Int) (ha : VecOk a) (hb : VecOk b) (w : World) : Calls Try.prog 26 #[.agg (vecA a), .agg (vecA b)] w (RetB w (.int .i64 (lackV a b))) := by
  have HA := Lib.hid ha
  have HB := Lib.hid hb
  clear ha hb
  have B0 : Hid (Below w.heap.size w ((w.alloc (.cells (vecA a) 24)).alloc (.cells (vecA b) 24))) := ((Below.refl _ _).alloc (Nat.le_refl _) _).alloc (by simp) _
  have K1 : Hid (Blk ((w.alloc (.cells (vecA a) 24)).alloc (.cells (vecA b) 24)) w.heap.size 24 (vecA a)) := (Blk.new _ _ _).alloc _
  have K2 : Hid (Blk ((w.alloc (.cells (vecA a) 24)).alloc (.cells (vecA b) 24)) (w.heap.size + 1) 24 (vecA b)) := Blk.newAt (by simp) _ _
  go_enter Try.func26, Try.ntmps26
  go_wp2_with fail
  generalize ((w.alloc (.cells (vecA a) 24)).alloc (.cells (vecA b) 24)) = w0 at *
  go_loopw [5, 6] (fun s i wr => ∃ k n : Nat, k ≤ 64 ∧ i = .int .i64 k ∧ s = .int .i64 (lackTo a b k) ∧ wr = w0.drewN n) (fun _ i _ => 64 - (intOf i).toNat)
  case atStart => exact ⟨0, 0, by omega, rfl, by simp [lackTo, totTo], rfl⟩
  case round =>
    obtain ⟨k, n, hk, rfl, rfl, rfl⟩ := hrel
    have hbd := lackTo_bd HA.out HB.out k hk
    by_cases hlt : k < 64
    · have c1 := K1.out.cell k
      rw [vecA_get _ _ (by rw [HA.out.len]; exact hlt)] at c1
      have c2 := K2.out.cell k
      rw [vecA_get _ _ (by rw [HB.out.len]; exact hlt)] at c2
      have S := Lib.hid (lackTo_succ HA.out HB.out k hlt)
      obtain ⟨x0, x1⟩ := HA.out.get k hlt
      obtain ⟨y0, y1⟩ := HB.out.get k hlt
      generalize a.getD k 0 = x at *
      generalize b.getD k 0 = y at *
      generalize lackTo a b k = s at *
      have hb0 : (k : Int) < 64 := by omega
      have hb2 : (0 : Int) ≤ (k : Int) := by omega
      have hb1 : s ≤ 5000000 := by omega
      obtain ⟨hs0, _⟩ := hbd
      by_cases hxy : x < y
      · have hd : decide (x < y) = true := decide_eq_true hxy
        go_wp2_with fail
        go_quiet (fail)
        go_wp2_with fail
        go_quiet (fail)
        go_wp2
        go_roundw
        case rel => exact ⟨k + 1, _, by omega, by go_num, by rw [S.out, if_pos hxy]; go_num, rfl⟩
        case measure => simp [intOf]; omega
      · have hd : decide (x < y) = false := decide_eq_false hxy
        go_wp2_with fail
        go_quiet (fail)
        go_wp2
        go_roundw
        case rel => exact ⟨k + 1, _, by omega, by go_num, by rw [S.out, if_neg (by omega)]; go_num, rfl⟩
        case measure => simp [intOf]; omega
    · have hk' : k = 64 := by omega
      subst hk'
      go_wp2
      go_ret
      exact ⟨rfl, below_drewN B0.out _⟩

set_option maxRecDepth 100000 in
set_option maxHeartbeats 1000000 in
theorem rwithin_any (a b : List Int) (ha : VecOk a) (hb : VecOk b) (w : World) : Calls Try.prog 24 #[.agg (vecA a), .agg (vecA b)] w (RetB w (.bool (withinV a b))) := by
  have HA := Lib.hid ha
  have HB := Lib.hid hb
  have HW := Lib.hid (withinV_iff ha hb)
  clear ha hb
  have B0 : Hid (Below w.heap.size w ((w.alloc (.cells (vecA a) 24)).alloc (.cells (vecA b) 24))) := ((Below.refl _ _).alloc (Nat.le_refl _) _).alloc (by simp) _
  have K1 : Hid (Blk ((w.alloc (.cells (vecA a) 24)).alloc (.cells (vecA b) 24)) w.heap.size 24 (vecA a)) := (Blk.new _ _ _).alloc _
  have K2 : Hid (Blk ((w.alloc (.cells (vecA a) 24)).alloc (.cells (vecA b) 24)) (w.heap.size + 1) 24 (vecA b)) := Blk.newAt (by simp) _ _
  go_enter Try.func24, Try.ntmps24
  go_wp2_with fail
  generalize ((w.alloc (.cells (vecA a) 24)).alloc (.cells (vecA b) 24)) = w0 at *
  go_loopw [5] (fun i wr => ∃ k n : Nat, k ≤ 64 ∧ i = .int .i64 k ∧ wr = w0.drewN n ∧ Hid (∀ j, j < k → a.getD j 0 ≤ b.getD j 0)) (fun i _ => 64 - (intOf i).toNat)
  case atStart => exact ⟨0, 0, by omega, rfl, rfl, fun j hj => by omega⟩
  case round =>
    obtain ⟨k, n, hk, rfl, rfl, H⟩ := hrel
    by_cases hlt : k < 64
    · have c1 := K1.out.cell k
      rw [vecA_get _ _ (by rw [HA.out.len]; exact hlt)] at c1
      have c2 := K2.out.cell k
      rw [vecA_get _ _ (by rw [HB.out.len]; exact hlt)] at c2
      have HX : Hid (a.getD k 0 ≤ b.getD k 0 → ∀ j, j < k + 1 → a.getD j 0 ≤ b.getD j 0) := fun h j hj => by
        by_cases hjk : j = k
        · subst hjk; exact h
        · exact H.out j (by omega)
      have HY : Hid (b.getD k 0 < a.getD k 0 → withinV a b = false) := fun h => by
        rw [Bool.eq_false_iff]; intro hw; have := HW.out.1 hw k hlt; omega
      generalize hx : a.getD k 0 = x at *
      generalize hy : b.getD k 0 = y at *
      clear hx hy
      have hb0 : (k : Int) < 64 := by omega
      have hb2 : (0 : Int) ≤ (k : Int) := by omega
      by_cases hxy : y < x
      · have hd : decide (y < x) = true := decide_eq_true hxy
        go_wp2_with fail
        go_quiet (fail)
        go_wp2
        go_ret
        exact ⟨ret_bool (HY.out hxy).symm, below_drewN (below_drewN B0.out _) _⟩
      · have hd : decide (y < x) = false := decide_eq_false hxy
        go_wp2_with fail
        go_quiet (fail)
        go_wp2
        go_roundw
        case rel => exact ⟨k + 1, _, by omega, by go_num, rfl, HX.out (by omega)⟩
        case measure => simp [intOf]; omega
    · have hk' : k = 64 := by omega
      subst hk'
      have F : Hid (withinV a b = true) := HW.out.2 H.out
      go_wp2
      go_ret
      exact ⟨ret_bool F.out.symm, below_drewN B0.out _⟩
end Go.Proofs.Ytceapefjdiphpaa
