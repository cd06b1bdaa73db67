/- The document's vector with one patch more; which patches of a list there are: walked. -/
import Derived.Test.YtdafiipedlglpaaGreatDoorIdxz
namespace Go.Proofs.YtdafiipedlglpaaGreatDoor
open Go.RowKit

theorem neqXY (a b c d : Int) (w : World) : (binOp .neq 60 (.agg #[.int .u8 a, .int .u16 b]) (.agg #[.int .u8 c, .int .u16 d])).run Tryz.prog w = .ok (.bool (!(decide (a = c) && decide (b = d)))) w := by
  simp [go_sem]
  by_cases h1 : a = c
  · by_cases h2 : b = d <;> simp [h1, h2]
  · simp [h1]
set_option maxRecDepth 100000 in
set_option maxHeartbeats 4000000 in
theorem rput12_any (a : List Int) (ha : VecOk a) (d : PidV) (w : World) :
    Calls Tryz.prog 243 #[.agg (vecA a), .agg (encP d).toArray] w (RetB w (.tuple #[.agg (vecA (putW a d)), .bool (putB a d)])) := by
  have HN := Lib.hid (fun w0 => rnext_any a ha d.1.val w0)
  have hs1 : Hid ((vecA a).size = 64) := by rw [Hid, vecA_size]; exact ha.len
  have hs2 : Hid ((vecA vec0).size = 64) := by rw [Hid, vecA_size]; exact vec0_ok.len
  have h1 := Lib.hid (vecA_one a)
  have K1 : Hid (Blk (((w.alloc (.cells (vecA a) 24)).alloc (.cells (encP d).toArray 60)).alloc (.cells (vecA vec0) 24)) w.heap.size 24 (vecA a)) := ((Blk.new _ _ _).alloc _).alloc _
  have K2 : Hid (Blk (((w.alloc (.cells (vecA a) 24)).alloc (.cells (encP d).toArray 60)).alloc (.cells (vecA vec0) 24)) (w.heap.size + 1) 60 (encP d).toArray) := (Blk.newAt (by simp) _ _).alloc _
  have K3 : Hid (Blk (((w.alloc (.cells (vecA a) 24)).alloc (.cells (encP d).toArray 60)).alloc (.cells (vecA vec0) 24)) (w.heap.size + 1 + 1) 24 (vecA vec0)) := Blk.newAt (by simp) _ _
  have B0 : Hid (Below w.heap.size w (((w.alloc (.cells (vecA a) 24)).alloc (.cells (encP d).toArray 60)).alloc (.cells (vecA vec0) 24))) :=
    (((Below.refl _ _).alloc (Nat.le_refl _) _).alloc (by simp) _).alloc (by simp; omega) _
  have PV : Hid (putW a d = if putB a d = true then a.set (d.1.val - 1) ((d.2.val : Nat) : Int) else a) := rfl
  have PB : Hid (putB a d = (!(decide (d.1.val = 0) && decide (((d.2.val : Nat) : Int) = 0)) && (decide ((nextV a d.1.val).1 = ((d.1.val : Nat) : Int)) && decide ((nextV a d.1.val).2 = ((d.2.val : Nat) : Int))))) := rfl
  have PI : Hid (putB a d = true → inV d.1.val = true ∧ ofV a d.1.val < 60000 ∧ ((d.2.val : Nat) : Int) = ofV a d.1.val + 1) := putOk_iff
  have hget := Lib.hid (vecA_get a (d.1.val - 1))
  have PT := Lib.hid (vecA_set a (d.1.val - 1) ((d.2.val : Nat) : Int))
  have SS : Hid ((vecA (a.set (d.1.val - 1) ((d.2.val : Nat) : Int))).size = 64) := by rw [Hid, vecA_size, List.length_set]; exact ha.len
  have S1 := Lib.hid (vecA_one (a.set (d.1.val - 1) ((d.2.val : Nat) : Int)))
  have hlen := Lib.hid ha.len
  have NEQ := fun u => neqXY (nextV a d.1.val).1 (nextV a d.1.val).2 ((d.1.val : Nat) : Int) ((d.2.val : Nat) : Int) u
  clear ha
  generalize nextV a d.1.val = xy at *
  obtain ⟨x, y⟩ := xy
  go_enter Tryz.func243, Tryz.ntmps243
  go_upto_region 1 with (refine wpList_alloced (alloc64 _) ?_)
  generalize (((w.alloc (.cells (vecA a) 24)).alloc (.cells (encP d).toArray 60)).alloc (.cells (vecA vec0) 24)) = w0 at *
  have q0 : ∀ z : Ext w0, z.w.cell? ⟨w.heap.size + 1, 0, none⟩ = some (.int .u8 ((d.1.val : Nat) : Int)) := fun z => (K2.out.ext z.h).cell 0
  by_cases hP : putB a d = true
  · have PV' := Lib.hid (PV.out.trans (if_pos hP))
    obtain ⟨i1, i2, i3⟩ := PI.out hP
    have hn1 : 1 ≤ d.1.val ∧ d.1.val ≤ 64 := by unfold inV at i1; simpa using i1
    obtain ⟨n1, n2⟩ := hn1
    have n1' : ¬ ((d.1.val : Nat) : Int) < 1 := by omega
    have n2' : ¬ (64 : Int) < ((d.1.val : Nat) : Int) := by omega
    have dn1 : decide (((d.1.val : Nat) : Int) < 1) = false := decide_eq_false n1'
    have dn2 : decide ((64 : Int) < ((d.1.val : Nat) : Int)) = false := decide_eq_false n2'
    have hP' := hP
    rw [PB.out] at hP'
    simp only [Bool.and_eq_true, decide_eq_true_eq] at hP'
    have NEQ' : ∀ u : World, (binOp .neq 60 (.agg #[.int .u8 x, .int .u16 y]) (.agg (encP d).toArray)).run Tryz.prog u = .ok (.bool false) u := fun u => by
      refine (NEQ u).trans ?_
      rw [decide_eq_true hP'.2.1, decide_eq_true hP'.2.2]; rfl
    have hPB := Lib.hid hP
    clear NEQ hP' hP PV PI i1 i2 i3 PB
    refine wp_region_ext mixed (by kernel_rfl) ?_
    repeat (first
      | go_big_quiet_skip
      | (refine wpQuiet_load_row K1.out under64 rfl (by rw [hs1.out]; exact info64) rfl rfl ?_; simp only [List.set_cons_succ, List.set_cons_zero])
      | (refine wpQuiet_load_row K2.out underPid rfl infoPid rfl rfl ?_; simp only [List.set_cons_succ, List.set_cons_zero])
      | go_big_quiet_step ((go_at_call 214; exact ext_call (HN.out _))))
    refine wpQuiet_nil ?_
    rintro _ ⟨z, rfl⟩
    have B1 := Lib.hid (B0.out.trans (z.h.mono B0.out.size))
    have L1 := Lib.hid (K1.out.ext z.h)
    have L2 := Lib.hid (K2.out.ext z.h)
    have L3 := Lib.hid (K3.out.ext z.h)
    clear q0
    generalize z.w = w1 at *
    have p0 : w1.cell? ⟨w.heap.size + 1, 0, none⟩ = some (.int .u8 ((d.1.val : Nat) : Int)) := L2.out.cell 0
    have p1 : w1.cell? ⟨w.heap.size + 1, 1, none⟩ = some (.int .u16 ((d.2.val : Nat) : Int)) := L2.out.cell 1
    obtain ⟨k, hk⟩ : ∃ k, d.1.val - 1 = k := ⟨_, rfl⟩
    have ek : ((d.1.val : Nat) : Int) - 1 = (k : Int) := by omega
    rw [hk] at PT SS S1 hget PV'
    have c1 := L1.out.cell k
    rw [hget.out (by rw [hlen.out]; omega)] at c1
    have f1 := L1.out.fr k
    have k1 : (k : Int) < 64 := by omega
    have k0 : (0 : Int) ≤ (k : Int) := by omega
    have m1 := L1.out.set_ k (.int .u16 ((d.2.val : Nat) : Int))
    rw [PT.out] at m1
    have M1 := Lib.hid m1
    clear m1 hk
    have L4 := Lib.hid (L3.out.far (p := ⟨w.heap.size, k, none⟩) (by show w.heap.size + 1 + 1 ≠ w.heap.size; omega) (.int .u16 ((d.2.val : Nat) : Int)))
    have B2 := Lib.hid (B1.out.setCell (p := ⟨w.heap.size, k, none⟩) (Nat.le_refl _) (.int .u16 ((d.2.val : Nat) : Int)))
    clear L1 L3 B1 L2
    go_wp2_with (first
      | (refine wpList_load_row rfl 24 _ (by rfl) w.heap.size (by rfl) _ _ _ _ M1.out under64 rfl (by rw [SS.out]; exact info64) ?_)
      | (refine wpList_store_row rfl 24 _ _ (by rfl) (w.heap.size + 1 + 1) _ (by rfl) (by rfl) _ _ L4.out (by rw [SS.out]; exact info64) (by rw [SS.out, hs2.out]) S1.out ?_))
    refine bodyPost_ret (results_row_tmp rfl _ _ (w.heap.size + 1 + 1) _ (vecA (a.set k ((d.2.val : Nat) : Int))) _ rfl (L4.out.row _) under64 rfl (by rw [SS.out]; exact info64)) rfl ?_
    refine ⟨?_, below_setRow B2.out (by omega) _⟩
    rw [hPB.out, PV'.out]
    rfl
  · have hP : putB a d = false := by simpa using hP
    have PV' : Hid (putW a d = a) := PV.out.trans (if_neg (by rw [hP]; simp))
    have hPB := Lib.hid hP
    have CS : Hid (((d.1.val : Nat) : Int) < 1 ∨ (64 : Int) < ((d.1.val : Nat) : Int) ∨ (¬ ((d.1.val : Nat) : Int) < 1 ∧ ¬ (64 : Int) < ((d.1.val : Nat) : Int) ∧ (decide (x = ((d.1.val : Nat) : Int)) && decide (y = ((d.2.val : Nat) : Int))) = false)) := by
      by_cases c1 : ((d.1.val : Nat) : Int) < 1
      · exact .inl c1
      · by_cases c2 : (64 : Int) < ((d.1.val : Nat) : Int)
        · exact .inr (.inl c2)
        · refine .inr (.inr ⟨c1, c2, ?_⟩)
          have h0 : decide (d.1.val = 0) = false := decide_eq_false (by omega)
          rw [PB.out, h0] at hP
          simpa using hP
    clear hP PV PI PB
    rcases CS.out with c1 | c2 | ⟨c1, c2, c3⟩
    case inl =>
      have dn1 : decide (((d.1.val : Nat) : Int) < 1) = true := decide_eq_true c1
      clear NEQ CS
      refine wp_region_ext mixed (by kernel_rfl) ?_
      repeat (first
        | go_big_quiet_skip
        | go_big_quiet_step (fail))
      refine wpQuiet_nil ?_
      rintro _ ⟨z, rfl⟩
      have B1 := Lib.hid (B0.out.trans (z.h.mono B0.out.size))
      have L1 := Lib.hid (K1.out.ext z.h)
      have L3 := Lib.hid (K3.out.ext z.h)
      clear q0
      generalize z.w = w1 at *
      go_wp2_with (first
        | (refine wpList_load_row rfl 24 _ (by rfl) w.heap.size (by rfl) _ _ _ _ L1.out under64 rfl (by rw [hs1.out]; exact info64) ?_)
        | (refine wpList_store_row rfl 24 _ _ (by rfl) (w.heap.size + 1 + 1) _ (by rfl) (by rfl) _ _ L3.out (by rw [hs1.out]; exact info64) (by rw [hs1.out, hs2.out]) h1.out ?_))
      refine bodyPost_ret (results_row_tmp rfl _ _ (w.heap.size + 1 + 1) _ (vecA a) _ rfl (L3.out.row _) under64 rfl (by rw [hs1.out]; exact info64)) rfl ?_
      refine ⟨?_, below_setRow B1.out (by omega) _⟩
      rw [PV'.out]
      first | rfl | (rw [hPB.out]; rfl)
    case inr.inl =>
      have n1' : ¬ ((d.1.val : Nat) : Int) < 1 := by omega
      have dn1 : decide (((d.1.val : Nat) : Int) < 1) = false := decide_eq_false n1'
      have dn2 : decide ((64 : Int) < ((d.1.val : Nat) : Int)) = true := decide_eq_true c2
      clear NEQ CS
      refine wp_region_ext mixed (by kernel_rfl) ?_
      repeat (first
        | go_big_quiet_skip
        | go_big_quiet_step (fail))
      refine wpQuiet_nil ?_
      rintro _ ⟨z, rfl⟩
      have B1 := Lib.hid (B0.out.trans (z.h.mono B0.out.size))
      have L1 := Lib.hid (K1.out.ext z.h)
      have L3 := Lib.hid (K3.out.ext z.h)
      clear q0
      generalize z.w = w1 at *
      go_wp2_with (first
        | (refine wpList_load_row rfl 24 _ (by rfl) w.heap.size (by rfl) _ _ _ _ L1.out under64 rfl (by rw [hs1.out]; exact info64) ?_)
        | (refine wpList_store_row rfl 24 _ _ (by rfl) (w.heap.size + 1 + 1) _ (by rfl) (by rfl) _ _ L3.out (by rw [hs1.out]; exact info64) (by rw [hs1.out, hs2.out]) h1.out ?_))
      refine bodyPost_ret (results_row_tmp rfl _ _ (w.heap.size + 1 + 1) _ (vecA a) _ rfl (L3.out.row _) under64 rfl (by rw [hs1.out]; exact info64)) rfl ?_
      refine ⟨?_, below_setRow B1.out (by omega) _⟩
      rw [PV'.out]
      first | rfl | (rw [hPB.out]; rfl)
    case inr.inr =>
      have dn1 : decide (((d.1.val : Nat) : Int) < 1) = false := decide_eq_false c1
      have dn2 : decide ((64 : Int) < ((d.1.val : Nat) : Int)) = false := decide_eq_false c2
      have NEQ' : ∀ u : World, (binOp .neq 60 (.agg #[.int .u8 x, .int .u16 y]) (.agg (encP d).toArray)).run Tryz.prog u = .ok (.bool true) u := fun u => by
        refine (NEQ u).trans ?_
        rw [c3]; rfl
      clear NEQ CS c3
      refine wp_region_ext mixed (by kernel_rfl) ?_
      repeat (first
        | go_big_quiet_skip
        | (refine wpQuiet_load_row K1.out under64 rfl (by rw [hs1.out]; exact info64) rfl rfl ?_; simp only [List.set_cons_succ, List.set_cons_zero])
        | (refine wpQuiet_load_row K2.out underPid rfl infoPid rfl rfl ?_; simp only [List.set_cons_succ, List.set_cons_zero])
        | go_big_quiet_step ((go_at_call 214; exact ext_call (HN.out _))))
      refine wpQuiet_nil ?_
      rintro _ ⟨z, rfl⟩
      have B1 := Lib.hid (B0.out.trans (z.h.mono B0.out.size))
      have L1 := Lib.hid (K1.out.ext z.h)
      have L3 := Lib.hid (K3.out.ext z.h)
      clear q0
      generalize z.w = w1 at *
      go_wp2_with (first
        | (refine wpList_load_row rfl 24 _ (by rfl) w.heap.size (by rfl) _ _ _ _ L1.out under64 rfl (by rw [hs1.out]; exact info64) ?_)
        | (refine wpList_store_row rfl 24 _ _ (by rfl) (w.heap.size + 1 + 1) _ (by rfl) (by rfl) _ _ L3.out (by rw [hs1.out]; exact info64) (by rw [hs1.out, hs2.out]) h1.out ?_))
      refine bodyPost_ret (results_row_tmp rfl _ _ (w.heap.size + 1 + 1) _ (vecA a) _ rfl (L3.out.row _) under64 rfl (by rw [hs1.out]; exact info64)) rfl ?_
      refine ⟨?_, below_setRow B1.out (by omega) _⟩
      rw [PV'.out]
      first | rfl | (rw [hPB.out]; rfl)
end Go.Proofs.YtdafiipedlglpaaGreatDoor
