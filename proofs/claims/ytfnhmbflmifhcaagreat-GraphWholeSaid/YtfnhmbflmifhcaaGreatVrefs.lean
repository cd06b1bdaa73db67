/- Vectors: the document's number of an author, the patch that comes next, whether a patch is had, one patch more. -/
import Derived.Test.YtfnhmbflmifhcaaGreatVecs
import Derived.Test.YtfnhmbflmifhcaaGreatIdxw
import Derived.Deep.DeepCutAuto
namespace Go.Proofs.YtfnhmbflmifhcaaGreat
open Go.RowKit

set_option maxRecDepth 100000 in
set_option maxHeartbeats 1000000 in
theorem rof_any (a : List Int) (ha : VecOk a) (n : Nat) (w : World) : Calls Tryz.prog 83 #[.agg (vecA a), .int .u8 n] w (RetB w (.int .i64 (ofV a n))) := by
  have K1 : Hid (Blk (w.alloc (.cells (vecA a) 67)) w.heap.size 67 (vecA a)) := Blk.new _ _ _
  have B0 : Hid (Below w.heap.size w (w.alloc (.cells (vecA a) 67))) := (Below.refl _ _).alloc (Nat.le_refl _) _
  by_cases h1 : 1 ≤ n
  · by_cases h2 : n ≤ 64
    · have hi : inV n = true := decide_eq_true ⟨h1, h2⟩
      have F : Hid (ofV a n = a.getD (n - 1) 0) := if_pos hi
      have c1 := K1.out.cell (n - 1)
      rw [vecA_get _ _ (by rw [ha.len]; omega)] at c1
      have X := ha.get (n - 1) (by omega)
      obtain ⟨m, rfl⟩ : ∃ m, n = m + 1 := ⟨n - 1, by omega⟩
      rw [Nat.add_sub_cancel] at c1 F X
      obtain ⟨x0, x1⟩ := X
      have hb0 : ((m : Nat) : Int) < 64 := by omega
      have hb1 : (0 : Int) ≤ (m : Int) := by omega
      clear ha h1 h2 hi
      generalize a.getD m 0 = x at *
      go_enter Tryz.func83, Tryz.ntmps83
      go_wp2
      go_ret
      exact ⟨ret_int F.out.symm, B0.out⟩
    · have hi : inV n = false := decide_eq_false (by omega)
      have F : Hid (ofV a n = 0) := by unfold ofV; rw [hi]; rfl
      have hd : (64 : Int) < (n : Int) := by omega
      clear ha hi
      go_enter Tryz.func83, Tryz.ntmps83
      go_wp2
      go_ret
      exact ⟨ret_int F.out.symm, B0.out⟩
  · have hi : inV n = false := decide_eq_false (by omega)
    have F : Hid (ofV a n = 0) := by unfold ofV; rw [hi]; rfl
    have hd : (n : Int) < 1 := by omega
    clear ha hi h1
    go_enter Tryz.func83, Tryz.ntmps83
    go_wp2
    go_ret
    exact ⟨ret_int F.out.symm, B0.out⟩

set_option maxRecDepth 100000 in
set_option maxHeartbeats 1000000 in
theorem rhas_any (a : List Int) (ha : VecOk a) (n : Nat) (s : Int) (hs : 0 ≤ s ∧ s < 65536) (w : World) : Calls Tryz.prog 30 #[.agg (vecA a), .agg #[.int .u8 n, .int .u16 s]] w (RetB w (.bool (hasV a n s))) := by
  have HN := Lib.hid (fun w0 => rof_any a ha n w0)
  have hs1 : Hid ((vecA a).size = 64) := by rw [Hid, vecA_size]; exact ha.len
  have F : Hid (hasV a n s = decide (1 ≤ s ∧ s ≤ ofV a n)) := by
    rw [Hid]
    unfold hasV ofV
    cases hi : inV n
    · simp; omega
    · simp
  have X := ofV_bd ha n
  obtain ⟨x0, x1⟩ := X
  obtain ⟨s0, s1⟩ := hs
  clear ha
  generalize ofV a n = x at *
  have K1 : Hid (Blk ((w.alloc (.cells (vecA a) 67)).alloc (.cells #[.int .u8 n, .int .u16 s] 33)) w.heap.size 67 (vecA a)) := (Blk.new _ _ _).alloc _
  have B0 : Hid (Below w.heap.size w ((w.alloc (.cells (vecA a) 67)).alloc (.cells #[.int .u8 n, .int .u16 s] 33))) := ((Below.refl _ _).alloc (Nat.le_refl _) _).alloc (by simp) _
  have K2 : Hid (Blk ((w.alloc (.cells (vecA a) 67)).alloc (.cells #[.int .u8 n, .int .u16 s] 33)) (w.heap.size + 1) 33 #[.int .u8 n, .int .u16 s]) := Blk.newAt (by simp) _ _
  go_enter Tryz.func30, Tryz.ntmps30
  go_upto_region 1 with fail
  generalize ((w.alloc (.cells (vecA a) 67)).alloc (.cells #[.int .u8 n, .int .u16 s] 33)) = w0 at *
  have q0 : ∀ z : Ext w0, z.w.cell? ⟨w.heap.size + 1, 0, none⟩ = some (.int .u8 n) := fun z => (K2.out.ext z.h).cell 0
  have q1 : ∀ z : Ext w0, z.w.cell? ⟨w.heap.size + 1, 1, none⟩ = some (.int .u16 s) := fun z => (K2.out.ext z.h).cell 1
  by_cases h1 : 1 ≤ s
  · have G : Hid (hasV a n s = decide (s ≤ x)) := by rw [Hid, F.out]; simp [h1]
    clear F
    refine wp_region_ext mixed (by kernel_rfl) ?_
    repeat (first
      | (refine wpQuiet_load_row K1.out under64 rfl (by rw [hs1.out]; exact info64) rfl rfl ?_; simp only [List.set_cons_succ, List.set_cons_zero])
      | go_big_quiet_step ((go_at_call 83; exact ext_call (HN.out _))))
    refine wpQuiet_nil ?_
    rintro _ ⟨z, rfl⟩
    have B1 := Lib.hid (B0.out.trans (z.h.mono B0.out.size))
    generalize z.w = w1 at *
    clear q0 q1
    go_wp2
    go_ret
    exact ⟨ret_bool G.out.symm, B1.out⟩
  · have G : Hid (hasV a n s = false) := by rw [Hid, F.out]; simp [h1]
    have hd : decide (1 ≤ s) = false := decide_eq_false h1
    clear F
    refine wp_region_ext mixed (by kernel_rfl) ?_
    repeat (first
      | go_big_quiet_skip
      | go_big_quiet_step (fail))
    refine wpQuiet_nil ?_
    rintro _ ⟨z, rfl⟩
    have B1 := Lib.hid (B0.out.trans (z.h.mono B0.out.size))
    generalize z.w = w1 at *
    clear q0 q1
    go_wp2
    go_ret
    exact ⟨ret_bool G.out.symm, B1.out⟩

end Go.Proofs.YtfnhmbflmifhcaaGreat
