/- Names of patches: both orders, walked. -/
import Derived.Test.YtceapefjdiphpaaDoorPidx
namespace Go.Proofs.YtceapefjdiphpaaDoor
open Go.RowKit

theorem signV_zero (x y : Int) : (signV x y == 0) = decide (x = y) := by
  unfold signV; rw [Bool.eq_iff_iff]; simp only [beq_iff_eq, decide_eq_true_eq]; split <;> (try split) <;> omega
theorem packV_inj {a s b t : Int} (hs : 0 ≤ s ∧ s < 65536) (ht : 0 ≤ t ∧ t < 65536) : packV a s = packV b t ↔ a = b ∧ s = t := by unfold packV; omega
theorem cmpV_zero {a s b t : Int} (hs : 0 ≤ s ∧ s < 65536) (ht : 0 ≤ t ∧ t < 65536) : (cmpV a s b t == 0) = (decide (a = b) && decide (s = t)) := by
  unfold cmpV
  rw [signV_zero, Bool.eq_iff_iff]
  simp only [Bool.and_eq_true, decide_eq_true_eq]
  exact packV_inj hs ht
theorem latV_zero {a s b t : Int} (ha : 0 ≤ a ∧ a < 256) (hb : 0 ≤ b ∧ b < 256) : (latV a s b t == 0) = (decide (a = b) && decide (s = t)) := by
  unfold latV
  rw [signV_zero, Bool.eq_iff_iff]
  simp only [Bool.and_eq_true, decide_eq_true_eq]
  rw [packV_inj (by omega) (by omega)]
  exact And.comm
theorem signV_trans {x y z : Int} (h1 : signV x y < 0) (h2 : signV y z < 0) : signV x z < 0 := by
  unfold signV at *; split at h1 <;> (try split at h1) <;> split at h2 <;> (try split at h2) <;> split <;> (try split) <;> omega
/-- what of three numbers' stands is asked -/
structure Ord3 (x y u v : Int) (q : Bool) : Prop where
  bx : -1 ≤ x ∧ x ≤ 1
  by_ : -1 ≤ y ∧ y ≤ 1
  neg : x = -y
  zero : (x == 0) = q
  trans : x < 0 → u < 0 → v < 0

set_option maxRecDepth 100000 in
set_option maxHeartbeats 16000000 in
theorem pidOrders_main (a s b t c r : Nat) (ha : a < 256) (hs : s < 65536) (hb : b < 256) (ht : t < 65536) (hc : c < 256) (hr : r < 65536) (w : World) (hT : TabOk w) :
    Calls Tryd.prog 5 #[.agg #[.int .u8 a, .int .u16 s], .agg #[.int .u8 b, .int .u16 t], .agg #[.int .u8 c, .int .u16 r]] w (RetB w (.bool true)) := by
  have H1 := Lib.hid (fun w0 => cmp_any a s b t (by omega) (by omega) (by omega) (by omega) w0)
  have H2 := Lib.hid (fun w0 => cmp_any b t a s (by omega) (by omega) (by omega) (by omega) w0)
  have H3 := Lib.hid (fun w0 => cmp_any b t c r (by omega) (by omega) (by omega) (by omega) w0)
  have H4 := Lib.hid (fun w0 => cmp_any a s c r (by omega) (by omega) (by omega) (by omega) w0)
  have L1 := Lib.hid (fun w0 => later_any a s b t (by omega) (by omega) (by omega) (by omega) w0)
  have L2 := Lib.hid (fun w0 => later_any b t a s (by omega) (by omega) (by omega) (by omega) w0)
  have L3 := Lib.hid (fun w0 => later_any b t c r (by omega) (by omega) (by omega) (by omega) w0)
  have L4 := Lib.hid (fun w0 => later_any a s c r (by omega) (by omega) (by omega) (by omega) w0)
  have H9 := Lib.hid (fun w0 h => works10 w0 h)
  have EQ := fun w0 => eql_pid (a : Int) (s : Int) (b : Int) (t : Int) w0
  have O1 : Hid (Ord3 (cmpV a s b t) (cmpV b t a s) (cmpV b t c r) (cmpV a s c r) (decide ((a : Int) = b) && decide ((s : Int) = t))) := ⟨signV_bd _ _, signV_bd _ _, signV_neg _ _, cmpV_zero (by omega) (by omega), signV_trans⟩
  have O2 : Hid (Ord3 (latV a s b t) (latV b t a s) (latV b t c r) (latV a s c r) (decide ((a : Int) = b) && decide ((s : Int) = t))) := ⟨signV_bd _ _, signV_bd _ _, signV_neg _ _, latV_zero (by omega) (by omega), signV_trans⟩
  have B0 : Hid (Below w.heap.size w (((w.alloc (.cells #[.int .u8 a, .int .u16 s] 24)).alloc (.cells #[.int .u8 b, .int .u16 t] 24)).alloc (.cells #[.int .u8 c, .int .u16 r] 24))) := (two_box _ _ _).alloc (by simp; omega) _
  have T0 := Lib.hid (tab_ext hT B0.out)
  have K1 : Hid (Blk (((w.alloc (.cells #[.int .u8 a, .int .u16 s] 24)).alloc (.cells #[.int .u8 b, .int .u16 t] 24)).alloc (.cells #[.int .u8 c, .int .u16 r] 24)) w.heap.size 24 #[.int .u8 a, .int .u16 s]) := ((Blk.new _ _ _).alloc _).alloc _
  have K2 : Hid (Blk (((w.alloc (.cells #[.int .u8 a, .int .u16 s] 24)).alloc (.cells #[.int .u8 b, .int .u16 t] 24)).alloc (.cells #[.int .u8 c, .int .u16 r] 24)) (w.heap.size + 1) 24 #[.int .u8 b, .int .u16 t]) := (Blk.newAt (by simp) _ _).alloc _
  have K3 : Hid (Blk (((w.alloc (.cells #[.int .u8 a, .int .u16 s] 24)).alloc (.cells #[.int .u8 b, .int .u16 t] 24)).alloc (.cells #[.int .u8 c, .int .u16 r] 24)) (w.heap.size + 1 + 1) 24 #[.int .u8 c, .int .u16 r]) := Blk.newAt (by simp) _ _
  clear ha hs hb ht hc hr hT
  generalize cmpV a s b t = x at *
  generalize cmpV b t a s = y at *
  generalize cmpV b t c r = u at *
  generalize cmpV a s c r = v at *
  generalize latV a s b t = x' at *
  generalize latV b t a s = y' at *
  generalize latV b t c r = u' at *
  generalize latV a s c r = v' at *
  generalize (decide ((a : Int) = b) && decide ((s : Int) = t)) = q at *
  obtain ⟨bx, cx⟩ := O1.out.bx
  obtain ⟨by_, cy⟩ := O1.out.by_
  obtain ⟨bx', cx'⟩ := O2.out.bx
  obtain ⟨by', cy'⟩ := O2.out.by_
  have n1 : (x == -y) = true := by have := O1.out.neg; simpa using this
  have n2 : (x' == -y') = true := by have := O2.out.neg; simpa using this
  have z1 : ((x == 0) == q) = true := by rw [O1.out.zero]; simp
  have z2 : ((x' == 0) == q) = true := by rw [O2.out.zero]; simp
  go_enter Tryd.func5, Tryd.ntmps5
  go_wp2_with fail
  generalize (((w.alloc (.cells #[.int .u8 a, .int .u16 s] 24)).alloc (.cells #[.int .u8 b, .int .u16 t] 24)).alloc (.cells #[.int .u8 c, .int .u16 r] 24)) = w0 at *
  by_cases gx : 0 ≤ x
  · have dx : decide (0 ≤ x) = true := decide_eq_true gx
    refine wp_region_ext mixedP (by kernel_rfl) ?_
    repeat (first
      | go_big_quiet_skip
      | (refine wpQuiet_load_row K1.out underPid rfl infoPid rfl rfl ?_; simp only [List.set_cons_succ, List.set_cons_zero])
      | (refine wpQuiet_load_row K2.out underPid rfl infoPid rfl rfl ?_; simp only [List.set_cons_succ, List.set_cons_zero])
      | (refine wpQuiet_load_row K3.out underPid rfl infoPid rfl rfl ?_; simp only [List.set_cons_succ, List.set_cons_zero])
      | go_big_quiet_step ((first | (go_at_call 8; with_reducible exact ext_call (H1.out _)) | (go_at_call 8; with_reducible exact ext_call (H2.out _)) | (go_at_call 8; with_reducible exact ext_call (H3.out _)) | (go_at_call 8; with_reducible exact ext_call (H4.out _)))))
    refine wpQuiet_nil ?_
    rintro _ ⟨⟨w1, hz⟩, rfl⟩
    have B1 := Lib.hid (B0.out.trans (hz.mono B0.out.size))
    have K4 := Lib.hid (K1.out.ext hz)
    have K5 := Lib.hid (K2.out.ext hz)
    have K6 := Lib.hid (K3.out.ext hz)
    have T1 := Lib.hid (tab_ext T0.out hz)
    clear B0 K1 K2 K3 T0
    clear hz
    go_wp2_with fail
    by_cases gx' : 0 ≤ x'
    · have dx' : decide (0 ≤ x') = true := decide_eq_true gx'
      refine wp_region_ext mixedP (by kernel_rfl) ?_
      repeat (first
        | go_big_quiet_skip
        | (refine wpQuiet_load_row K4.out underPid rfl infoPid rfl rfl ?_; simp only [List.set_cons_succ, List.set_cons_zero])
        | (refine wpQuiet_load_row K5.out underPid rfl infoPid rfl rfl ?_; simp only [List.set_cons_succ, List.set_cons_zero])
        | (refine wpQuiet_load_row K6.out underPid rfl infoPid rfl rfl ?_; simp only [List.set_cons_succ, List.set_cons_zero])
        | go_big_quiet_step ((first | (go_at_call 13; with_reducible exact ext_call (L1.out _)) | (go_at_call 13; with_reducible exact ext_call (L2.out _)) | (go_at_call 13; with_reducible exact ext_call (L3.out _)) | (go_at_call 13; with_reducible exact ext_call (L4.out _)))))
      refine wpQuiet_nil ?_
      rintro _ ⟨z, rfl⟩
      go_wp2_with fail
      refine (H9.out _ (tab_ext T1.out z.h)).mono ?_
      rintro e w2 ⟨rfl, b2⟩
      have B3 := Lib.hid ((B1.out.trans (z.h.mono B1.out.size)).trans (b2.mono (B1.out.trans (z.h.mono B1.out.size)).size))
      clear b2
      go_wp2
      go_ret
      exact ⟨rfl, B3.out⟩
    · have dx' : decide (0 ≤ x') = false := decide_eq_false gx'
      by_cases gu' : 0 ≤ u'
      · have du' : decide (0 ≤ u') = true := decide_eq_true gu'
        refine wp_region_ext mixedP (by kernel_rfl) ?_
        repeat (first
          | go_big_quiet_skip
          | (refine wpQuiet_load_row K4.out underPid rfl infoPid rfl rfl ?_; simp only [List.set_cons_succ, List.set_cons_zero])
          | (refine wpQuiet_load_row K5.out underPid rfl infoPid rfl rfl ?_; simp only [List.set_cons_succ, List.set_cons_zero])
          | (refine wpQuiet_load_row K6.out underPid rfl infoPid rfl rfl ?_; simp only [List.set_cons_succ, List.set_cons_zero])
          | go_big_quiet_step ((first | (go_at_call 13; with_reducible exact ext_call (L1.out _)) | (go_at_call 13; with_reducible exact ext_call (L2.out _)) | (go_at_call 13; with_reducible exact ext_call (L3.out _)) | (go_at_call 13; with_reducible exact ext_call (L4.out _)))))
        refine wpQuiet_nil ?_
        rintro _ ⟨z, rfl⟩
        go_wp2_with fail
        refine (H9.out _ (tab_ext T1.out z.h)).mono ?_
        rintro e w2 ⟨rfl, b2⟩
        have B3 := Lib.hid ((B1.out.trans (z.h.mono B1.out.size)).trans (b2.mono (B1.out.trans (z.h.mono B1.out.size)).size))
        clear b2
        go_wp2
        go_ret
        exact ⟨rfl, B3.out⟩
      · have du' : decide (0 ≤ u') = false := decide_eq_false gu'
        have dv' : decide (v' < 0) = true := decide_eq_true (O2.out.trans (by omega) (by omega))
        refine wp_region_ext mixedP (by kernel_rfl) ?_
        repeat (first
          | go_big_quiet_skip
          | (refine wpQuiet_load_row K4.out underPid rfl infoPid rfl rfl ?_; simp only [List.set_cons_succ, List.set_cons_zero])
          | (refine wpQuiet_load_row K5.out underPid rfl infoPid rfl rfl ?_; simp only [List.set_cons_succ, List.set_cons_zero])
          | (refine wpQuiet_load_row K6.out underPid rfl infoPid rfl rfl ?_; simp only [List.set_cons_succ, List.set_cons_zero])
          | go_big_quiet_step ((first | (go_at_call 13; with_reducible exact ext_call (L1.out _)) | (go_at_call 13; with_reducible exact ext_call (L2.out _)) | (go_at_call 13; with_reducible exact ext_call (L3.out _)) | (go_at_call 13; with_reducible exact ext_call (L4.out _)))))
        refine wpQuiet_nil ?_
        rintro _ ⟨z, rfl⟩
        go_wp2_with fail
        refine (H9.out _ (tab_ext T1.out z.h)).mono ?_
        rintro e w2 ⟨rfl, b2⟩
        have B3 := Lib.hid ((B1.out.trans (z.h.mono B1.out.size)).trans (b2.mono (B1.out.trans (z.h.mono B1.out.size)).size))
        clear b2
        go_wp2
        go_ret
        exact ⟨rfl, B3.out⟩
  · have dx : decide (0 ≤ x) = false := decide_eq_false gx
    by_cases gu : 0 ≤ u
    · have du : decide (0 ≤ u) = true := decide_eq_true gu
      refine wp_region_ext mixedP (by kernel_rfl) ?_
      repeat (first
        | go_big_quiet_skip
        | (refine wpQuiet_load_row K1.out underPid rfl infoPid rfl rfl ?_; simp only [List.set_cons_succ, List.set_cons_zero])
        | (refine wpQuiet_load_row K2.out underPid rfl infoPid rfl rfl ?_; simp only [List.set_cons_succ, List.set_cons_zero])
        | (refine wpQuiet_load_row K3.out underPid rfl infoPid rfl rfl ?_; simp only [List.set_cons_succ, List.set_cons_zero])
        | go_big_quiet_step ((first | (go_at_call 8; with_reducible exact ext_call (H1.out _)) | (go_at_call 8; with_reducible exact ext_call (H2.out _)) | (go_at_call 8; with_reducible exact ext_call (H3.out _)) | (go_at_call 8; with_reducible exact ext_call (H4.out _)))))
      refine wpQuiet_nil ?_
      rintro _ ⟨⟨w1, hz⟩, rfl⟩
      have B1 := Lib.hid (B0.out.trans (hz.mono B0.out.size))
      have K4 := Lib.hid (K1.out.ext hz)
      have K5 := Lib.hid (K2.out.ext hz)
      have K6 := Lib.hid (K3.out.ext hz)
      have T1 := Lib.hid (tab_ext T0.out hz)
      clear B0 K1 K2 K3 T0
      clear hz
      go_wp2_with fail
      by_cases gx' : 0 ≤ x'
      · have dx' : decide (0 ≤ x') = true := decide_eq_true gx'
        refine wp_region_ext mixedP (by kernel_rfl) ?_
        repeat (first
          | go_big_quiet_skip
          | (refine wpQuiet_load_row K4.out underPid rfl infoPid rfl rfl ?_; simp only [List.set_cons_succ, List.set_cons_zero])
          | (refine wpQuiet_load_row K5.out underPid rfl infoPid rfl rfl ?_; simp only [List.set_cons_succ, List.set_cons_zero])
          | (refine wpQuiet_load_row K6.out underPid rfl infoPid rfl rfl ?_; simp only [List.set_cons_succ, List.set_cons_zero])
          | go_big_quiet_step ((first | (go_at_call 13; with_reducible exact ext_call (L1.out _)) | (go_at_call 13; with_reducible exact ext_call (L2.out _)) | (go_at_call 13; with_reducible exact ext_call (L3.out _)) | (go_at_call 13; with_reducible exact ext_call (L4.out _)))))
        refine wpQuiet_nil ?_
        rintro _ ⟨z, rfl⟩
        go_wp2_with fail
        refine (H9.out _ (tab_ext T1.out z.h)).mono ?_
        rintro e w2 ⟨rfl, b2⟩
        have B3 := Lib.hid ((B1.out.trans (z.h.mono B1.out.size)).trans (b2.mono (B1.out.trans (z.h.mono B1.out.size)).size))
        clear b2
        go_wp2
        go_ret
        exact ⟨rfl, B3.out⟩
      · have dx' : decide (0 ≤ x') = false := decide_eq_false gx'
        by_cases gu' : 0 ≤ u'
        · have du' : decide (0 ≤ u') = true := decide_eq_true gu'
          refine wp_region_ext mixedP (by kernel_rfl) ?_
          repeat (first
            | go_big_quiet_skip
            | (refine wpQuiet_load_row K4.out underPid rfl infoPid rfl rfl ?_; simp only [List.set_cons_succ, List.set_cons_zero])
            | (refine wpQuiet_load_row K5.out underPid rfl infoPid rfl rfl ?_; simp only [List.set_cons_succ, List.set_cons_zero])
            | (refine wpQuiet_load_row K6.out underPid rfl infoPid rfl rfl ?_; simp only [List.set_cons_succ, List.set_cons_zero])
            | go_big_quiet_step ((first | (go_at_call 13; with_reducible exact ext_call (L1.out _)) | (go_at_call 13; with_reducible exact ext_call (L2.out _)) | (go_at_call 13; with_reducible exact ext_call (L3.out _)) | (go_at_call 13; with_reducible exact ext_call (L4.out _)))))
          refine wpQuiet_nil ?_
          rintro _ ⟨z, rfl⟩
          go_wp2_with fail
          refine (H9.out _ (tab_ext T1.out z.h)).mono ?_
          rintro e w2 ⟨rfl, b2⟩
          have B3 := Lib.hid ((B1.out.trans (z.h.mono B1.out.size)).trans (b2.mono (B1.out.trans (z.h.mono B1.out.size)).size))
          clear b2
          go_wp2
          go_ret
          exact ⟨rfl, B3.out⟩
        · have du' : decide (0 ≤ u') = false := decide_eq_false gu'
          have dv' : decide (v' < 0) = true := decide_eq_true (O2.out.trans (by omega) (by omega))
          refine wp_region_ext mixedP (by kernel_rfl) ?_
          repeat (first
            | go_big_quiet_skip
            | (refine wpQuiet_load_row K4.out underPid rfl infoPid rfl rfl ?_; simp only [List.set_cons_succ, List.set_cons_zero])
            | (refine wpQuiet_load_row K5.out underPid rfl infoPid rfl rfl ?_; simp only [List.set_cons_succ, List.set_cons_zero])
            | (refine wpQuiet_load_row K6.out underPid rfl infoPid rfl rfl ?_; simp only [List.set_cons_succ, List.set_cons_zero])
            | go_big_quiet_step ((first | (go_at_call 13; with_reducible exact ext_call (L1.out _)) | (go_at_call 13; with_reducible exact ext_call (L2.out _)) | (go_at_call 13; with_reducible exact ext_call (L3.out _)) | (go_at_call 13; with_reducible exact ext_call (L4.out _)))))
          refine wpQuiet_nil ?_
          rintro _ ⟨z, rfl⟩
          go_wp2_with fail
          refine (H9.out _ (tab_ext T1.out z.h)).mono ?_
          rintro e w2 ⟨rfl, b2⟩
          have B3 := Lib.hid ((B1.out.trans (z.h.mono B1.out.size)).trans (b2.mono (B1.out.trans (z.h.mono B1.out.size)).size))
          clear b2
          go_wp2
          go_ret
          exact ⟨rfl, B3.out⟩
    · have du : decide (0 ≤ u) = false := decide_eq_false gu
      have dv : decide (v < 0) = true := decide_eq_true (O1.out.trans (by omega) (by omega))
      refine wp_region_ext mixedP (by kernel_rfl) ?_
      repeat (first
        | go_big_quiet_skip
        | (refine wpQuiet_load_row K1.out underPid rfl infoPid rfl rfl ?_; simp only [List.set_cons_succ, List.set_cons_zero])
        | (refine wpQuiet_load_row K2.out underPid rfl infoPid rfl rfl ?_; simp only [List.set_cons_succ, List.set_cons_zero])
        | (refine wpQuiet_load_row K3.out underPid rfl infoPid rfl rfl ?_; simp only [List.set_cons_succ, List.set_cons_zero])
        | go_big_quiet_step ((first | (go_at_call 8; with_reducible exact ext_call (H1.out _)) | (go_at_call 8; with_reducible exact ext_call (H2.out _)) | (go_at_call 8; with_reducible exact ext_call (H3.out _)) | (go_at_call 8; with_reducible exact ext_call (H4.out _)))))
      refine wpQuiet_nil ?_
      rintro _ ⟨⟨w1, hz⟩, rfl⟩
      have B1 := Lib.hid (B0.out.trans (hz.mono B0.out.size))
      have K4 := Lib.hid (K1.out.ext hz)
      have K5 := Lib.hid (K2.out.ext hz)
      have K6 := Lib.hid (K3.out.ext hz)
      have T1 := Lib.hid (tab_ext T0.out hz)
      clear B0 K1 K2 K3 T0
      clear hz
      go_wp2_with fail
      by_cases gx' : 0 ≤ x'
      · have dx' : decide (0 ≤ x') = true := decide_eq_true gx'
        refine wp_region_ext mixedP (by kernel_rfl) ?_
        repeat (first
          | go_big_quiet_skip
          | (refine wpQuiet_load_row K4.out underPid rfl infoPid rfl rfl ?_; simp only [List.set_cons_succ, List.set_cons_zero])
          | (refine wpQuiet_load_row K5.out underPid rfl infoPid rfl rfl ?_; simp only [List.set_cons_succ, List.set_cons_zero])
          | (refine wpQuiet_load_row K6.out underPid rfl infoPid rfl rfl ?_; simp only [List.set_cons_succ, List.set_cons_zero])
          | go_big_quiet_step ((first | (go_at_call 13; with_reducible exact ext_call (L1.out _)) | (go_at_call 13; with_reducible exact ext_call (L2.out _)) | (go_at_call 13; with_reducible exact ext_call (L3.out _)) | (go_at_call 13; with_reducible exact ext_call (L4.out _)))))
        refine wpQuiet_nil ?_
        rintro _ ⟨z, rfl⟩
        go_wp2_with fail
        refine (H9.out _ (tab_ext T1.out z.h)).mono ?_
        rintro e w2 ⟨rfl, b2⟩
        have B3 := Lib.hid ((B1.out.trans (z.h.mono B1.out.size)).trans (b2.mono (B1.out.trans (z.h.mono B1.out.size)).size))
        clear b2
        go_wp2
        go_ret
        exact ⟨rfl, B3.out⟩
      · have dx' : decide (0 ≤ x') = false := decide_eq_false gx'
        by_cases gu' : 0 ≤ u'
        · have du' : decide (0 ≤ u') = true := decide_eq_true gu'
          refine wp_region_ext mixedP (by kernel_rfl) ?_
          repeat (first
            | go_big_quiet_skip
            | (refine wpQuiet_load_row K4.out underPid rfl infoPid rfl rfl ?_; simp only [List.set_cons_succ, List.set_cons_zero])
            | (refine wpQuiet_load_row K5.out underPid rfl infoPid rfl rfl ?_; simp only [List.set_cons_succ, List.set_cons_zero])
            | (refine wpQuiet_load_row K6.out underPid rfl infoPid rfl rfl ?_; simp only [List.set_cons_succ, List.set_cons_zero])
            | go_big_quiet_step ((first | (go_at_call 13; with_reducible exact ext_call (L1.out _)) | (go_at_call 13; with_reducible exact ext_call (L2.out _)) | (go_at_call 13; with_reducible exact ext_call (L3.out _)) | (go_at_call 13; with_reducible exact ext_call (L4.out _)))))
          refine wpQuiet_nil ?_
          rintro _ ⟨z, rfl⟩
          go_wp2_with fail
          refine (H9.out _ (tab_ext T1.out z.h)).mono ?_
          rintro e w2 ⟨rfl, b2⟩
          have B3 := Lib.hid ((B1.out.trans (z.h.mono B1.out.size)).trans (b2.mono (B1.out.trans (z.h.mono B1.out.size)).size))
          clear b2
          go_wp2
          go_ret
          exact ⟨rfl, B3.out⟩
        · have du' : decide (0 ≤ u') = false := decide_eq_false gu'
          have dv' : decide (v' < 0) = true := decide_eq_true (O2.out.trans (by omega) (by omega))
          refine wp_region_ext mixedP (by kernel_rfl) ?_
          repeat (first
            | go_big_quiet_skip
            | (refine wpQuiet_load_row K4.out underPid rfl infoPid rfl rfl ?_; simp only [List.set_cons_succ, List.set_cons_zero])
            | (refine wpQuiet_load_row K5.out underPid rfl infoPid rfl rfl ?_; simp only [List.set_cons_succ, List.set_cons_zero])
            | (refine wpQuiet_load_row K6.out underPid rfl infoPid rfl rfl ?_; simp only [List.set_cons_succ, List.set_cons_zero])
            | go_big_quiet_step ((first | (go_at_call 13; with_reducible exact ext_call (L1.out _)) | (go_at_call 13; with_reducible exact ext_call (L2.out _)) | (go_at_call 13; with_reducible exact ext_call (L3.out _)) | (go_at_call 13; with_reducible exact ext_call (L4.out _)))))
          refine wpQuiet_nil ?_
          rintro _ ⟨z, rfl⟩
          go_wp2_with fail
          refine (H9.out _ (tab_ext T1.out z.h)).mono ?_
          rintro e w2 ⟨rfl, b2⟩
          have B3 := Lib.hid ((B1.out.trans (z.h.mono B1.out.size)).trans (b2.mono (B1.out.trans (z.h.mono B1.out.size)).size))
          clear b2
          go_wp2
          go_ret
          exact ⟨rfl, B3.out⟩
end Go.Proofs.YtceapefjdiphpaaDoor
