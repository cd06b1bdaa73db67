/- Names of patches: packed and unpacked, walked. -/
import Derived.Test.YtceapefjdiphpaaDoorPidx
namespace Go.Proofs.YtceapefjdiphpaaDoor
open Go.RowKit

theorem pack_lt (x y : Int) : (decide (x < y) == decide (signV x y < 0)) = true := by
  unfold signV; rw [beq_iff_eq, Bool.eq_iff_iff]; simp only [decide_eq_true_eq]; split <;> (try split) <;> omega
theorem pack_eq {a s b t : Int} (hs : 0 ≤ s ∧ s < 65536) (ht : 0 ≤ t ∧ t < 65536) : ((packV a s == packV b t) == (decide (a = b) && decide (s = t))) = true := by
  rw [beq_iff_eq, Bool.eq_iff_iff]; simp only [beq_iff_eq, Bool.and_eq_true, decide_eq_true_eq]; unfold packV; omega
theorem pack_back {a s : Int} (hs : 0 ≤ s ∧ s < 65536) : packV a s / 65536 = a ∧ packV a s % 65536 = s := by unfold packV; omega
theorem pack_bd {a s : Int} (ha : 0 ≤ a ∧ a < 256) (hs : 0 ≤ s ∧ s < 65536) : 0 ≤ packV a s ∧ packV a s < 16777216 := by unfold packV; omega

set_option maxRecDepth 100000 in
set_option maxHeartbeats 8000000 in
theorem pidPacks_yes (a s b t : Nat) (ha : a < 256) (hs : s < 65536) (hb : b < 256) (ht : t < 65536) (x : Int) (hx0 : 0 ≤ x) (hx : x < 16777216) (w : World) (hT : TabOk w) :
    Calls Tryd.prog 3 #[.agg #[.int .u8 a, .int .u16 s], .agg #[.int .u8 b, .int .u16 t], .int .u32 x] w (RetB w (.bool true)) := by
  have HP := Lib.hid (fun w0 => pack_any a s (by omega) (by omega) w0)
  have HQ := Lib.hid (fun w0 => pack_any b t (by omega) (by omega) w0)
  have HC := Lib.hid (fun w0 => cmp_any a s b t (by omega) (by omega) (by omega) (by omega) w0)
  have HU := Lib.hid (fun w0 => unpack_yes (packV a s) (pack_bd (by omega) (by omega)) w0)
  rw [(pack_back (a := (a : Int)) (s := (s : Int)) (by omega)).1, (pack_back (a := (a : Int)) (s := (s : Int)) (by omega)).2] at HU
  have H9 := Lib.hid (fun w0 h => works10 w0 h)
  have LT := pack_lt (packV a s) (packV b t)
  have PE := pack_eq (a := (a : Int)) (s := (s : Int)) (b := (b : Int)) (t := (t : Int)) (by omega) (by omega)
  have EQ := fun w0 => eql_pid (a : Int) (s : Int) (b : Int) (t : Int) w0
  have NE1 : ∀ w0 : World, (binOp .neq 24 (.agg #[.int .u8 a, .int .u16 s]) (.agg #[.int .u8 a, .int .u16 s])).run Tryd.prog w0 = .ok (.bool false) w0 := fun w0 => by rw [neq_pid]; simp
  have HX := Lib.hid (fun w0 => unpack_yes x ⟨hx0, hx⟩ w0)
  have HY : Hid (∀ w0, Calls Tryd.prog 7 #[.agg #[.int .u8 (x / 65536), .int .u16 (x % 65536)]] w0 (RetB w0 (.int .u32 x))) := fun w0 => by
    have := pack_any (x / 65536) (x % 65536) (by omega) (by omega) w0
    have e : packV (x / 65536) (x % 65536) = x := by unfold packV; omega
    rw [e] at this; exact this
  have dx : decide (x < 16777216) = true := decide_eq_true hx
  obtain ⟨c, hc⟩ : ∃ c, c = x / 65536 := ⟨_, rfl⟩
  obtain ⟨d, hd⟩ : ∃ d, d = x % 65536 := ⟨_, rfl⟩
  rw [← hc, ← hd] at HX HY
  clear hc hd
  have B0 : Hid (Below w.heap.size w ((w.alloc (.cells #[.int .u8 a, .int .u16 s] 24)).alloc (.cells #[.int .u8 b, .int .u16 t] 24))) := two_box _ _ _
  have T0 := Lib.hid hT
  have K1 : Hid (Blk ((w.alloc (.cells #[.int .u8 a, .int .u16 s] 24)).alloc (.cells #[.int .u8 b, .int .u16 t] 24)) w.heap.size 24 #[.int .u8 a, .int .u16 s]) := (Blk.new _ _ _).alloc _
  have K2 : Hid (Blk ((w.alloc (.cells #[.int .u8 a, .int .u16 s] 24)).alloc (.cells #[.int .u8 b, .int .u16 t] 24)) (w.heap.size + 1) 24 #[.int .u8 b, .int .u16 t]) := Blk.newAt (by simp) _ _
  clear ha hs hb ht hT hx hx0
  unfold cmpV at HC
  generalize packV a s = P at *
  generalize packV b t = Q at *
  generalize signV P Q = C at *
  generalize (decide ((a : Int) = b) && decide ((s : Int) = t)) = q at *
  go_enter Tryd.func3, Tryd.ntmps3
  go_wp2_with (refine wpList_load_row rfl 24 _ (by rfl) w.heap.size (by rfl) _ _ _ _ K1.out underPid rfl infoPid ?_)
  have hz0 : ((w.alloc (.cells #[.int .u8 a, .int .u16 s] 24)).alloc (.cells #[.int .u8 b, .int .u16 t] 24)).heap.size = w.heap.size + 1 + 1 := by simp
  generalize ((w.alloc (.cells #[.int .u8 a, .int .u16 s] 24)).alloc (.cells #[.int .u8 b, .int .u16 t] 24)) = w0 at *
  have hz0' := Lib.hid hz0
  clear hz0
  refine (HP.out _).mono ?_
  rintro e w1 ⟨rfl, b1⟩
  go_wp2_with fail
  refine (HU.out _).mono ?_
  rintro e w2 ⟨rfl, b2⟩
  have b12 := Lib.hid (ext_trans b1 b2)
  clear b1 b2
  have B2 := Lib.hid (B0.out.trans (b12.out.mono B0.out.size))
  have K3 := Lib.hid (K1.out.ext b12.out)
  have K4 := Lib.hid (K2.out.ext b12.out)
  clear K1 K2 B0 b12
  go_wp2_with fail
  have K5 : Hid (Blk (w2.alloc (.cells #[.int .u8 a, .int .u16 s] 24)) w2.heap.size 24 #[.int .u8 a, .int .u16 s]) := Blk.new _ _ _
  have K6 := Lib.hid (K3.out.alloc (.cells #[.int .u8 a, .int .u16 s] 24))
  have K7 := Lib.hid (K4.out.alloc (.cells #[.int .u8 a, .int .u16 s] 24))
  have B3 : Hid (Below w.heap.size w (w2.alloc (.cells #[.int .u8 a, .int .u16 s] 24))) := B2.out.alloc B2.out.size _
  clear K3 K4 B2
  generalize (w2.alloc (.cells #[.int .u8 a, .int .u16 s] 24)) = w3 at *
  generalize w2.heap.size = g at *
  refine (HX.out _).mono ?_
  rintro e w4 ⟨rfl, b4⟩
  have B4 := Lib.hid (B3.out.trans (b4.mono B3.out.size))
  have K8 := Lib.hid (K5.out.ext b4)
  have K9 := Lib.hid (K6.out.ext b4)
  have K10 := Lib.hid (K7.out.ext b4)
  clear K5 K6 K7 B3 b4
  have gl := K8.out.lt
  have gl2 := K9.out.lt
  have gl3 := K10.out.lt
  have r0 : ∀ o : Obj, (w4.alloc o).cell? ⟨g, 0, none⟩ = some (.int .u8 a) := fun o => (K8.out.alloc o).cell 0
  have r1 : ∀ o : Obj, (w4.alloc o).cell? ⟨g, 1, none⟩ = some (.int .u16 s) := fun o => (K8.out.alloc o).cell 1
  have r2 : ∀ o : Obj, (w4.alloc o).cell? ⟨w.heap.size, 0, none⟩ = some (.int .u8 a) := fun o => (K9.out.alloc o).cell 0
  have r3 : ∀ o : Obj, (w4.alloc o).cell? ⟨w.heap.size, 1, none⟩ = some (.int .u16 s) := fun o => (K9.out.alloc o).cell 1
  go_wp2_with fail
  have K11 := Lib.hid (K9.out.alloc (.cells #[.int .u8 c, .int .u16 d] 24))
  have K12 := Lib.hid (K10.out.alloc (.cells #[.int .u8 c, .int .u16 d] 24))
  have B5 : Hid (Below w.heap.size w (w4.alloc (.cells #[.int .u8 c, .int .u16 d] 24))) := B4.out.alloc B4.out.size _
  clear K8 K9 K10 B4 r0 r1 r2 r3
  generalize (w4.alloc (.cells #[.int .u8 c, .int .u16 d] 24)) = w5 at *
  refine (HY.out _).mono ?_
  rintro e w6 ⟨rfl, b6⟩
  have B6 := Lib.hid (B5.out.trans (b6.mono B5.out.size))
  have K13 := Lib.hid (K11.out.ext b6)
  have K14 := Lib.hid (K12.out.ext b6)
  clear K11 K12 B5 b6
  go_wp2_with fail
  have T6 : Hid (TabOk w6) := tab_ext T0.out B6.out
  refine wp_region_ext mixedP (by kernel_rfl) ?_
  repeat (first
    | go_big_quiet_skip
    | (refine wpQuiet_load_row K13.out underPid rfl infoPid rfl rfl ?_; simp only [List.set_cons_succ, List.set_cons_zero])
    | (refine wpQuiet_load_row K14.out underPid rfl infoPid rfl rfl ?_; simp only [List.set_cons_succ, List.set_cons_zero])
    | go_big_quiet_step ((first | (go_at_call 7; with_reducible exact ext_call (HP.out _)) | (go_at_call 7; with_reducible exact ext_call (HQ.out _)) | (go_at_call 8; with_reducible exact ext_call (HC.out _)) | (go_at_call 9; with_reducible exact ext_call (H9.out _ (tab_ext T6.out (Ext.h _)))))))
  refine wpQuiet_nil ?_
  rintro _ ⟨z, rfl⟩
  go_wp2
  go_ret
  exact ⟨rfl, B6.out.trans (z.h.mono B6.out.size)⟩

set_option maxRecDepth 100000 in
set_option maxHeartbeats 8000000 in
theorem pidPacks_no (a s b t : Nat) (ha : a < 256) (hs : s < 65536) (hb : b < 256) (ht : t < 65536) (x : Int) (hx : 16777216 ≤ x) (hx2 : x < 4294967296) (w : World) (hT : TabOk w) :
    Calls Tryd.prog 3 #[.agg #[.int .u8 a, .int .u16 s], .agg #[.int .u8 b, .int .u16 t], .int .u32 x] w (RetB w (.bool true)) := by
  have HP := Lib.hid (fun w0 => pack_any a s (by omega) (by omega) w0)
  have HQ := Lib.hid (fun w0 => pack_any b t (by omega) (by omega) w0)
  have HC := Lib.hid (fun w0 => cmp_any a s b t (by omega) (by omega) (by omega) (by omega) w0)
  have HU := Lib.hid (fun w0 => unpack_yes (packV a s) (pack_bd (by omega) (by omega)) w0)
  rw [(pack_back (a := (a : Int)) (s := (s : Int)) (by omega)).1, (pack_back (a := (a : Int)) (s := (s : Int)) (by omega)).2] at HU
  have H9 := Lib.hid (fun w0 h => works10 w0 h)
  have LT := pack_lt (packV a s) (packV b t)
  have PE := pack_eq (a := (a : Int)) (s := (s : Int)) (b := (b : Int)) (t := (t : Int)) (by omega) (by omega)
  have EQ := fun w0 => eql_pid (a : Int) (s : Int) (b : Int) (t : Int) w0
  have NE1 : ∀ w0 : World, (binOp .neq 24 (.agg #[.int .u8 a, .int .u16 s]) (.agg #[.int .u8 a, .int .u16 s])).run Tryd.prog w0 = .ok (.bool false) w0 := fun w0 => by rw [neq_pid]; simp
  have HX := Lib.hid (fun w0 => unpack_no x ⟨hx, hx2⟩ w0)
  have dx : decide (x < 16777216) = false := decide_eq_false (by omega)
  have NE2 : ∀ w0 : World, (binOp .neq 24 (.agg #[.int .u8 0, .int .u16 0]) (.agg #[.int .u8 0, .int .u16 0])).run Tryd.prog w0 = .ok (.bool false) w0 := fun w0 => by rw [neq_pid]; simp
  have B0 : Hid (Below w.heap.size w ((w.alloc (.cells #[.int .u8 a, .int .u16 s] 24)).alloc (.cells #[.int .u8 b, .int .u16 t] 24))) := two_box _ _ _
  have T0 := Lib.hid hT
  have K1 : Hid (Blk ((w.alloc (.cells #[.int .u8 a, .int .u16 s] 24)).alloc (.cells #[.int .u8 b, .int .u16 t] 24)) w.heap.size 24 #[.int .u8 a, .int .u16 s]) := (Blk.new _ _ _).alloc _
  have K2 : Hid (Blk ((w.alloc (.cells #[.int .u8 a, .int .u16 s] 24)).alloc (.cells #[.int .u8 b, .int .u16 t] 24)) (w.heap.size + 1) 24 #[.int .u8 b, .int .u16 t]) := Blk.newAt (by simp) _ _
  clear ha hs hb ht hT hx hx2
  unfold cmpV at HC
  generalize packV a s = P at *
  generalize packV b t = Q at *
  generalize signV P Q = C at *
  generalize (decide ((a : Int) = b) && decide ((s : Int) = t)) = q at *
  go_enter Tryd.func3, Tryd.ntmps3
  go_wp2_with (refine wpList_load_row rfl 24 _ (by rfl) w.heap.size (by rfl) _ _ _ _ K1.out underPid rfl infoPid ?_)
  have hz0 : ((w.alloc (.cells #[.int .u8 a, .int .u16 s] 24)).alloc (.cells #[.int .u8 b, .int .u16 t] 24)).heap.size = w.heap.size + 1 + 1 := by simp
  generalize ((w.alloc (.cells #[.int .u8 a, .int .u16 s] 24)).alloc (.cells #[.int .u8 b, .int .u16 t] 24)) = w0 at *
  have hz0' := Lib.hid hz0
  clear hz0
  refine (HP.out _).mono ?_
  rintro e w1 ⟨rfl, b1⟩
  go_wp2_with fail
  refine (HU.out _).mono ?_
  rintro e w2 ⟨rfl, b2⟩
  have b12 := Lib.hid (ext_trans b1 b2)
  clear b1 b2
  have B2 := Lib.hid (B0.out.trans (b12.out.mono B0.out.size))
  have K3 := Lib.hid (K1.out.ext b12.out)
  have K4 := Lib.hid (K2.out.ext b12.out)
  clear K1 K2 B0 b12
  go_wp2_with fail
  have K5 : Hid (Blk (w2.alloc (.cells #[.int .u8 a, .int .u16 s] 24)) w2.heap.size 24 #[.int .u8 a, .int .u16 s]) := Blk.new _ _ _
  have K6 := Lib.hid (K3.out.alloc (.cells #[.int .u8 a, .int .u16 s] 24))
  have K7 := Lib.hid (K4.out.alloc (.cells #[.int .u8 a, .int .u16 s] 24))
  have B3 : Hid (Below w.heap.size w (w2.alloc (.cells #[.int .u8 a, .int .u16 s] 24))) := B2.out.alloc B2.out.size _
  clear K3 K4 B2
  generalize (w2.alloc (.cells #[.int .u8 a, .int .u16 s] 24)) = w3 at *
  generalize w2.heap.size = g at *
  refine (HX.out _).mono ?_
  rintro e w4 ⟨rfl, b4⟩
  have B4 := Lib.hid (B3.out.trans (b4.mono B3.out.size))
  have K8 := Lib.hid (K5.out.ext b4)
  have K9 := Lib.hid (K6.out.ext b4)
  have K10 := Lib.hid (K7.out.ext b4)
  clear K5 K6 K7 B3 b4
  have gl := K8.out.lt
  have gl2 := K9.out.lt
  have gl3 := K10.out.lt
  have r0 : ∀ o : Obj, (w4.alloc o).cell? ⟨g, 0, none⟩ = some (.int .u8 a) := fun o => (K8.out.alloc o).cell 0
  have r1 : ∀ o : Obj, (w4.alloc o).cell? ⟨g, 1, none⟩ = some (.int .u16 s) := fun o => (K8.out.alloc o).cell 1
  have r2 : ∀ o : Obj, (w4.alloc o).cell? ⟨w.heap.size, 0, none⟩ = some (.int .u8 a) := fun o => (K9.out.alloc o).cell 0
  have r3 : ∀ o : Obj, (w4.alloc o).cell? ⟨w.heap.size, 1, none⟩ = some (.int .u16 s) := fun o => (K9.out.alloc o).cell 1
  go_wp2_with fail
  have K11 := Lib.hid (K9.out.alloc (.cells #[.int .u8 0, .int .u16 0] 24))
  have K12 := Lib.hid (K10.out.alloc (.cells #[.int .u8 0, .int .u16 0] 24))
  have B5 : Hid (Below w.heap.size w (w4.alloc (.cells #[.int .u8 0, .int .u16 0] 24))) := B4.out.alloc B4.out.size _
  clear K8 K9 K10 B4 r0 r1 r2 r3
  generalize hw6 : (w4.alloc (.cells #[.int .u8 0, .int .u16 0] 24)) = w6 at *
  clear hw6
  have B6 := B5
  have K13 := K11
  have K14 := K12
  clear B5 K11 K12
  have T6 : Hid (TabOk w6) := tab_ext T0.out B6.out
  refine wp_region_ext mixedP (by kernel_rfl) ?_
  repeat (first
    | go_big_quiet_skip
    | (refine wpQuiet_load_row K13.out underPid rfl infoPid rfl rfl ?_; simp only [List.set_cons_succ, List.set_cons_zero])
    | (refine wpQuiet_load_row K14.out underPid rfl infoPid rfl rfl ?_; simp only [List.set_cons_succ, List.set_cons_zero])
    | go_big_quiet_step ((first | (go_at_call 7; with_reducible exact ext_call (HP.out _)) | (go_at_call 7; with_reducible exact ext_call (HQ.out _)) | (go_at_call 8; with_reducible exact ext_call (HC.out _)) | (go_at_call 9; with_reducible exact ext_call (H9.out _ (tab_ext T6.out (Ext.h _)))))))
  refine wpQuiet_nil ?_
  rintro _ ⟨z, rfl⟩
  go_wp2
  go_ret
  exact ⟨rfl, B6.out.trans (z.h.mono B6.out.size)⟩

theorem pidPacks_main (a s b t : Nat) (ha : a < 256) (hs : s < 65536) (hb : b < 256) (ht : t < 65536) (x : Int) (hx0 : 0 ≤ x) (hx2 : x < 4294967296) (w : World) (hT : TabOk w) :
    Calls Tryd.prog 3 #[.agg #[.int .u8 a, .int .u16 s], .agg #[.int .u8 b, .int .u16 t], .int .u32 x] w (RetB w (.bool true)) := by
  by_cases h : x < 16777216
  · exact pidPacks_yes a s b t ha hs hb ht x hx0 h w hT
  · exact pidPacks_no a s b t ha hs hb ht x (by omega) hx2 w hT
end Go.Proofs.YtceapefjdiphpaaDoor
