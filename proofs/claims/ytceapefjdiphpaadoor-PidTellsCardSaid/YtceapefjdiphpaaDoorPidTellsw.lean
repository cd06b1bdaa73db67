/- Names of patches: the statements walked. -/
import Derived.Test.YtceapefjdiphpaaDoorPidx
namespace Go.Proofs.YtceapefjdiphpaaDoor
open Go.RowKit

set_option maxRecDepth 100000 in
set_option maxHeartbeats 4000000 in
theorem pidTells_main (a s b t : Nat) (ha : a < 256) (hs : s < 65536) (hb : b < 256) (ht : t < 65536) (w : World) (hT : TabOk w) :
    Calls Tryd.prog 4 #[.agg #[.int .u8 a, .int .u16 s], .agg #[.int .u8 b, .int .u16 t]] w (RetB w (.bool true)) := by
  have H1 := Lib.hid (fun w0 => pgood_any a s w0 (by omega) (by omega))
  have H2 := Lib.hid (fun w0 => rpgood_any a s w0 (by omega) (by omega))
  have H3 := Lib.hid (fun w0 => cmp_any a s b t (by omega) (by omega) (by omega) (by omega) w0)
  have H4 := Lib.hid (fun w0 => rcmp_any a s b t (by omega) (by omega) (by omega) (by omega) w0)
  have H5 := Lib.hid (fun w0 => later_any a s b t (by omega) (by omega) (by omega) (by omega) w0)
  have H6 := Lib.hid (fun w0 => rlater_any a s b t (by omega) (by omega) (by omega) (by omega) w0)
  have H7 := Lib.hid (fun w0 h => text_any a s ha hs w0 h)
  have H8 := Lib.hid (fun w0 => rtext_any a s ha hs w0)
  have H9 := Lib.hid (fun w0 h => works10 w0 h)
  have B0 : Hid (Below w.heap.size w ((w.alloc (.cells #[.int .u8 a, .int .u16 s] 24)).alloc (.cells #[.int .u8 b, .int .u16 t] 24))) := two_box _ _ _
  have T0 := Lib.hid (tab_ext hT B0.out)
  have K1 : Hid (Blk ((w.alloc (.cells #[.int .u8 a, .int .u16 s] 24)).alloc (.cells #[.int .u8 b, .int .u16 t] 24)) w.heap.size 24 #[.int .u8 a, .int .u16 s]) := (Blk.new _ _ _).alloc _
  have K2 : Hid (Blk ((w.alloc (.cells #[.int .u8 a, .int .u16 s] 24)).alloc (.cells #[.int .u8 b, .int .u16 t] 24)) (w.heap.size + 1) 24 #[.int .u8 b, .int .u16 t]) := Blk.newAt (by simp) _ _
  clear ha hs hb ht hT
  generalize pidOk a s = g at *
  generalize cmpV a s b t = x at *
  generalize latV a s b t = y at *
  generalize (⟨(pidText a s).toArray⟩ : ByteArray) = str at *
  have e1 : (str.toList == str.toList) = true := by simp
  have e2 : (g == g) = true := by simp
  have e3 : (x == x) = true := by simp
  have e4 : (y == y) = true := by simp
  go_enter Tryd.func4, Tryd.ntmps4
  go_wp2_with fail
  generalize ((w.alloc (.cells #[.int .u8 a, .int .u16 s] 24)).alloc (.cells #[.int .u8 b, .int .u16 t] 24)) = w0 at *
  refine wp_region_ext mixedP (by kernel_rfl) ?_
  repeat (first
    | (refine wpQuiet_load_row K1.out underPid rfl infoPid rfl rfl ?_; simp only [List.set_cons_succ, List.set_cons_zero])
    | (refine wpQuiet_load_row K2.out underPid rfl infoPid rfl rfl ?_; simp only [List.set_cons_succ, List.set_cons_zero])
    | go_big_quiet_step ((first | (go_at_call 10; with_reducible exact ext_call (H1.out _)) | (go_at_call 11; with_reducible exact ext_call (H2.out _)) | (go_at_call 8; with_reducible exact ext_call (H3.out _)) | (go_at_call 12; with_reducible exact ext_call (H4.out _)) | (go_at_call 13; with_reducible exact ext_call (H5.out _)) | (go_at_call 14; with_reducible exact ext_call (H6.out _)) | (go_at_call 15; with_reducible exact ext_call (H7.out _ (tab_ext T0.out (Ext.h _)))) | (go_at_call 16; with_reducible exact ext_call (H8.out _)) | (go_at_call 9; with_reducible exact ext_call (H9.out _ (tab_ext T0.out (Ext.h _)))))))
  refine wpQuiet_nil ?_
  rintro _ ⟨z, rfl⟩
  go_wp2
  go_ret
  exact ⟨rfl, B0.out.trans (z.h.mono B0.out.size)⟩
end Go.Proofs.YtceapefjdiphpaaDoor
