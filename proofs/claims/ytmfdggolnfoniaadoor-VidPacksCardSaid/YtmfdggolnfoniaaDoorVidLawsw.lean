/- Names of vertices: two statements walked. -/
import Derived.Test.YtmfdggolnfoniaaDoorVidh
namespace Go.Proofs.YtmfdggolnfoniaaDoor
open Go.RowKit

set_option maxRecDepth 100000 in
set_option maxHeartbeats 4000000 in
theorem vidTells_main (x y : VidV) (w : World) (hT : PW w) :
    Calls Tryd.prog 7 #[.agg (encV x).toArray, .agg (encV y).toArray] w (RetB w (.bool true)) := by
  have H1 := Lib.hid (fun w0 => goodV x w0)
  have H2 := Lib.hid (fun w0 => rgoodV x w0)
  have H3 := Lib.hid (fun w0 => vcmpV x y w0)
  have H4 := Lib.hid (fun w0 => rcmpV x y w0)
  have H5 := Lib.hid (fun w0 => laterV x y w0)
  have H6 := Lib.hid (fun w0 => rlaterV x y w0)
  have H7 := Lib.hid (fun w0 h => textV x w0 h)
  have H8 := Lib.hid (fun w0 => rtextV x w0)
  have H9 := Lib.hid (fun w0 h => works11 w0 h)
  have B0 : Hid (Below w.heap.size w ((w.alloc (.cells (encV x).toArray 36)).alloc (.cells (encV y).toArray 36))) := two_box _ _ _
  have T0 := Lib.hid (hT.ext B0.out)
  have K1 : Hid (Blk ((w.alloc (.cells (encV x).toArray 36)).alloc (.cells (encV y).toArray 36)) w.heap.size 36 (encV x).toArray) := (Blk.new _ _ _).alloc _
  have K2 : Hid (Blk ((w.alloc (.cells (encV x).toArray 36)).alloc (.cells (encV y).toArray 36)) (w.heap.size + 1) 36 (encV y).toArray) := Blk.newAt (by simp) _ _
  clear hT
  generalize vokV x = g at *
  generalize signV (keyV x) (keyV y) = s at *
  generalize latVV x y = l at *
  generalize (⟨(vtextL x).toArray⟩ : ByteArray) = str at *
  have e1 : (str.toList == str.toList) = true := by simp
  have e2 : (g == g) = true := by simp
  have e3 : (s == s) = true := by simp
  have e4 : (l == l) = true := by simp
  go_enter Tryd.func7, Tryd.ntmps7
  go_wp2_with fail
  generalize ((w.alloc (.cells (encV x).toArray 36)).alloc (.cells (encV y).toArray 36)) = w0 at *
  refine wp_region_ext mixedT (by kernel_rfl) ?_
  repeat (first
    | (refine wpQuiet_load_row K1.out underVid rfl infoVid rfl rfl ?_; simp only [List.set_cons_succ, List.set_cons_zero])
    | (refine wpQuiet_load_row K2.out underVid rfl infoVid rfl rfl ?_; simp only [List.set_cons_succ, List.set_cons_zero])
    | go_big_quiet_step ((first | (go_at_call 25; with_reducible exact ext_call (H1.out _)) | (go_at_call 26; with_reducible exact ext_call (H2.out _)) | (go_at_call 24; with_reducible exact ext_call (H3.out _)) | (go_at_call 27; with_reducible exact ext_call (H4.out _)) | (go_at_call 28; with_reducible exact ext_call (H5.out _)) | (go_at_call 29; with_reducible exact ext_call (H6.out _)) | (go_at_call 21; with_reducible exact ext_call (H7.out _ (tab_ext T0.out.tab (Ext.h _)))) | (go_at_call 30; with_reducible exact ext_call (H8.out _)) | (go_at_call 18; with_reducible exact ext_call (H9.out _ (T0.out.ext (Ext.h _)))))))
  refine wpQuiet_nil ?_
  rintro _ ⟨z, rfl⟩
  go_wp2
  go_ret
  exact ⟨rfl, B0.out.trans (z.h.mono B0.out.size)⟩

theorem pack_lt' (x y : Int) : (decide (x < y) == decide (signV x y < 0)) = true := by
  unfold signV; rw [beq_iff_eq, Bool.eq_iff_iff]; simp only [decide_eq_true_eq]; split <;> (try split) <;> omega
theorem sign_zero (x y : VidV) : ((signV (keyV x) (keyV y) == 0) == decide (x = y)) = true := by
  rw [beq_iff_eq, Bool.eq_iff_iff]
  simp only [beq_iff_eq, decide_eq_true_eq]
  constructor
  · intro h
    refine keyV_inj _ _ ?_
    unfold signV at h
    split at h
    · cases h
    · split at h
      · cases h
      · omega
  · rintro rfl; exact signV_eq rfl
set_option maxRecDepth 100000 in
set_option maxHeartbeats 4000000 in
theorem vidPacks_main (x y u : VidV) (w : World) (hT : PW w) :
    Calls Tryd.prog 6 #[.agg (encV x).toArray, .agg (encV y).toArray, .int .u32 (keyV u)] w (RetB w (.bool true)) := by
  have H1 := Lib.hid (fun w0 => vpackB x w0)
  have H2 := Lib.hid (fun w0 => vpackB y w0)
  have H3 := Lib.hid (fun w0 => vpackB u w0)
  have H4 := Lib.hid (fun w0 => vunpackB x w0)
  have H5 := Lib.hid (fun w0 => vunpackB u w0)
  have H6 := Lib.hid (fun w0 => vcmpV x y w0)
  have H9 := Lib.hid (fun w0 h => works11 w0 h)
  have LT := pack_lt' (keyV x) (keyV y)
  have SZ := sign_zero x y
  have EQ := fun w0 => eqlV x y w0
  have EX : ∀ w0 : World, (binOp .eql 36 (.agg (encV x).toArray) (.agg (encV x).toArray)).run Tryd.prog w0 = .ok (.bool true) w0 := fun w0 => by rw [eqlV]; simp
  have uu : (keyV u == keyV u) = true := by simp
  have B0 : Hid (Below w.heap.size w ((w.alloc (.cells (encV x).toArray 36)).alloc (.cells (encV y).toArray 36))) := two_box _ _ _
  have T0 := Lib.hid (hT.ext B0.out)
  have K1 : Hid (Blk ((w.alloc (.cells (encV x).toArray 36)).alloc (.cells (encV y).toArray 36)) w.heap.size 36 (encV x).toArray) := (Blk.new _ _ _).alloc _
  have K2 : Hid (Blk ((w.alloc (.cells (encV x).toArray 36)).alloc (.cells (encV y).toArray 36)) (w.heap.size + 1) 36 (encV y).toArray) := Blk.newAt (by simp) _ _
  clear hT
  generalize decide (x = y) = q at *
  generalize signV (keyV x) (keyV y) = s at *
  generalize keyV x = kx at *
  generalize keyV y = ky at *
  generalize keyV u = ku at *
  go_enter Tryd.func6, Tryd.ntmps6
  go_wp2_with fail
  generalize ((w.alloc (.cells (encV x).toArray 36)).alloc (.cells (encV y).toArray 36)) = w0 at *
  refine wp_region_ext mixedT (by kernel_rfl) ?_
  repeat (first
    | (refine wpQuiet_load_row K1.out underVid rfl infoVid rfl rfl ?_; simp only [List.set_cons_succ, List.set_cons_zero])
    | (refine wpQuiet_load_row K2.out underVid rfl infoVid rfl rfl ?_; simp only [List.set_cons_succ, List.set_cons_zero])
    | go_big_quiet_step ((first | (go_at_call 23; with_reducible exact ext_call (H1.out _)) | (go_at_call 23; with_reducible exact ext_call (H2.out _)) | (go_at_call 23; with_reducible exact ext_call (H3.out _)) | (go_at_call 22; with_reducible exact ext_call (H4.out _)) | (go_at_call 22; with_reducible exact ext_call (H5.out _)) | (go_at_call 24; with_reducible exact ext_call (H6.out _)) | (go_at_call 18; with_reducible exact ext_call (H9.out _ (T0.out.ext (Ext.h _)))))))
  refine wpQuiet_nil ?_
  rintro _ ⟨z, rfl⟩
  go_wp2
  go_ret
  exact ⟨rfl, B0.out.trans (z.h.mono B0.out.size)⟩
end Go.Proofs.YtmfdggolnfoniaaDoor
