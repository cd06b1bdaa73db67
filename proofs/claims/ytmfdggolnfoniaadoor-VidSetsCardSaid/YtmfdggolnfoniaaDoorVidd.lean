/- Names of vertices: how they stand by number. -/
import Derived.Test.YtmfdggolnfoniaaDoorVidc
namespace Go.Proofs.YtmfdggolnfoniaaDoor
open Go.RowKit

def lkeyP (p : PidV) : Int := packV ((p.2.val : Nat) : Int) ((p.1.val : Nat) : Int)
theorem laterP (x y : PidV) (w : World) : Calls Tryd.prog 51 #[.agg (encP x).toArray, .agg (encP y).toArray] w (RetB w (.int .i64 (signV (lkeyP x) (lkeyP y)))) :=
  later_any _ _ _ _ ⟨by omega, by have := x.1.isLt; omega⟩ ⟨by omega, by have := x.2.isLt; omega⟩ ⟨by omega, by have := y.1.isLt; omega⟩ ⟨by omega, by have := y.2.isLt; omega⟩ w
theorem rlaterP (x y : PidV) (w : World) : Calls Tryd.prog 53 #[.agg (encP x).toArray, .agg (encP y).toArray] w (RetB w (.int .i64 (signV (lkeyP x) (lkeyP y)))) :=
  rlater_any _ _ _ _ ⟨by omega, by have := x.1.isLt; omega⟩ ⟨by omega, by have := x.2.isLt; omega⟩ ⟨by omega, by have := y.1.isLt; omega⟩ ⟨by omega, by have := y.2.isLt; omega⟩ w
theorem lkeyP_inj (x y : PidV) (h : lkeyP x = lkeyP y) : x = y := by
  unfold lkeyP packV at h
  have h1 := x.1.isLt
  have h2 := y.1.isLt
  exact Prod.ext (Fin.ext (by omega)) (Fin.ext (by omega))
def latVV (x y : VidV) : Int := orV (signV (lkeyP x.1) (lkeyP y.1)) (signV ((x.2.val : Nat) : Int) ((y.2.val : Nat) : Int))
theorem latVV_ne {x y : VidV} (h : x.1 ≠ y.1) : latVV x y = signV (lkeyP x.1) (lkeyP y.1) := by
  have h0 : lkeyP x.1 ≠ lkeyP y.1 := fun e => h (lkeyP_inj _ _ e)
  unfold latVV orV
  rw [if_neg]
  unfold signV
  split <;> (try split) <;> omega
theorem latVV_same {x y : VidV} (h : x.1 = y.1) : latVV x y = signV (keyV x) (keyV y) := by
  unfold latVV orV
  rw [h, signV_eq rfl, if_pos rfl, keyV_same h]
set_option maxRecDepth 100000 in
set_option maxHeartbeats 1000000 in
theorem rlaterV (x y : VidV) (w : World) : Calls Tryd.prog 29 #[.agg (encV x).toArray, .agg (encV y).toArray] w (RetB w (.int .i64 (latVV x y))) := by
  have B0 : Hid (Below w.heap.size w ((w.alloc (.cells (encV x).toArray 36)).alloc (.cells (encV y).toArray 36))) := two_box _ _ _
  have K1 : Hid (Blk ((w.alloc (.cells (encV x).toArray 36)).alloc (.cells (encV y).toArray 36)) w.heap.size 36 (encV x).toArray) := (Blk.new _ _ _).alloc _
  have K2 : Hid (Blk ((w.alloc (.cells (encV x).toArray 36)).alloc (.cells (encV y).toArray 36)) (w.heap.size + 1) 36 (encV y).toArray) := Blk.newAt (by simp) _ _
  have R1 := Lib.hid (blk_sub K1.out (encV_pid x))
  have R2 := Lib.hid (blk_sub K2.out (encV_pid y))
  have HC := Lib.hid (fun w0 => rlaterP x.1 y.1 w0)
  have HD := Lib.hid (fun w0 => rcmpV x y w0)
  have NE := fun u => neqP x.1 y.1 u
  by_cases e : x.1 = y.1
  · rw [latVV_same e]
    have NE' : ∀ u : World, (binOp .neq 24 (.agg (encP x.1).toArray) (.agg (encP y.1).toArray)).run Tryd.prog u = .ok (.bool false) u := fun u => by rw [NE, decide_eq_true e]; rfl
    clear NE e HC
    generalize signV (keyV x) (keyV y) = sg at *
    go_enter Tryd.func29, Tryd.ntmps29
    go_wp2_with (first | (refine wpList_load_mid rfl 24 _ rfl _ _ (by rfl) _ _ R1.out underPid rfl infoPid ?_) | (refine wpList_load_mid rfl 24 _ rfl _ _ (by rfl) _ _ R2.out underPid rfl infoPid ?_) | (refine wpList_load_row rfl 36 _ (by rfl) w.heap.size (by rfl) _ _ _ _ K1.out underVid rfl infoVid ?_) | (refine wpList_load_row rfl 36 _ (by rfl) (w.heap.size + 1) (by rfl) _ _ _ _ K2.out underVid rfl infoVid ?_))
    refine (HD.out _).mono ?_
    rintro e w1 ⟨rfl, b1⟩
    have B1 := Lib.hid (B0.out.trans (b1.mono B0.out.size))
    clear b1
    go_wp2
    go_ret
    exact ⟨rfl, B1.out⟩
  · rw [latVV_ne e]
    have NE' : ∀ u : World, (binOp .neq 24 (.agg (encP x.1).toArray) (.agg (encP y.1).toArray)).run Tryd.prog u = .ok (.bool true) u := fun u => by rw [NE, decide_eq_false e]; rfl
    clear NE e HD
    generalize signV (lkeyP x.1) (lkeyP y.1) = sg at *
    go_enter Tryd.func29, Tryd.ntmps29
    go_wp2_with (first | (refine wpList_load_mid rfl 24 _ rfl _ _ (by rfl) _ _ R1.out underPid rfl infoPid ?_) | (refine wpList_load_mid rfl 24 _ rfl _ _ (by rfl) _ _ R2.out underPid rfl infoPid ?_))
    refine (HC.out _).mono ?_
    rintro e w1 ⟨rfl, b1⟩
    have B1 := Lib.hid (B0.out.trans (b1.mono B0.out.size))
    clear b1
    go_wp2
    go_ret
    exact ⟨rfl, B1.out⟩
set_option maxRecDepth 100000 in
set_option maxHeartbeats 1000000 in
theorem laterV (x y : VidV) (w : World) : Calls Tryd.prog 28 #[.agg (encV x).toArray, .agg (encV y).toArray] w (RetB w (.int .i64 (latVV x y))) := by
  have B0 : Hid (Below w.heap.size w ((w.alloc (.cells (encV x).toArray 36)).alloc (.cells (encV y).toArray 36))) := two_box _ _ _
  have K1 : Hid (Blk ((w.alloc (.cells (encV x).toArray 36)).alloc (.cells (encV y).toArray 36)) w.heap.size 36 (encV x).toArray) := (Blk.new _ _ _).alloc _
  have K2 : Hid (Blk ((w.alloc (.cells (encV x).toArray 36)).alloc (.cells (encV y).toArray 36)) (w.heap.size + 1) 36 (encV y).toArray) := Blk.newAt (by simp) _ _
  have HC := Lib.hid (fun w0 => laterP x.1 y.1 w0)
  have HD := Lib.hid (fun w0 => compare8_any ((x.2.val : Nat) : Int) ((y.2.val : Nat) : Int) w0)
  unfold latVV
  go_enter Tryd.func28, Tryd.ntmps28
  go_wp2_with fail
  generalize signV (lkeyP x.1) (lkeyP y.1) = s1 at *
  generalize signV ((x.2.val : Nat) : Int) ((y.2.val : Nat) : Int) = s2 at *
  generalize ((w.alloc (.cells (encV x).toArray 36)).alloc (.cells (encV y).toArray 36)) = w0 at *
  have q2 : ∀ z : Ext w0, z.w.cell? ⟨w.heap.size, 2, none⟩ = some (.int .u8 ((x.2.val : Nat) : Int)) := fun z => (K1.out.ext z.h).cell 2
  have q3 : ∀ z : Ext w0, z.w.cell? ⟨w.heap.size + 1, 2, none⟩ = some (.int .u8 ((y.2.val : Nat) : Int)) := fun z => (K2.out.ext z.h).cell 2
  refine wp_region_made 10 mixedT (by kernel_rfl) ?_
  simp only [List.take_succ_cons, List.take_zero, List.drop_succ_cons, List.drop_zero]
  repeat (first
    | (refine wpQuiet_load_mid (ext_sub K1.out (encV_pid x)) underPid rfl infoPid rfl rfl ?_; simp only [List.set_cons_succ, List.set_cons_zero])
    | (refine wpQuiet_load_mid (ext_sub K2.out (encV_pid y)) underPid rfl infoPid rfl rfl ?_; simp only [List.set_cons_succ, List.set_cons_zero])
    | go_big_quiet_step ((first | (go_at_call 51; with_reducible exact ext_call (HC.out _)) | (go_at_call 52; with_reducible exact ext_ret (HD.out _)))))
  refine wpQuiet_nil ?_
  rintro _ ⟨z, rfl⟩
  have B1 := Lib.hid (B0.out.trans (z.h.mono B0.out.size))
  clear q2 q3
  generalize z.w = w1 at *
  have c0 : (w1.alloc (.cells #[.int .i64 s1, .int .i64 s2] 3)).cell? ⟨w1.heap.size, 0, none⟩ = some (.int .i64 s1) := (Blk.new w1 _ _).cell 0
  have c1 : (w1.alloc (.cells #[.int .i64 s1, .int .i64 s2] 3)).cell? ⟨w1.heap.size, 1, none⟩ = some (.int .i64 s2) := (Blk.new w1 _ _).cell 1
  have HO := Lib.hid (or_any s1 s2 _ _ 2 c0 c1)
  clear c0 c1
  go_wp2_with fail
  refine HO.out.mono ?_
  rintro e w2 ⟨rfl, rfl⟩
  have B2 := Lib.hid (B1.out.trans ((below_new w1 (.cells #[.int .i64 s1, .int .i64 s2] 3)).mono B1.out.size))
  go_wp2
  go_ret
  exact ⟨rfl, B2.out⟩
end Go.Proofs.YtmfdggolnfoniaaDoor
