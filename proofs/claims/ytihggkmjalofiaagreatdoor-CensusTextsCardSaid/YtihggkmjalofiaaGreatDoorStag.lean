/- census.By: walked. -/
import Derived.Test.YtihggkmjalofiaaGreatDoorStaf
import Derived.Test.YtihggkmjalofiaaGreatDoorCent
namespace Go.Proofs.YtihggkmjalofiaaGreatDoor
open Go.RowKit Go.Sort Go.Lib Go.Shelf

theorem sign_lt (a b : Int) : signV a b < 0 ↔ a < b := by
 unfold signV
 by_cases h1 : a < b
 ·simp [h1]
 ·by_cases h2 : b < a <;> simp [h1, h2]
theorem less_sign (k : RowR → Int) : LessIs (fun x y => signV (k y) (k x)) k := fun _ _ => sign_lt _ _
theorem isnanI_any (x : Int) (w : World) : Calls Tryz.prog 218 #[.int .i64 x] w (Ret w (.bool false)) := by
 go_enter Tryz.func218, Tryz.ntmps218
 go_wp2
 go_ret
 exact ⟨rfl, rfl⟩
set_option maxRecDepth 100000 in
set_option maxHeartbeats 1000000 in
theorem compareI_any (x y : Int) (w : World) : Calls Tryz.prog 136 #[.int .i64 x, .int .i64 y] w (Ret w (.int .i64 (signV x y))) := by
 rcases Int.lt_trichotomy x y with h | h | h
 ·have F := Lib.hid (signV_lt h)
  have d1 : decide (x < y) = true := decide_eq_true h
  go_enter Tryz.func136, Tryz.ntmps136
  go_wp2_with ((with_reducible refine (isnanI_any _ _).mono ?_); rintro e w' ⟨rfl, rfl⟩)
  go_ret
  exact ⟨ret_int F.out.symm, rfl⟩
 ·have F := Lib.hid (signV_eq h)
  have d1 : decide (x < y) = false := decide_eq_false (by omega)
  have d2 : decide (y < x) = false := decide_eq_false (by omega)
  clear h
  go_enter Tryz.func136, Tryz.ntmps136
  go_wp2_with ((with_reducible refine (isnanI_any _ _).mono ?_); rintro e w' ⟨rfl, rfl⟩)
  go_ret
  exact ⟨ret_int F.out.symm, rfl⟩
 ·have F := Lib.hid (signV_gt h)
  have d1 : decide (x < y) = false := decide_eq_false (by omega)
  have d2 : decide (y < x) = true := decide_eq_true h
  go_enter Tryz.func136, Tryz.ntmps136
  go_wp2_with ((with_reducible refine (isnanI_any _ _).mono ?_); rintro e w' ⟨rfl, rfl⟩)
  go_ret
  exact ⟨ret_int F.out.symm, rfl⟩
def linesR (r : RowR) : Int := r.2.2.2.2.2.1
theorem lines_any (r : RowR) (w : World) : Calls Tryz.prog 53 #[.agg (encR r).toArray] w (RetG w (.int .i64 (linesR r))) := by
 have K0 : Hid (Blk (w.alloc (.cells (encR r).toArray 107)) w.heap.size 107 (encR r).toArray) := Blk.new _ _ _
 have G0 : Hid (Grew w (w.alloc (.cells (encR r).toArray 107))) := (Grew.refl w).alloc _
 have y1 : (w.alloc (.cells (encR r).toArray 107)).cell? ⟨w.heap.size, 5, none⟩ = some (.int .i64 (linesR r)) := K0.out.cell 5
 go_enter Tryz.func53, Tryz.ntmps53
 go_upto_region 1 with fail
 generalize (w.alloc (.cells (encR r).toArray 107)) = w1 at *
 go_wp2
 go_ret
 exact ⟨rfl, G0.out⟩
theorem loadFunR (b o : Nat) (w : World) (f : FuncId) (h : w.cell? ⟨b, o, none⟩ = some (.func (.func f) #[] #[])) : (Instr.loadAt 108 (.pointer (some ⟨b, o, none⟩))).run Tryz.prog w = .ok (.func (.func f) #[] #[]) w := by simp [go_sem, h]
set_option maxRecDepth 100000 in
set_option maxHeartbeats 4000000 in
theorem by1_any (k : RowR → Int) (f : FuncId) (hf : ∀ args w, (callFunc f args).run Tryz.prog w = .ok (.enter f args) w) (hk : ∀ r w, Calls Tryz.prog f #[.agg (encR r).toArray] w (RetG w (.int .i64 (k r)))) (gw : Nat) (x y : RowR) (w : World) (hc : w.cell? ⟨gw, 0, none⟩ = some (.func (.func f) #[] #[])) (hg : gw < w.heap.size) :
  Calls Tryz.prog 135 #[.agg (encR x).toArray, .agg (encR y).toArray, .pointer (some ⟨gw, 0, none⟩)] w (RetG w (.int .i64 (signV (k y) (k x)))) := by
 have HF := Lib.hid hf
 have HK := Lib.hid hk
 have mixed : Tryz.prog.follows .mixedOrders = true := by kernel_rfl
 have hcC : ∀ args w, (callFunc 136 args).run Tryz.prog w = .ok (.enter 136 args) w := enters_of Tryz.func136 (by kernel_rfl) rfl
 have K3 : Hid (Blk ((w.alloc (.cells (encR x).toArray 107)).alloc (.cells (encR y).toArray 107)) w.heap.size 107 (encR x).toArray) := (Blk.new _ _ _).alloc _
 have K4 : Hid (Blk ((w.alloc (.cells (encR x).toArray 107)).alloc (.cells (encR y).toArray 107)) (w.heap.size + 1) 107 (encR y).toArray) := Blk.newAt (by simp) _ _
 have G0 : Hid (Grew w ((w.alloc (.cells (encR x).toArray 107)).alloc (.cells (encR y).toArray 107))) := ((Grew.refl w).alloc _).alloc _
 have C0 := Lib.hid ((G0.out.below.cell (p := ⟨gw, 0, none⟩) hg).trans hc)
 have hg2 := Lib.hid (Nat.lt_of_lt_of_le hg G0.out.below.size)
 clear hf hk hc hg
 go_enter Tryz.func135, Tryz.ntmps135
 go_upto_region 1 with fail
 generalize ((w.alloc (.cells (encR x).toArray 107)).alloc (.cells (encR y).toArray 107)) = w1 at *
 generalize w.heap.size + 1 = g4 at *
 generalize w.heap.size = g3 at *
 refine wp_region_Z (S := fun w' => Grew w1 w') (Z := []) mixed ?_
 have BD : Hid (Grew w1 w1.drew) := (Grew.refl _).drew
 generalize w1.drew = wd at *
 simp only [List.size_toArray, List.length_cons, List.length_nil]
 refine zV (i := 0) rfl (by kernel_rfl) (by kernel_rfl) (by kernel_rfl) (by kernel_rfl) (by kernel_rfl) (fun _ _ _ h => h) rfl (fun w' h => exLoad rfl (loadFunR gw 0 w' f ((h.below.cell hg2.out).trans C0.out))) BD.out ?_
 simp only [Act.put, List.setIfInBounds_toArray, List.set_cons_zero, List.set_cons_succ]
 refine zV (i := 1) rfl (by kernel_rfl) (by kernel_rfl) (by kernel_rfl) (by kernel_rfl) (by kernel_rfl) (fun _ _ _ h => h) rfl (fun w' h => exMid rfl (blk_pat (K4.out.ext h.below)) underRow rfl infoRow) BD.out ?_
 simp only [Act.put, List.setIfInBounds_toArray, List.set_cons_zero, List.set_cons_succ]
 refine zV (i := 3) rfl (by kernel_rfl) (by kernel_rfl) (by kernel_rfl) (by kernel_rfl) (by kernel_rfl) (fun _ _ _ h => h) rfl (fun w' h => exLoad rfl (loadFunR gw 0 w' f ((h.below.cell hg2.out).trans C0.out))) BD.out ?_
 simp only [Act.put, List.setIfInBounds_toArray, List.set_cons_zero, List.set_cons_succ]
 refine zV (i := 4) rfl (by kernel_rfl) (by kernel_rfl) (by kernel_rfl) (by kernel_rfl) (by kernel_rfl) (fun _ _ _ h => h) rfl (fun w' h => exMid rfl (blk_pat (K3.out.ext h.below)) underRow rfl infoRow) BD.out ?_
 simp only [Act.put, List.setIfInBounds_toArray, List.set_cons_zero, List.set_cons_succ]
 refine wpAnyZ_all (rs := [2]) (by kernel_rfl) (by simp) ?_
 intro i hi
 simp only [List.mem_cons, List.not_mem_nil, or_false] at hi
 subst hi
 refine wpOp_of rfl rfl (wp_calledV54 HF.out rfl rfl (HK.out y wd) ?_)
 rintro _ w2 ⟨rfl, q2⟩
 have B2 := Lib.hid (BD.out.trans q2)
 clear q2
 refine ⟨_, rfl, fun _ => B2.out, ?_⟩
 simp only [Act.put, List.setIfInBounds_toArray, List.set_cons_zero, List.set_cons_succ]
 refine wpAnyZ_all (rs := [5]) (by kernel_rfl) (by simp) ?_
 intro i hi
 simp only [List.mem_cons, List.not_mem_nil, or_false] at hi
 subst hi
 refine wpOp_of rfl rfl (wp_calledV54 HF.out rfl rfl (HK.out x w2) ?_)
 rintro _ w3 ⟨rfl, q3⟩
 have B3 := Lib.hid (B2.out.trans q3)
 clear q3
 refine ⟨_, rfl, fun _ => B3.out, ?_⟩
 simp only [Act.put, List.setIfInBounds_toArray, List.set_cons_zero, List.set_cons_succ]
 refine wpAnyZ_all (rs := [6]) (by kernel_rfl) (by simp) ?_
 intro i hi
 simp only [List.mem_cons, List.not_mem_nil, or_false] at hi
 subst hi
 refine wpOp_of rfl rfl (wp_called (args := #[.int .i64 (k y), .int .i64 (k x)]) hcC (by simp only [List.map_toArray, List.map_cons, List.map_nil]; rfl) (compareI_any (k y) (k x) w3) ?_)
 rintro _ _ ⟨rfl, rfl⟩
 refine ⟨_, rfl, fun _ => B3.out, ?_⟩
 simp only [Act.put, List.setIfInBounds_toArray, List.set_cons_zero, List.set_cons_succ]
 refine zV (i := 7) rfl (by kernel_rfl) (by kernel_rfl) (by kernel_rfl) (by kernel_rfl) (by kernel_rfl) (fun _ _ _ h => h) rfl (fun _ _ => exAssign (v := .int .i64 (signV (k y) (k x))) rfl) B3.out ?_
 simp only [Act.put, List.setIfInBounds_toArray, List.set_cons_zero, List.set_cons_succ]
 refine wpAnyZ_done (by kernel_rfl) ?_ _
 go_wp2_with fail
 go_ret
 exact ⟨rfl, G0.out.trans B3.out⟩
theorem cmpLaysR (k : RowR → Int) (f : FuncId) (hf : ∀ args w, (callFunc f args).run Tryz.prog w = .ok (.enter f args) w) (hk : ∀ r w, Calls Tryz.prog f #[.agg (encR r).toArray] w (RetG w (.int .i64 (k r)))) (gw blk off size : Nat) (w : World) (hc : w.cell? ⟨gw, 0, none⟩ = some (.func (.func f) #[] #[])) (hg : gw < w.heap.size) (hne : gw ≠ blk) :
  CmpLays Tryz.prog 135 #[.pointer (some ⟨gw, 0, none⟩)] encR 9 (fun x y => signV (k y) (k x)) blk off size w := fun n os dk hdk x y =>
 (by1_any k f hf hk gw x y (sortWorldK encR 9 w blk off n dk os) (by rw [cell?_sortWorldK_other _ _ _ _ _ _ _ _ _ hne hg]; exact hc) (by unfold sortWorldK grow putRowK putRow mapBlock Sort.ahead; simp; omega)).mono fun _ _ ⟨he, hg⟩ => ⟨he, hg.grow⟩
end Go.Proofs.YtihggkmjalofiaaGreatDoor
