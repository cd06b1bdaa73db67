/- The sum of bytes: a block's sixty-four numbers, and going on with a block: walked. -/
import Derived.Test.YtihggkmjalofiaaGreatDoorShad
import Derived.Test.YtihggkmjalofiaaGreatDoorGen
namespace Go.Proofs.YtihggkmjalofiaaGreatDoor
open Go.RowKit

def wS (l : List UInt8) (i : Nat) : List W32 := spreadS l i ++ List.replicate (64 - i) 0#32
theorem wS_at (l : List UInt8) {i j : Nat} (h : j < i) : (wS l i)[j]? = some (atS (spreadS l i) j) := by
  unfold wS atS
  rw [List.getElem?_append_left (by rw [spreadS_len]; exact h), List.getD_eq_getElem?_getD, List.getElem?_eq_getElem (by rw [spreadS_len]; exact h)]
  rfl
theorem wS_set (l : List UInt8) {i : Nat} (h : i < 64) : (wS l i).set i (nextS l (spreadS l i) i) = wS l (i + 1) := by
  unfold wS
  rw [List.set_append_right _ _ (by rw [spreadS_len]; exact Nat.le_refl _), spreadS_len, Nat.sub_self, show 64 - i = (64 - (i + 1)) + 1 by omega, List.replicate_succ, List.set_cons_zero, spreadS, List.append_assoc]
  rfl
def cellsS (l : List W32) : Array Value := (l.map u32S).toArray
theorem cellsS_set (l : List W32) (i : Nat) (v : W32) : (cellsS l).setIfInBounds i (u32S v) = cellsS (l.set i v) := by
  unfold cellsS
  rw [List.map_set]
  simp
theorem blkS_set {w : World} {g : Nat} {t : TypeId} {l : List W32} (h : Blk w g t (cellsS l)) (i : Nat) (v : W32) : Blk (w.setCell ⟨g, i, none⟩ (u32S v)) g t (cellsS (l.set i v)) := by
  have h1 := h.set_ i (u32S v)
  rw [← cellsS_set]
  simpa using h1
theorem blkS_cell {w : World} {g : Nat} {t : TypeId} {l : List W32} (h : Blk w g t (cellsS l)) {i : Nat} {v : W32} (hi : l[i]? = some v) : w.cell? ⟨g, i, none⟩ = some (u32S v) := by
  rw [h.cell]
  unfold cellsS
  rw [List.getElem?_toArray, List.getElem?_map, hi]
  rfl
theorem infoS64 : (Tryz.prog.info? 315).map (·.size) = some 64 := by kernel_rfl
theorem infoS8 : (Tryz.prog.info? 236).map (·.size) = some 8 := by kernel_rfl
theorem allocS64 (w : World) : (Instr.alloc 315 true (.tuple #[])).run Tryz.prog w = .ok (.pointer (some ⟨w.heap.size, 0, none⟩)) (w.alloc (.cells (cellsS (List.replicate 64 0#32)) 315)) := by kernel_rfl
theorem allocS8 (w : World) : (Instr.alloc 236 true (.tuple #[])).run Tryz.prog w = .ok (.pointer (some ⟨w.heap.size, 0, none⟩)) (w.alloc (.cells (cellsS (List.replicate 8 0#32)) 236)) := by kernel_rfl
theorem cellsS_one (l : List W32) : (cellsS l).all (·.oneCell') = true := by
  unfold cellsS
  rw [Array.all_eq_true']
  intro v hv
  rw [List.mem_toArray, List.mem_map] at hv
  obtain ⟨x, _, rfl⟩ := hv
  rfl
theorem results_cellS {P : Program} {fn : Func} {p : Tmp} {ty : TypeId} (h : fn.results = #[.cell p ty]) (tmps : Array Value) (w : World) (g : Nat) (t : TypeId) (cs : Array Value) (D : TypeDesc)
    (hp : tmps.getD p undef = .pointer (some ⟨g, 0, none⟩)) (hg : Blk w g t cs) (hu : P.underlying ty = some D) (hd : (match D with | .struct _ | .array _ _ => true | _ => false) = true) (hi : (P.info? ty).map (·.size) = some cs.size) :
    (results fn tmps).run P w = .ok (.agg cs) w := results_cell_row h tmps w g t cs (0, 0) D hp hg hu hd hi

theorem wS_zero (l : List UInt8) {i : Nat} (h : i < 64) : (wS l i)[i]? = some 0#32 := by
  unfold wS
  rw [List.getElem?_append_right (by rw [spreadS_len]; exact Nat.le_refl _), spreadS_len, Nat.sub_self, show 64 - i = (64 - (i + 1)) + 1 by omega, List.replicate_succ]
  rfl
set_option maxRecDepth 100000 in
set_option maxHeartbeats 8000000 in
/-- a block's sixty-four numbers -/
theorem spread_any (l : List UInt8) (w : World) (A : Option Addr) (c : Nat) (hS : Sl w w.heap.size 1 A 64 (encB l)) (hl : l.length = 64) :
    Calls Tryz.prog 226 #[.slice A 64 c] w (RetB w (.agg (cellsS (spreadS l 64)))) := by
  obtain ⟨b, o, rfl, hb, hc⟩ := hS.2 (by omega)
  have FB0 : Hid (∀ j, j < 64 → w.cell? ⟨b, o + j, none⟩ = some (.int .u8 (((l.getD j 0).toNat : Nat) : Int))) := fun j hj => by
    have h1 := hc j (by omega)
    rw [h1, encB_at, List.getD_eq_getElem?_getD, List.getElem?_eq_getElem (by omega)]
    rfl
  have hb0 := Lib.hid hb
  have hcR : ∀ args w, (callFunc 227 args).run Tryz.prog w = .ok (.enter 227 args) w := enters_of Tryz.func227 (by kernel_rfl) rfl
  clear hS hl hb hc
  go_enter Tryz.func226, Tryz.ntmps226
  have K2a : Hid (Blk (w.alloc (.cells (cellsS (List.replicate 64 0#32)) 315)) w.heap.size 315 (cellsS (List.replicate 64 0#32))) := Blk.new _ _ _
  have B0a : Hid (Below w.heap.size w (w.alloc (.cells (cellsS (List.replicate 64 0#32)) 315))) := below_new _ _
  go_upto_region 1 with (refine wpList_alloced (allocS64 _) ?_)
  generalize (w.alloc (.cells (cellsS (List.replicate 64 0#32)) 315)) = wa at *
  obtain ⟨g2, hg2⟩ : ∃ g, g = w.heap.size := ⟨_, rfl⟩
  have hg2w : Hid (w.heap.size ≤ g2) := by rw [Hid]; omega
  rw [← hg2] at K2a ⊢
  have K2 := Lib.hid (K2a.out.alloc (.cells (cellsS (List.replicate 64 0#32)) 315))
  have K3 : Hid (Blk (wa.alloc (.cells (cellsS (List.replicate 64 0#32)) 315)) wa.heap.size 315 (cellsS (wS l 0))) := Blk.new _ _ _
  have B0 := Lib.hid (B0a.out.alloc B0a.out.size (.cells (cellsS (List.replicate 64 0#32)) 315))
  have hne : Hid (g2 ≠ wa.heap.size) := by have := K2a.out.lt; rw [Hid]; omega
  have hgw : Hid (w.heap.size ≤ wa.heap.size) := B0a.out.size
  clear hg2 K2a B0a
  go_upto_region 2 with (refine wpList_alloced (allocS64 _) ?_)
  generalize (wa.alloc (.cells (cellsS (List.replicate 64 0#32)) 315)) = w1 at *
  generalize wa.heap.size = gw at *
  go_wp2_with fail
  go_loopw [7] (fun iv wr => ∃ i : Nat, i ≤ 64 ∧ iv = .int .i64 ((i : Nat) : Int) ∧ Hid (Blk wr gw 315 (cellsS (wS l i))) ∧ Hid (Blk wr g2 315 (cellsS (List.replicate 64 0#32))) ∧ Hid (Below w.heap.size w wr)) (fun iv _ => 64 - (intOf iv).toNat)
  case atStart => exact ⟨0, Nat.zero_le _, rfl, K3.out, K2.out, B0.out⟩
  case round =>
    clear K3 K2 B0
    obtain ⟨i, hi, rfl, KW, K2, B⟩ := hrel
    by_cases hlt : i < 64
    · have hlz : (i : Int) < 64 := by omega
      have FB : Hid (∀ j, j < 64 → wr.cell? ⟨b, o + j, none⟩ = some (.int .u8 (((l.getD j 0).toNat : Nat) : Int))) := fun j hj => (B.out.cell hb0.out).trans (FB0.out j hj)
      have hbr : Hid (b < wr.heap.size) := Nat.lt_of_lt_of_le hb0.out B.out.size
      by_cases h16 : i < 16
      · have hlz16 : (i : Int) < 16 := by omega
        have hN : Hid (wordS l i = nextS l (spreadS l i) i) := by unfold nextS; rw [Hid, if_pos h16]
        go_upto_region 6 with fail
        refine wp_region_Z (S := fun w' => Below wr.heap.size wr w') (Z := [35]) mixedS ?_
        have BD : Hid (Below wr.heap.size wr wr.drew) := (Below.refl _ _).drew
        generalize wr.drew = wd at *
        simp only [List.size_toArray, List.length_cons, List.length_nil]
        refine zLight (i := 0) rfl (by kernel_rfl) (by kernel_rfl) (by kernel_rfl) (by kernel_rfl) (fun _ _ _ h => h) rfl (fun _ => exMove (v := .int .i64 ((i : Nat) : Int)) rfl) (fun _ => BD.out) ?_
        simp only [Act.put, List.setIfInBounds_toArray, List.set_cons_zero, List.set_cons_succ]
        refine zLight (i := 1) rfl (by kernel_rfl) (by kernel_rfl) (by kernel_rfl) (by kernel_rfl) (fun _ _ _ h => h) rfl (fun _ => exMove (v := .slice (some ⟨b, o, none⟩) 64 c) rfl) (fun _ => BD.out) ?_
        simp only [Act.put, List.setIfInBounds_toArray, List.set_cons_zero, List.set_cons_succ]
        refine zLight (i := 2) rfl (by kernel_rfl) (by kernel_rfl) (by kernel_rfl) (by kernel_rfl) (fun _ _ _ h => h) rfl (fun _ => exMove (v := .int .i64 ((i : Nat) : Int)) rfl) (fun _ => BD.out) ?_
        simp only [Act.put, List.setIfInBounds_toArray, List.set_cons_zero, List.set_cons_succ]
        refine zLight (i := 3) rfl (by kernel_rfl) (by kernel_rfl) (by kernel_rfl) (by kernel_rfl) (fun _ _ _ h => h) rfl (fun w' => exBin (v := .int .i64 ((4 * i : Nat) : Int)) rfl rfl (by rfl) (nmul_sh (4) (i) w' (by omega))) (fun _ => BD.out) ?_
        simp only [Act.put, List.setIfInBounds_toArray, List.set_cons_zero, List.set_cons_succ]
        refine zLight (i := 4) rfl (by kernel_rfl) (by kernel_rfl) (by kernel_rfl) (by kernel_rfl) (fun _ _ _ h => h) rfl (fun w' => exIndex (v := .pointer (some ⟨b, o + (4 * i), none⟩)) rfl rfl (indexB_sh b o 64 c (4 * i) (by omega) w')) (fun _ => BD.out) ?_
        simp only [Act.put, List.setIfInBounds_toArray, List.set_cons_zero, List.set_cons_succ]
        refine zV (i := 5) rfl (by kernel_rfl) (by kernel_rfl) (by kernel_rfl) (by kernel_rfl) (by kernel_rfl) (fun _ _ _ h => h) rfl (fun w' h => exLoad (v := .int .u8 (((l.getD (4 * i) 0).toNat : Nat) : Int)) rfl (loadB_sh b (o + (4 * i)) (l.getD (4 * i) 0) w' ((h.cell hbr.out).trans (FB.out (4 * i) (by omega))))) BD.out ?_
        simp only [Act.put, List.setIfInBounds_toArray, List.set_cons_zero, List.set_cons_succ]
        refine zLight (i := 6) rfl (by kernel_rfl) (by kernel_rfl) (by kernel_rfl) (by kernel_rfl) (fun _ _ _ h => h) rfl (fun w' => exConv_sh (v := u32S (wideS (l.getD (4 * i) 0))) rfl (conv_sh (l.getD (4 * i) 0) w')) (fun _ => BD.out) ?_
        simp only [Act.put, List.setIfInBounds_toArray, List.set_cons_zero, List.set_cons_succ]
        refine zLight (i := 7) rfl (by kernel_rfl) (by kernel_rfl) (by kernel_rfl) (by kernel_rfl) (fun _ _ _ h => h) rfl (fun w' => exBin (v := u32S ((wideS (l.getD (4 * i) 0)) <<< 24)) rfl rfl (by rfl) (shl_sh (wideS (l.getD (4 * i) 0)) 24 (by omega) w')) (fun _ => BD.out) ?_
        simp only [Act.put, List.setIfInBounds_toArray, List.set_cons_zero, List.set_cons_succ]
        refine zLight (i := 8) rfl (by kernel_rfl) (by kernel_rfl) (by kernel_rfl) (by kernel_rfl) (fun _ _ _ h => h) rfl (fun _ => exMove (v := .slice (some ⟨b, o, none⟩) 64 c) rfl) (fun _ => BD.out) ?_
        simp only [Act.put, List.setIfInBounds_toArray, List.set_cons_zero, List.set_cons_succ]
        refine zLight (i := 9) rfl (by kernel_rfl) (by kernel_rfl) (by kernel_rfl) (by kernel_rfl) (fun _ _ _ h => h) rfl (fun _ => exMove (v := .int .i64 ((i : Nat) : Int)) rfl) (fun _ => BD.out) ?_
        simp only [Act.put, List.setIfInBounds_toArray, List.set_cons_zero, List.set_cons_succ]
        refine zLight (i := 10) rfl (by kernel_rfl) (by kernel_rfl) (by kernel_rfl) (by kernel_rfl) (fun _ _ _ h => h) rfl (fun w' => exBin (v := .int .i64 ((4 * i : Nat) : Int)) rfl rfl (by rfl) (nmul_sh (4) (i) w' (by omega))) (fun _ => BD.out) ?_
        simp only [Act.put, List.setIfInBounds_toArray, List.set_cons_zero, List.set_cons_succ]
        refine zLight (i := 11) rfl (by kernel_rfl) (by kernel_rfl) (by kernel_rfl) (by kernel_rfl) (fun _ _ _ h => h) rfl (fun w' => exBin (v := .int .i64 ((4 * i + 1 : Nat) : Int)) rfl rfl (by rfl) (nadd_sh (4 * i) (1) w' (by omega))) (fun _ => BD.out) ?_
        simp only [Act.put, List.setIfInBounds_toArray, List.set_cons_zero, List.set_cons_succ]
        refine zLight (i := 12) rfl (by kernel_rfl) (by kernel_rfl) (by kernel_rfl) (by kernel_rfl) (fun _ _ _ h => h) rfl (fun w' => exIndex (v := .pointer (some ⟨b, o + (4 * i + 1), none⟩)) rfl rfl (indexB_sh b o 64 c (4 * i + 1) (by omega) w')) (fun _ => BD.out) ?_
        simp only [Act.put, List.setIfInBounds_toArray, List.set_cons_zero, List.set_cons_succ]
        refine zV (i := 13) rfl (by kernel_rfl) (by kernel_rfl) (by kernel_rfl) (by kernel_rfl) (by kernel_rfl) (fun _ _ _ h => h) rfl (fun w' h => exLoad (v := .int .u8 (((l.getD (4 * i + 1) 0).toNat : Nat) : Int)) rfl (loadB_sh b (o + (4 * i + 1)) (l.getD (4 * i + 1) 0) w' ((h.cell hbr.out).trans (FB.out (4 * i + 1) (by omega))))) BD.out ?_
        simp only [Act.put, List.setIfInBounds_toArray, List.set_cons_zero, List.set_cons_succ]
        refine zLight (i := 14) rfl (by kernel_rfl) (by kernel_rfl) (by kernel_rfl) (by kernel_rfl) (fun _ _ _ h => h) rfl (fun w' => exConv_sh (v := u32S (wideS (l.getD (4 * i + 1) 0))) rfl (conv_sh (l.getD (4 * i + 1) 0) w')) (fun _ => BD.out) ?_
        simp only [Act.put, List.setIfInBounds_toArray, List.set_cons_zero, List.set_cons_succ]
        refine zLight (i := 15) rfl (by kernel_rfl) (by kernel_rfl) (by kernel_rfl) (by kernel_rfl) (fun _ _ _ h => h) rfl (fun w' => exBin (v := u32S ((wideS (l.getD (4 * i + 1) 0)) <<< 16)) rfl rfl (by rfl) (shl_sh (wideS (l.getD (4 * i + 1) 0)) 16 (by omega) w')) (fun _ => BD.out) ?_
        simp only [Act.put, List.setIfInBounds_toArray, List.set_cons_zero, List.set_cons_succ]
        refine zLight (i := 16) rfl (by kernel_rfl) (by kernel_rfl) (by kernel_rfl) (by kernel_rfl) (fun _ _ _ h => h) rfl (fun w' => exBin (v := u32S (((wideS (l.getD (4 * i) 0)) <<< 24) ||| ((wideS (l.getD (4 * i + 1) 0)) <<< 16))) rfl rfl (by rfl) (or_sh ((wideS (l.getD (4 * i) 0)) <<< 24) ((wideS (l.getD (4 * i + 1) 0)) <<< 16) w')) (fun _ => BD.out) ?_
        simp only [Act.put, List.setIfInBounds_toArray, List.set_cons_zero, List.set_cons_succ]
        refine zLight (i := 17) rfl (by kernel_rfl) (by kernel_rfl) (by kernel_rfl) (by kernel_rfl) (fun _ _ _ h => h) rfl (fun _ => exMove (v := .slice (some ⟨b, o, none⟩) 64 c) rfl) (fun _ => BD.out) ?_
        simp only [Act.put, List.setIfInBounds_toArray, List.set_cons_zero, List.set_cons_succ]
        refine zLight (i := 18) rfl (by kernel_rfl) (by kernel_rfl) (by kernel_rfl) (by kernel_rfl) (fun _ _ _ h => h) rfl (fun _ => exMove (v := .int .i64 ((i : Nat) : Int)) rfl) (fun _ => BD.out) ?_
        simp only [Act.put, List.setIfInBounds_toArray, List.set_cons_zero, List.set_cons_succ]
        refine zLight (i := 19) rfl (by kernel_rfl) (by kernel_rfl) (by kernel_rfl) (by kernel_rfl) (fun _ _ _ h => h) rfl (fun w' => exBin (v := .int .i64 ((4 * i : Nat) : Int)) rfl rfl (by rfl) (nmul_sh (4) (i) w' (by omega))) (fun _ => BD.out) ?_
        simp only [Act.put, List.setIfInBounds_toArray, List.set_cons_zero, List.set_cons_succ]
        refine zLight (i := 20) rfl (by kernel_rfl) (by kernel_rfl) (by kernel_rfl) (by kernel_rfl) (fun _ _ _ h => h) rfl (fun w' => exBin (v := .int .i64 ((4 * i + 2 : Nat) : Int)) rfl rfl (by rfl) (nadd_sh (4 * i) (2) w' (by omega))) (fun _ => BD.out) ?_
        simp only [Act.put, List.setIfInBounds_toArray, List.set_cons_zero, List.set_cons_succ]
        refine zLight (i := 21) rfl (by kernel_rfl) (by kernel_rfl) (by kernel_rfl) (by kernel_rfl) (fun _ _ _ h => h) rfl (fun w' => exIndex (v := .pointer (some ⟨b, o + (4 * i + 2), none⟩)) rfl rfl (indexB_sh b o 64 c (4 * i + 2) (by omega) w')) (fun _ => BD.out) ?_
        simp only [Act.put, List.setIfInBounds_toArray, List.set_cons_zero, List.set_cons_succ]
        refine zV (i := 22) rfl (by kernel_rfl) (by kernel_rfl) (by kernel_rfl) (by kernel_rfl) (by kernel_rfl) (fun _ _ _ h => h) rfl (fun w' h => exLoad (v := .int .u8 (((l.getD (4 * i + 2) 0).toNat : Nat) : Int)) rfl (loadB_sh b (o + (4 * i + 2)) (l.getD (4 * i + 2) 0) w' ((h.cell hbr.out).trans (FB.out (4 * i + 2) (by omega))))) BD.out ?_
        simp only [Act.put, List.setIfInBounds_toArray, List.set_cons_zero, List.set_cons_succ]
        refine zLight (i := 23) rfl (by kernel_rfl) (by kernel_rfl) (by kernel_rfl) (by kernel_rfl) (fun _ _ _ h => h) rfl (fun w' => exConv_sh (v := u32S (wideS (l.getD (4 * i + 2) 0))) rfl (conv_sh (l.getD (4 * i + 2) 0) w')) (fun _ => BD.out) ?_
        simp only [Act.put, List.setIfInBounds_toArray, List.set_cons_zero, List.set_cons_succ]
        refine zLight (i := 24) rfl (by kernel_rfl) (by kernel_rfl) (by kernel_rfl) (by kernel_rfl) (fun _ _ _ h => h) rfl (fun w' => exBin (v := u32S ((wideS (l.getD (4 * i + 2) 0)) <<< 8)) rfl rfl (by rfl) (shl_sh (wideS (l.getD (4 * i + 2) 0)) 8 (by omega) w')) (fun _ => BD.out) ?_
        simp only [Act.put, List.setIfInBounds_toArray, List.set_cons_zero, List.set_cons_succ]
        refine zLight (i := 25) rfl (by kernel_rfl) (by kernel_rfl) (by kernel_rfl) (by kernel_rfl) (fun _ _ _ h => h) rfl (fun w' => exBin (v := u32S ((((wideS (l.getD (4 * i) 0)) <<< 24) ||| ((wideS (l.getD (4 * i + 1) 0)) <<< 16)) ||| ((wideS (l.getD (4 * i + 2) 0)) <<< 8))) rfl rfl (by rfl) (or_sh (((wideS (l.getD (4 * i) 0)) <<< 24) ||| ((wideS (l.getD (4 * i + 1) 0)) <<< 16)) ((wideS (l.getD (4 * i + 2) 0)) <<< 8) w')) (fun _ => BD.out) ?_
        simp only [Act.put, List.setIfInBounds_toArray, List.set_cons_zero, List.set_cons_succ]
        refine zLight (i := 26) rfl (by kernel_rfl) (by kernel_rfl) (by kernel_rfl) (by kernel_rfl) (fun _ _ _ h => h) rfl (fun _ => exMove (v := .slice (some ⟨b, o, none⟩) 64 c) rfl) (fun _ => BD.out) ?_
        simp only [Act.put, List.setIfInBounds_toArray, List.set_cons_zero, List.set_cons_succ]
        refine zLight (i := 27) rfl (by kernel_rfl) (by kernel_rfl) (by kernel_rfl) (by kernel_rfl) (fun _ _ _ h => h) rfl (fun _ => exMove (v := .int .i64 ((i : Nat) : Int)) rfl) (fun _ => BD.out) ?_
        simp only [Act.put, List.setIfInBounds_toArray, List.set_cons_zero, List.set_cons_succ]
        refine zLight (i := 28) rfl (by kernel_rfl) (by kernel_rfl) (by kernel_rfl) (by kernel_rfl) (fun _ _ _ h => h) rfl (fun w' => exBin (v := .int .i64 ((4 * i : Nat) : Int)) rfl rfl (by rfl) (nmul_sh (4) (i) w' (by omega))) (fun _ => BD.out) ?_
        simp only [Act.put, List.setIfInBounds_toArray, List.set_cons_zero, List.set_cons_succ]
        refine zLight (i := 29) rfl (by kernel_rfl) (by kernel_rfl) (by kernel_rfl) (by kernel_rfl) (fun _ _ _ h => h) rfl (fun w' => exBin (v := .int .i64 ((4 * i + 3 : Nat) : Int)) rfl rfl (by rfl) (nadd_sh (4 * i) (3) w' (by omega))) (fun _ => BD.out) ?_
        simp only [Act.put, List.setIfInBounds_toArray, List.set_cons_zero, List.set_cons_succ]
        refine zLight (i := 30) rfl (by kernel_rfl) (by kernel_rfl) (by kernel_rfl) (by kernel_rfl) (fun _ _ _ h => h) rfl (fun w' => exIndex (v := .pointer (some ⟨b, o + (4 * i + 3), none⟩)) rfl rfl (indexB_sh b o 64 c (4 * i + 3) (by omega) w')) (fun _ => BD.out) ?_
        simp only [Act.put, List.setIfInBounds_toArray, List.set_cons_zero, List.set_cons_succ]
        refine zV (i := 31) rfl (by kernel_rfl) (by kernel_rfl) (by kernel_rfl) (by kernel_rfl) (by kernel_rfl) (fun _ _ _ h => h) rfl (fun w' h => exLoad (v := .int .u8 (((l.getD (4 * i + 3) 0).toNat : Nat) : Int)) rfl (loadB_sh b (o + (4 * i + 3)) (l.getD (4 * i + 3) 0) w' ((h.cell hbr.out).trans (FB.out (4 * i + 3) (by omega))))) BD.out ?_
        simp only [Act.put, List.setIfInBounds_toArray, List.set_cons_zero, List.set_cons_succ]
        refine zLight (i := 32) rfl (by kernel_rfl) (by kernel_rfl) (by kernel_rfl) (by kernel_rfl) (fun _ _ _ h => h) rfl (fun w' => exConv_sh (v := u32S (wideS (l.getD (4 * i + 3) 0))) rfl (conv_sh (l.getD (4 * i + 3) 0) w')) (fun _ => BD.out) ?_
        simp only [Act.put, List.setIfInBounds_toArray, List.set_cons_zero, List.set_cons_succ]
        refine zLight (i := 33) rfl (by kernel_rfl) (by kernel_rfl) (by kernel_rfl) (by kernel_rfl) (fun _ _ _ h => h) rfl (fun w' => exBin (v := u32S (((((wideS (l.getD (4 * i) 0)) <<< 24) ||| ((wideS (l.getD (4 * i + 1) 0)) <<< 16)) ||| ((wideS (l.getD (4 * i + 2) 0)) <<< 8)) ||| (wideS (l.getD (4 * i + 3) 0)))) rfl rfl (by rfl) (or_sh ((((wideS (l.getD (4 * i) 0)) <<< 24) ||| ((wideS (l.getD (4 * i + 1) 0)) <<< 16)) ||| ((wideS (l.getD (4 * i + 2) 0)) <<< 8)) (wideS (l.getD (4 * i + 3) 0)) w')) (fun _ => BD.out) ?_
        simp only [Act.put, List.setIfInBounds_toArray, List.set_cons_zero, List.set_cons_succ]
        refine zLight (i := 34) rfl (by kernel_rfl) (by kernel_rfl) (by kernel_rfl) (by kernel_rfl) (fun _ _ _ h => h) rfl (fun w' => exIndex (v := .pointer (some ⟨gw, i, none⟩)) rfl rfl (index64_sh gw (i) (by omega) w')) (fun _ => BD.out) ?_
        simp only [Act.put, List.setIfInBounds_toArray, List.set_cons_zero, List.set_cons_succ]
        refine wpAnyZ_all (rs := [35]) (by kernel_rfl) (by simp) ?_
        intro i hi
        simp only [List.mem_cons, List.not_mem_nil, or_false] at hi
        subst hi
        refine wpOp_of rfl rfl (wpStored1 rfl rfl (store_sh gw (i) (((((wideS (l.getD (4 * i) 0)) <<< 24) ||| ((wideS (l.getD (4 * i + 1) 0)) <<< 16)) ||| ((wideS (l.getD (4 * i + 2) 0)) <<< 8)) ||| (wideS (l.getD (4 * i + 3) 0))) wd (blkS_cell (KW.out.ext BD.out) (v := 0#32) (wS_zero l hlt)) ((KW.out.ext BD.out).fr i)) ?_)
        refine ⟨noZ (by kernel_rfl), ?_⟩
        refine wpAnyZ_done (by kernel_rfl) ?_ _
        have KW2 : Hid (Blk (wd.setCell ⟨gw, i, none⟩ (u32S (wordS l i))) gw 315 (cellsS (wS l (i + 1)))) := by
          rw [hN.out, ← wS_set l hlt]
          exact blkS_set (KW.out.ext BD.out) i _
        have K22 := Lib.hid ((K2.out.ext BD.out).far (p := ⟨gw, i, none⟩) hne.out (u32S (wordS l i)))
        have B2 := Lib.hid (below_setCell (B.out.trans (BD.out.mono B.out.size)) (p := ⟨gw, i, none⟩) hgw.out (u := u32S (wordS l i)))
        clear KW K2 B BD FB
        change _ at KW2
        generalize hwe : wd.setCell ⟨gw, i, none⟩ (u32S (wordS l i)) = we at *
        unfold wordS byS at hwe
        rw [hwe]
        clear hwe
        go_wp2_with fail
        go_roundw
        case rel => exact ⟨i + 1, by omega, by go_num, KW2.out, K22.out, B2.out⟩
        case measure => simp [intOf]; omega
      · have hlz16 : ¬ (i : Int) < 16 := by omega
        obtain ⟨x5, hx5⟩ : ∃ x, x = atS (spreadS l i) (i - 15) := ⟨_, rfl⟩
        obtain ⟨x6, hx6⟩ : ∃ x, x = atS (spreadS l i) (i - 2) := ⟨_, rfl⟩
        have hN : Hid (((atS (spreadS l i) (i - 16) + atS (spreadS l i) (i - 7)) + lowS x5) + topS x6 = nextS l (spreadS l i) i) := by unfold nextS; rw [Hid, if_neg h16, hx5, hx6]
        go_upto_region 7 with fail
        refine wp_region_Z (S := fun w' => Below wr.heap.size wr w') (Z := []) mixedS ?_
        have BD : Hid (Below wr.heap.size wr wr.drew) := (Below.refl _ _).drew
        generalize wr.drew = wd at *
        simp only [List.size_toArray, List.length_cons, List.length_nil]
        refine zLight (i := 0) rfl (by kernel_rfl) (by kernel_rfl) (by kernel_rfl) (by kernel_rfl) (fun _ _ _ h => h) rfl (fun _ => exMove (v := .int .i64 ((i : Nat) : Int)) rfl) (fun _ => BD.out) ?_
        simp only [Act.put, List.setIfInBounds_toArray, List.set_cons_zero, List.set_cons_succ]
        refine zLight (i := 1) rfl (by kernel_rfl) (by kernel_rfl) (by kernel_rfl) (by kernel_rfl) (fun _ _ _ h => h) rfl (fun w' => exBin (v := .int .i64 ((i - 15 : Nat) : Int)) rfl rfl (by rfl) (nsub_sh (i) (15) w' (by omega) (by omega))) (fun _ => BD.out) ?_
        simp only [Act.put, List.setIfInBounds_toArray, List.set_cons_zero, List.set_cons_succ]
        refine zLight (i := 2) rfl (by kernel_rfl) (by kernel_rfl) (by kernel_rfl) (by kernel_rfl) (fun _ _ _ h => h) rfl (fun w' => exIndex (v := .pointer (some ⟨gw, i - 15, none⟩)) rfl rfl (index64_sh gw (i - 15) (by omega) w')) (fun _ => BD.out) ?_
        simp only [Act.put, List.setIfInBounds_toArray, List.set_cons_zero, List.set_cons_succ]
        refine zV (i := 3) rfl (by kernel_rfl) (by kernel_rfl) (by kernel_rfl) (by kernel_rfl) (by kernel_rfl) (fun _ _ _ h => h) rfl (fun w' h => exLoad (v := u32S (atS (spreadS l i) (i - 15))) rfl (load_sh gw (i - 15) (atS (spreadS l i) (i - 15)) w' (blkS_cell (KW.out.ext h) (wS_at l (by omega))))) BD.out ?_
        simp only [Act.put, List.setIfInBounds_toArray, List.set_cons_zero, List.set_cons_succ]
        refine zLight (i := 4) rfl (by kernel_rfl) (by kernel_rfl) (by kernel_rfl) (by kernel_rfl) (fun _ _ _ h => h) rfl (fun _ => exMove (v := .int .i64 ((i : Nat) : Int)) rfl) (fun _ => BD.out) ?_
        simp only [Act.put, List.setIfInBounds_toArray, List.set_cons_zero, List.set_cons_succ]
        refine zLight (i := 5) rfl (by kernel_rfl) (by kernel_rfl) (by kernel_rfl) (by kernel_rfl) (fun _ _ _ h => h) rfl (fun w' => exBin (v := .int .i64 ((i - 2 : Nat) : Int)) rfl rfl (by rfl) (nsub_sh (i) (2) w' (by omega) (by omega))) (fun _ => BD.out) ?_
        simp only [Act.put, List.setIfInBounds_toArray, List.set_cons_zero, List.set_cons_succ]
        refine zLight (i := 6) rfl (by kernel_rfl) (by kernel_rfl) (by kernel_rfl) (by kernel_rfl) (fun _ _ _ h => h) rfl (fun w' => exIndex (v := .pointer (some ⟨gw, i - 2, none⟩)) rfl rfl (index64_sh gw (i - 2) (by omega) w')) (fun _ => BD.out) ?_
        simp only [Act.put, List.setIfInBounds_toArray, List.set_cons_zero, List.set_cons_succ]
        refine zV (i := 7) rfl (by kernel_rfl) (by kernel_rfl) (by kernel_rfl) (by kernel_rfl) (by kernel_rfl) (fun _ _ _ h => h) rfl (fun w' h => exLoad (v := u32S (atS (spreadS l i) (i - 2))) rfl (load_sh gw (i - 2) (atS (spreadS l i) (i - 2)) w' (blkS_cell (KW.out.ext h) (wS_at l (by omega))))) BD.out ?_
        simp only [Act.put, List.setIfInBounds_toArray, List.set_cons_zero, List.set_cons_succ]
        refine zLight (i := 8) rfl (by kernel_rfl) (by kernel_rfl) (by kernel_rfl) (by kernel_rfl) (fun _ _ _ h => h) rfl (fun _ => exAssign (v := u32S (atS (spreadS l i) (i - 15))) rfl) (fun _ => BD.out) ?_
        simp only [Act.put, List.setIfInBounds_toArray, List.set_cons_zero, List.set_cons_succ]
        refine zLight (i := 9) rfl (by kernel_rfl) (by kernel_rfl) (by kernel_rfl) (by kernel_rfl) (fun _ _ _ h => h) rfl (fun _ => exAssign (v := u32S (atS (spreadS l i) (i - 2))) rfl) (fun _ => BD.out) ?_
        simp only [Act.put, List.setIfInBounds_toArray, List.set_cons_zero, List.set_cons_succ]
        refine wpAnyZ_done (by kernel_rfl) ?_ _
        have B7 := Lib.hid (B.out.trans (BD.out.mono B.out.size))
        have KW7 := Lib.hid (KW.out.ext BD.out)
        have K27 := Lib.hid (K2.out.ext BD.out)
        rw [← hx5, ← hx6]
        clear hx5 hx6 B KW K2 BD FB hbr
        have B := B7
        have KW := KW7
        have K2 := K27
        clear B7 KW7 K27
        obtain ⟨w7, rfl⟩ : ∃ x, x = wd := ⟨_, rfl⟩
        go_upto_region 8 with fail
        refine wp_region_Z (S := fun w' => Below w7.heap.size w7 w') (Z := [29]) mixedS ?_
        have BD : Hid (Below w7.heap.size w7 w7.drew) := (Below.refl _ _).drew
        generalize w7.drew = wd at *
        simp only [List.size_toArray, List.length_cons, List.length_nil]
        refine zLight (i := 0) rfl (by kernel_rfl) (by kernel_rfl) (by kernel_rfl) (by kernel_rfl) (fun _ _ _ h => h) rfl (fun _ => exMove (v := .int .i64 ((i : Nat) : Int)) rfl) (fun _ => BD.out) ?_
        simp only [Act.put, List.setIfInBounds_toArray, List.set_cons_zero, List.set_cons_succ]
        refine zLight (i := 1) rfl (by kernel_rfl) (by kernel_rfl) (by kernel_rfl) (by kernel_rfl) (fun _ _ _ h => h) rfl (fun _ => exMove (v := .int .i64 ((i : Nat) : Int)) rfl) (fun _ => BD.out) ?_
        simp only [Act.put, List.setIfInBounds_toArray, List.set_cons_zero, List.set_cons_succ]
        refine zLight (i := 2) rfl (by kernel_rfl) (by kernel_rfl) (by kernel_rfl) (by kernel_rfl) (fun _ _ _ h => h) rfl (fun w' => exBin (v := .int .i64 ((i - 16 : Nat) : Int)) rfl rfl (by rfl) (nsub_sh (i) (16) w' (by omega) (by omega))) (fun _ => BD.out) ?_
        simp only [Act.put, List.setIfInBounds_toArray, List.set_cons_zero, List.set_cons_succ]
        refine zLight (i := 3) rfl (by kernel_rfl) (by kernel_rfl) (by kernel_rfl) (by kernel_rfl) (fun _ _ _ h => h) rfl (fun w' => exIndex (v := .pointer (some ⟨gw, i - 16, none⟩)) rfl rfl (index64_sh gw (i - 16) (by omega) w')) (fun _ => BD.out) ?_
        simp only [Act.put, List.setIfInBounds_toArray, List.set_cons_zero, List.set_cons_succ]
        refine zV (i := 4) rfl (by kernel_rfl) (by kernel_rfl) (by kernel_rfl) (by kernel_rfl) (by kernel_rfl) (fun _ _ _ h => h) rfl (fun w' h => exLoad (v := u32S (atS (spreadS l i) (i - 16))) rfl (load_sh gw (i - 16) (atS (spreadS l i) (i - 16)) w' (blkS_cell (KW.out.ext h) (wS_at l (by omega))))) BD.out ?_
        simp only [Act.put, List.setIfInBounds_toArray, List.set_cons_zero, List.set_cons_succ]
        refine zLight (i := 5) rfl (by kernel_rfl) (by kernel_rfl) (by kernel_rfl) (by kernel_rfl) (fun _ _ _ h => h) rfl (fun _ => exMove (v := .int .i64 ((i : Nat) : Int)) rfl) (fun _ => BD.out) ?_
        simp only [Act.put, List.setIfInBounds_toArray, List.set_cons_zero, List.set_cons_succ]
        refine zLight (i := 6) rfl (by kernel_rfl) (by kernel_rfl) (by kernel_rfl) (by kernel_rfl) (fun _ _ _ h => h) rfl (fun w' => exBin (v := .int .i64 ((i - 7 : Nat) : Int)) rfl rfl (by rfl) (nsub_sh (i) (7) w' (by omega) (by omega))) (fun _ => BD.out) ?_
        simp only [Act.put, List.setIfInBounds_toArray, List.set_cons_zero, List.set_cons_succ]
        refine zLight (i := 7) rfl (by kernel_rfl) (by kernel_rfl) (by kernel_rfl) (by kernel_rfl) (fun _ _ _ h => h) rfl (fun w' => exIndex (v := .pointer (some ⟨gw, i - 7, none⟩)) rfl rfl (index64_sh gw (i - 7) (by omega) w')) (fun _ => BD.out) ?_
        simp only [Act.put, List.setIfInBounds_toArray, List.set_cons_zero, List.set_cons_succ]
        refine zV (i := 8) rfl (by kernel_rfl) (by kernel_rfl) (by kernel_rfl) (by kernel_rfl) (by kernel_rfl) (fun _ _ _ h => h) rfl (fun w' h => exLoad (v := u32S (atS (spreadS l i) (i - 7))) rfl (load_sh gw (i - 7) (atS (spreadS l i) (i - 7)) w' (blkS_cell (KW.out.ext h) (wS_at l (by omega))))) BD.out ?_
        simp only [Act.put, List.setIfInBounds_toArray, List.set_cons_zero, List.set_cons_succ]
        refine zLight (i := 9) rfl (by kernel_rfl) (by kernel_rfl) (by kernel_rfl) (by kernel_rfl) (fun _ _ _ h => h) rfl (fun w' => exBin (v := u32S ((atS (spreadS l i) (i - 16)) + (atS (spreadS l i) (i - 7)))) rfl rfl (by rfl) (add_sh (atS (spreadS l i) (i - 16)) (atS (spreadS l i) (i - 7)) w')) (fun _ => BD.out) ?_
        simp only [Act.put, List.setIfInBounds_toArray, List.set_cons_zero, List.set_cons_succ]
        refine zLight (i := 10) rfl (by kernel_rfl) (by kernel_rfl) (by kernel_rfl) (by kernel_rfl) (fun _ _ _ h => h) rfl (fun _ => exMove (v := u32S (x5)) rfl) (fun _ => BD.out) ?_
        simp only [Act.put, List.setIfInBounds_toArray, List.set_cons_zero, List.set_cons_succ]
        refine zLight (i := 12) rfl (by kernel_rfl) (by kernel_rfl) (by kernel_rfl) (by kernel_rfl) (fun _ _ _ h => h) rfl (fun _ => exMove (v := u32S (x5)) rfl) (fun _ => BD.out) ?_
        simp only [Act.put, List.setIfInBounds_toArray, List.set_cons_zero, List.set_cons_succ]
        refine zLight (i := 15) rfl (by kernel_rfl) (by kernel_rfl) (by kernel_rfl) (by kernel_rfl) (fun _ _ _ h => h) rfl (fun _ => exMove (v := u32S (x5)) rfl) (fun _ => BD.out) ?_
        simp only [Act.put, List.setIfInBounds_toArray, List.set_cons_zero, List.set_cons_succ]
        refine zLight (i := 16) rfl (by kernel_rfl) (by kernel_rfl) (by kernel_rfl) (by kernel_rfl) (fun _ _ _ h => h) rfl (fun w' => exBin (v := u32S ((x5) >>> 3)) rfl rfl (by rfl) (shr_sh (x5) 3 (by omega) w')) (fun _ => BD.out) ?_
        simp only [Act.put, List.setIfInBounds_toArray, List.set_cons_zero, List.set_cons_succ]
        refine zLight (i := 19) rfl (by kernel_rfl) (by kernel_rfl) (by kernel_rfl) (by kernel_rfl) (fun _ _ _ h => h) rfl (fun _ => exMove (v := u32S (x6)) rfl) (fun _ => BD.out) ?_
        simp only [Act.put, List.setIfInBounds_toArray, List.set_cons_zero, List.set_cons_succ]
        refine zLight (i := 21) rfl (by kernel_rfl) (by kernel_rfl) (by kernel_rfl) (by kernel_rfl) (fun _ _ _ h => h) rfl (fun _ => exMove (v := u32S (x6)) rfl) (fun _ => BD.out) ?_
        simp only [Act.put, List.setIfInBounds_toArray, List.set_cons_zero, List.set_cons_succ]
        refine zLight (i := 24) rfl (by kernel_rfl) (by kernel_rfl) (by kernel_rfl) (by kernel_rfl) (fun _ _ _ h => h) rfl (fun _ => exMove (v := u32S (x6)) rfl) (fun _ => BD.out) ?_
        simp only [Act.put, List.setIfInBounds_toArray, List.set_cons_zero, List.set_cons_succ]
        refine zLight (i := 25) rfl (by kernel_rfl) (by kernel_rfl) (by kernel_rfl) (by kernel_rfl) (fun _ _ _ h => h) rfl (fun w' => exBin (v := u32S ((x6) >>> 10)) rfl rfl (by rfl) (shr_sh (x6) 10 (by omega) w')) (fun _ => BD.out) ?_
        simp only [Act.put, List.setIfInBounds_toArray, List.set_cons_zero, List.set_cons_succ]
        refine wpAnyZ_all (rs := [11]) (by kernel_rfl) (by simp) ?_
        intro i hi
        simp only [List.mem_cons, List.not_mem_nil, or_false] at hi
        subst hi
        refine wpOp_of rfl rfl (wp_called (args := #[u32S (x5), .int .u64 ((7 : Nat) : Int)]) hcR (by simp only [List.map_toArray, List.map_cons, List.map_nil]; rfl) (right_any (x5) 7 (by omega) (by omega) wd) ?_)
        rintro _ _ ⟨rfl, rfl⟩
        refine ⟨_, rfl, fun _ => BD.out, ?_⟩
        simp only [Act.put, List.setIfInBounds_toArray, List.set_cons_zero, List.set_cons_succ]
        refine wpAnyZ_all (rs := [13]) (by kernel_rfl) (by simp) ?_
        intro i hi
        simp only [List.mem_cons, List.not_mem_nil, or_false] at hi
        subst hi
        refine wpOp_of rfl rfl (wp_called (args := #[u32S (x5), .int .u64 ((18 : Nat) : Int)]) hcR (by simp only [List.map_toArray, List.map_cons, List.map_nil]; rfl) (right_any (x5) 18 (by omega) (by omega) wd) ?_)
        rintro _ _ ⟨rfl, rfl⟩
        refine ⟨_, rfl, fun _ => BD.out, ?_⟩
        simp only [Act.put, List.setIfInBounds_toArray, List.set_cons_zero, List.set_cons_succ]
        refine zLight (i := 14) rfl (by kernel_rfl) (by kernel_rfl) (by kernel_rfl) (by kernel_rfl) (fun _ _ _ h => h) rfl (fun w' => exBin (v := u32S ((rotS (x5) 7) ^^^ (rotS (x5) 18))) rfl rfl (by rfl) (xor_sh (rotS (x5) 7) (rotS (x5) 18) w')) (fun _ => BD.out) ?_
        simp only [Act.put, List.setIfInBounds_toArray, List.set_cons_zero, List.set_cons_succ]
        refine zLight (i := 17) rfl (by kernel_rfl) (by kernel_rfl) (by kernel_rfl) (by kernel_rfl) (fun _ _ _ h => h) rfl (fun w' => exBin (v := u32S (((rotS (x5) 7) ^^^ (rotS (x5) 18)) ^^^ ((x5) >>> 3))) rfl rfl (by rfl) (xor_sh ((rotS (x5) 7) ^^^ (rotS (x5) 18)) ((x5) >>> 3) w')) (fun _ => BD.out) ?_
        simp only [Act.put, List.setIfInBounds_toArray, List.set_cons_zero, List.set_cons_succ]
        refine zLight (i := 18) rfl (by kernel_rfl) (by kernel_rfl) (by kernel_rfl) (by kernel_rfl) (fun _ _ _ h => h) rfl (fun w' => exBin (v := u32S (((atS (spreadS l i) (i - 16)) + (atS (spreadS l i) (i - 7))) + (((rotS (x5) 7) ^^^ (rotS (x5) 18)) ^^^ ((x5) >>> 3)))) rfl rfl (by rfl) (add_sh ((atS (spreadS l i) (i - 16)) + (atS (spreadS l i) (i - 7))) (((rotS (x5) 7) ^^^ (rotS (x5) 18)) ^^^ ((x5) >>> 3)) w')) (fun _ => BD.out) ?_
        simp only [Act.put, List.setIfInBounds_toArray, List.set_cons_zero, List.set_cons_succ]
        refine wpAnyZ_all (rs := [20]) (by kernel_rfl) (by simp) ?_
        intro i hi
        simp only [List.mem_cons, List.not_mem_nil, or_false] at hi
        subst hi
        refine wpOp_of rfl rfl (wp_called (args := #[u32S (x6), .int .u64 ((17 : Nat) : Int)]) hcR (by simp only [List.map_toArray, List.map_cons, List.map_nil]; rfl) (right_any (x6) 17 (by omega) (by omega) wd) ?_)
        rintro _ _ ⟨rfl, rfl⟩
        refine ⟨_, rfl, fun _ => BD.out, ?_⟩
        simp only [Act.put, List.setIfInBounds_toArray, List.set_cons_zero, List.set_cons_succ]
        refine wpAnyZ_all (rs := [22]) (by kernel_rfl) (by simp) ?_
        intro i hi
        simp only [List.mem_cons, List.not_mem_nil, or_false] at hi
        subst hi
        refine wpOp_of rfl rfl (wp_called (args := #[u32S (x6), .int .u64 ((19 : Nat) : Int)]) hcR (by simp only [List.map_toArray, List.map_cons, List.map_nil]; rfl) (right_any (x6) 19 (by omega) (by omega) wd) ?_)
        rintro _ _ ⟨rfl, rfl⟩
        refine ⟨_, rfl, fun _ => BD.out, ?_⟩
        simp only [Act.put, List.setIfInBounds_toArray, List.set_cons_zero, List.set_cons_succ]
        refine zLight (i := 23) rfl (by kernel_rfl) (by kernel_rfl) (by kernel_rfl) (by kernel_rfl) (fun _ _ _ h => h) rfl (fun w' => exBin (v := u32S ((rotS (x6) 17) ^^^ (rotS (x6) 19))) rfl rfl (by rfl) (xor_sh (rotS (x6) 17) (rotS (x6) 19) w')) (fun _ => BD.out) ?_
        simp only [Act.put, List.setIfInBounds_toArray, List.set_cons_zero, List.set_cons_succ]
        refine zLight (i := 26) rfl (by kernel_rfl) (by kernel_rfl) (by kernel_rfl) (by kernel_rfl) (fun _ _ _ h => h) rfl (fun w' => exBin (v := u32S (((rotS (x6) 17) ^^^ (rotS (x6) 19)) ^^^ ((x6) >>> 10))) rfl rfl (by rfl) (xor_sh ((rotS (x6) 17) ^^^ (rotS (x6) 19)) ((x6) >>> 10) w')) (fun _ => BD.out) ?_
        simp only [Act.put, List.setIfInBounds_toArray, List.set_cons_zero, List.set_cons_succ]
        refine zLight (i := 27) rfl (by kernel_rfl) (by kernel_rfl) (by kernel_rfl) (by kernel_rfl) (fun _ _ _ h => h) rfl (fun w' => exBin (v := u32S ((((atS (spreadS l i) (i - 16)) + (atS (spreadS l i) (i - 7))) + (((rotS (x5) 7) ^^^ (rotS (x5) 18)) ^^^ ((x5) >>> 3))) + (((rotS (x6) 17) ^^^ (rotS (x6) 19)) ^^^ ((x6) >>> 10)))) rfl rfl (by rfl) (add_sh (((atS (spreadS l i) (i - 16)) + (atS (spreadS l i) (i - 7))) + (((rotS (x5) 7) ^^^ (rotS (x5) 18)) ^^^ ((x5) >>> 3))) (((rotS (x6) 17) ^^^ (rotS (x6) 19)) ^^^ ((x6) >>> 10)) w')) (fun _ => BD.out) ?_
        simp only [Act.put, List.setIfInBounds_toArray, List.set_cons_zero, List.set_cons_succ]
        refine zLight (i := 28) rfl (by kernel_rfl) (by kernel_rfl) (by kernel_rfl) (by kernel_rfl) (fun _ _ _ h => h) rfl (fun w' => exIndex (v := .pointer (some ⟨gw, i, none⟩)) rfl rfl (index64_sh gw (i) (by omega) w')) (fun _ => BD.out) ?_
        simp only [Act.put, List.setIfInBounds_toArray, List.set_cons_zero, List.set_cons_succ]
        refine wpAnyZ_all (rs := [29]) (by kernel_rfl) (by simp) ?_
        intro i hi
        simp only [List.mem_cons, List.not_mem_nil, or_false] at hi
        subst hi
        refine wpOp_of rfl rfl (wpStored1 rfl rfl (store_sh gw (i) ((((atS (spreadS l i) (i - 16)) + (atS (spreadS l i) (i - 7))) + (((rotS (x5) 7) ^^^ (rotS (x5) 18)) ^^^ ((x5) >>> 3))) + (((rotS (x6) 17) ^^^ (rotS (x6) 19)) ^^^ ((x6) >>> 10))) wd (blkS_cell (KW.out.ext BD.out) (v := 0#32) (wS_zero l hlt)) ((KW.out.ext BD.out).fr i)) ?_)
        refine ⟨noZ (by kernel_rfl), ?_⟩
        refine wpAnyZ_done (by kernel_rfl) ?_ _
        have KW2 : Hid (Blk (wd.setCell ⟨gw, i, none⟩ (u32S (((atS (spreadS l i) (i - 16) + atS (spreadS l i) (i - 7)) + lowS x5) + topS x6))) gw 315 (cellsS (wS l (i + 1)))) := by
          rw [hN.out, ← wS_set l hlt]
          exact blkS_set (KW.out.ext BD.out) i _
        have K22 := Lib.hid ((K2.out.ext BD.out).far (p := ⟨gw, i, none⟩) hne.out (u32S (((atS (spreadS l i) (i - 16) + atS (spreadS l i) (i - 7)) + lowS x5) + topS x6)))
        have B2 := Lib.hid (below_setCell (B.out.trans (BD.out.mono B.out.size)) (p := ⟨gw, i, none⟩) hgw.out (u := u32S (((atS (spreadS l i) (i - 16) + atS (spreadS l i) (i - 7)) + lowS x5) + topS x6)))
        clear KW K2 B BD
        generalize hwe : wd.setCell ⟨gw, i, none⟩ (u32S (((atS (spreadS l i) (i - 16) + atS (spreadS l i) (i - 7)) + lowS x5) + topS x6)) = we at *
        unfold lowS topS at hwe
        rw [hwe]
        clear hwe
        go_wp2_with fail
        go_roundw
        case rel => exact ⟨i + 1, by omega, by go_num, KW2.out, K22.out, B2.out⟩
        case measure => simp [intOf]; omega
    · have hlz : ¬ (i : Int) < 64 := by omega
      obtain rfl : i = 64 := by omega
      have e64 : Hid (wS l 64 = spreadS l 64) := by unfold wS; rw [Hid]; simp
      rw [e64.out] at KW
      go_wp2_with (first
        | (refine wpList_load_row rfl 315 _ (by rfl) gw (by rfl) _ _ _ _ KW.out Tryz.underlying315 rfl (by rw [infoS64]; unfold cellsS; simp [spreadS_len]) ?_)
        | (refine wpList_store_row rfl 315 _ _ (by rfl) g2 (cellsS (spreadS l 64)) (by rfl) (by rfl) _ _ K2.out (by rw [infoS64]; unfold cellsS; simp [spreadS_len]) (by unfold cellsS; simp [spreadS_len]) (cellsS_one _) ?_))
      refine bodyPost_ret (results_cellS rfl _ _ g2 _ (cellsS (spreadS l 64)) _ rfl (K2.out.row _) Tryz.underlying315 rfl (by rw [infoS64]; unfold cellsS; simp [spreadS_len])) rfl ?_
      exact ⟨rfl, below_setRow B.out hg2w.out _⟩
end Go.Proofs.YtihggkmjalofiaaGreatDoor
