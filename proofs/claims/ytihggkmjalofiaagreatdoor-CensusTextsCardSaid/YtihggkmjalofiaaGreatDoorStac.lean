/- slices.SortStableFunc at a census' rows: walked. -/
import Derived.Test.YtihggkmjalofiaaGreatDoorStaa
import Derived.Test.YtihggkmjalofiaaGreatDoorCens
import Derived.Test.YtihggkmjalofiaaGreatDoorGen
import Derived.Test.YtihggkmjalofiaaGreatDoorBufs
import Derived.Deep.DeepCutAuto
namespace Go.Proofs.YtihggkmjalofiaaGreatDoor
open Go.RowKit Go.Sort Go.Lib Go.Shelf

theorem nadd54 (x y : Nat) (w : World) (h : x + y ≤ 1000000) : (binOp .add 3 (.int .i64 ((x : Nat) : Int)) (.int .i64 ((y : Nat) : Int))).run Tryz.prog w = .ok (.int .i64 ((x + y : Nat) : Int)) w := by
 have e : IntKind.i64.wrap ((x : Int) + (y : Int)) = ((x + y : Nat) : Int) := by rw [IntKind.wrap_i64] <;> omega
 simp [go_sem, e]
theorem nsub54 (x y : Nat) (w : World) (h : y ≤ x) (hm : x ≤ 1000000) : (binOp .sub 3 (.int .i64 ((x : Nat) : Int)) (.int .i64 ((y : Nat) : Int))).run Tryz.prog w = .ok (.int .i64 ((x - y : Nat) : Int)) w := by
 have e : IntKind.i64.wrap ((x : Int) - (y : Int)) = ((x - y : Nat) : Int) := by rw [IntKind.wrap_i64] <;> omega
 simp [go_sem, e]
theorem wp_store_midN {P : Program} {Q : Exit → Act → World → Prop} {K : Act → World → Prop} {a : Act} {w : World} {rt : TypeId} {pos : String} {after : Array Edge} {gd : Option (Nat × Bool)} {ty : TypeId} {x y : Operand} {b o : Nat} {cs : List Value} (hx : a.eval x = .pointer (some ⟨b, o, none⟩)) (hy : a.eval y = .agg cs.toArray)
  (ht : w.there b o cs.toArray.size) (hi : (P.info? ty).map (·.size) = some cs.toArray.size) (h1 : cs.toArray.all (·.oneCell') = true) (h : K a (w.setCells b o cs)) : Oper.wp P ⟨none, .store ty x y, rt, pos, after, gd⟩ a w K Q :=
 wp_store_mid ty x y rfl b o cs.toArray hx hy ht hi h1 h
theorem indexRowS (b o n c k : Nat) (hk : k < n) (w : World) : (Instr.indexAt 104 (.slice (some ⟨b, o, none⟩) n c) (.int .i64 ((k : Nat) : Int))).run Tryz.prog w = .ok (.pointer (some ⟨b, o + k * 9, none⟩)) w := by
 have h1 : ((k : Nat) : Int) < (n : Int) := by omega
 simp [go_sem, h1]
section
variable {w0 w : World} {blk off : Nat} {dk d0 : Array RowR}
theorem swk_range (S : SWK encR 9 w0 blk off dk w) (R : RowK encR 9 w0 blk off d0) (hs : dk.size = d0.size) {i : Nat} (hi : i < dk.size) : w.rangeAt blk (off + i * 9) (encR dk[i]!) := fun j v hv => by
 have := HoldsK.cells (S.holds R.hblk R.hH hs) encR_len hi j v hv
 rwa [Addr.add_mid] at this
theorem swk_there (S : SWK encR 9 w0 blk off dk w) (R : RowK encR 9 w0 blk off d0) (hs : dk.size = d0.size) (r : RowR) {i : Nat} (hi : i < dk.size) : w.there blk (off + i * 9) (encR r).toArray.size := fun j hj => by
 have hj : j < 9 := hj
 have h := S.holds R.hblk R.hH hs (i * 9 + j) (by rw [size_flatK]; omega)
 rw [← Nat.add_assoc] at h
 exact ⟨by rw [h.1]; rfl, h.2⟩
theorem swk_grew {w2 : World} (S : SWK encR 9 w0 blk off dk w) (h : ∃ q os', w2 = grow ((grow (w.drewN 0) #[]).drewN q) os') : SWK encR 9 w0 blk off dk w2 := by
 obtain ⟨q, os', rfl⟩ := h
 exact (S.grown 0 #[]).grown q os'
end
theorem wp_calledW54 {P : Program} {Q : Exit → Act → World → Prop} {K : Act → World → Prop} {a : Act} {w : World} {d : Option Tmp} {ty : TypeId} {pos : String} {after : Array Edge} {gd : Option (Nat × Bool)} {x y z : Operand} {ts : Array TypeId} {f : FuncId} {cb : Array Value} {yv zv : Value} {R : Ending → World → Prop}
  (hf : ∀ args w, (callFunc f args).run P w = .ok (.enter f args) w) (hx : a.eval x = .func (.func f) #[] cb) (hy : a.eval y = yv) (hz : a.eval z = zv) (hc : Calls P f (#[yv, zv] ++ cb) (grow (w.drewN 0) #[]) R)
  (h : ∀ e w', R e w' → ∃ v, e = .returned v ∧ K (a.put d v) w') : Oper.wp P ⟨d, .call { callee := .value x, args := #[y, z], argTypes := ts }, ty, pos, after, gd⟩ a w K Q := by
 have e1 : execOp a.eval ⟨d, .call { callee := .value x, args := #[y, z], argTypes := ts }, ty, pos, after, gd⟩ = callFunc f (#[yv, zv] ++ cb) := by
  unfold execOp resolve
  simp [hx, hy, hz, Deferred.ofValue, invoke]
 have e2 : grow (w.drewN 0) #[] = w := by rw [grow_empty]; rfl
 rw [e2] at hc
 unfold Oper.wp
 rw [e1, hf]
 refine hc.mono fun e w' hr => ?_
 obtain ⟨v, rfl, hk⟩ := h e w' hr
 exact hk

set_option maxRecDepth 100000 in
set_option maxHeartbeats 8000000 in
/-- two ranges change places -/
theorem swap54_any (g : Nat) (cb : Array Value) (blk off cap a b n : Nat) (d0 d : Array RowR) (w0 w : World) (hR : RowK encR 9 w0 blk off d0) (hs : d0.size = d.size) (hS : SWK encR 9 w0 blk off d w) (hab : a + n ≤ b) (hb : b + n ≤ d.size) (hsz : d.size ≤ 1000) :
  Calls Tryz.prog 378 #[.slice (some ⟨blk, off, none⟩) d.size cap, .int .i64 (a : Nat), .int .i64 (b : Nat), .int .i64 (n : Nat), .func (.func g) #[] cb] w fun e w' => e = .returned (.tuple #[]) ∧ ∃ d' : Array RowR, d'.size = d.size ∧ atA d' = swF (atA d) a b n ∧ SWK encR 9 w0 blk off d' w' := by
 have R := Lib.hid hR
 have S0 := Lib.hid hS
 have D0 : Hid (atA d = swF (atA d) a b 0) := (swF_none _ _ _).symm
 have mixed : Tryz.prog.follows .mixedOrders = true := by kernel_rfl
 clear hR hS
 go_enter Tryz.func378, Tryz.ntmps378
 go_wp2
 go_loopw [10] (fun iv wr => ∃ (i : Nat) (dk : Array RowR), iv = .int .i64 ((i : Nat) : Int) ∧ i ≤ n ∧ dk.size = d.size ∧ Hid (atA dk = swF (atA d) a b i) ∧ Hid (SWK encR 9 w0 blk off dk wr)) (fun iv _ => n - (intOf iv).toNat)
 case atStart => exact ⟨0, d, rfl, by omega, rfl, D0.out, S0.out⟩
 case round =>
  clear S0 D0
  obtain ⟨i, dk, rfl, hin, hds, HD, S1⟩ := hrel
  by_cases hlt : i < n
  ·have hlz : (i : Int) < (n : Int) := by omega
   have HD2 : Hid (atA (swp dk (a + i) (b + i)) = swF (atA d) a b (i + 1)) := swF_step HD.out (by omega) (by omega)
   go_wp2_with fail
   refine wp_region_Z (S := fun w' => SWK encR 9 w0 blk off dk w') (Z := [21]) mixed ?_
   have SZ : Hid (SWK encR 9 w0 blk off dk wr.drew) := S1.out.drew
   generalize wr.drew = wz at SZ ⊢
   clear S1
   simp only [List.size_toArray, List.length_cons, List.length_nil]
   refine zLight (i := 0) rfl (by kernel_rfl) (by kernel_rfl) (by kernel_rfl) (by kernel_rfl) (fun _ _ _ h => h) rfl (fun _ => exMove (v := .slice (some ⟨blk, off, none⟩) d.size cap) rfl) (fun _ => SZ.out) ?_
   simp only [Act.put, List.setIfInBounds_toArray, List.set_cons_zero, List.set_cons_succ]
   refine zLight (i := 1) rfl (by kernel_rfl) (by kernel_rfl) (by kernel_rfl) (by kernel_rfl) (fun _ _ _ h => h) rfl (fun _ => exMove (v := .int .i64 ((a : Nat) : Int)) rfl) (fun _ => SZ.out) ?_
   simp only [Act.put, List.setIfInBounds_toArray, List.set_cons_zero, List.set_cons_succ]
   refine zLight (i := 2) rfl (by kernel_rfl) (by kernel_rfl) (by kernel_rfl) (by kernel_rfl) (fun _ _ _ h => h) rfl (fun _ => exMove (v := .int .i64 ((i : Nat) : Int)) rfl) (fun _ => SZ.out) ?_
   simp only [Act.put, List.setIfInBounds_toArray, List.set_cons_zero, List.set_cons_succ]
   refine zLight (i := 3) rfl (by kernel_rfl) (by kernel_rfl) (by kernel_rfl) (by kernel_rfl) (fun _ _ _ h => h) rfl (fun w' => exBin (v := .int .i64 ((a + i : Nat) : Int)) rfl rfl (by rfl) (nadd54 (a) (i) w' (by omega))) (fun _ => SZ.out) ?_
   simp only [Act.put, List.setIfInBounds_toArray, List.set_cons_zero, List.set_cons_succ]
   refine zLight (i := 4) rfl (by kernel_rfl) (by kernel_rfl) (by kernel_rfl) (by kernel_rfl) (fun _ _ _ h => h) rfl (fun _ => exMove (v := .slice (some ⟨blk, off, none⟩) d.size cap) rfl) (fun _ => SZ.out) ?_
   simp only [Act.put, List.setIfInBounds_toArray, List.set_cons_zero, List.set_cons_succ]
   refine zLight (i := 5) rfl (by kernel_rfl) (by kernel_rfl) (by kernel_rfl) (by kernel_rfl) (fun _ _ _ h => h) rfl (fun _ => exMove (v := .int .i64 ((b : Nat) : Int)) rfl) (fun _ => SZ.out) ?_
   simp only [Act.put, List.setIfInBounds_toArray, List.set_cons_zero, List.set_cons_succ]
   refine zLight (i := 6) rfl (by kernel_rfl) (by kernel_rfl) (by kernel_rfl) (by kernel_rfl) (fun _ _ _ h => h) rfl (fun _ => exMove (v := .int .i64 ((i : Nat) : Int)) rfl) (fun _ => SZ.out) ?_
   simp only [Act.put, List.setIfInBounds_toArray, List.set_cons_zero, List.set_cons_succ]
   refine zLight (i := 7) rfl (by kernel_rfl) (by kernel_rfl) (by kernel_rfl) (by kernel_rfl) (fun _ _ _ h => h) rfl (fun w' => exBin (v := .int .i64 ((b + i : Nat) : Int)) rfl rfl (by rfl) (nadd54 (b) (i) w' (by omega))) (fun _ => SZ.out) ?_
   simp only [Act.put, List.setIfInBounds_toArray, List.set_cons_zero, List.set_cons_succ]
   refine zLight (i := 8) rfl (by kernel_rfl) (by kernel_rfl) (by kernel_rfl) (by kernel_rfl) (fun _ _ _ h => h) rfl (fun _ => exMove (v := .slice (some ⟨blk, off, none⟩) d.size cap) rfl) (fun _ => SZ.out) ?_
   simp only [Act.put, List.setIfInBounds_toArray, List.set_cons_zero, List.set_cons_succ]
   refine zLight (i := 9) rfl (by kernel_rfl) (by kernel_rfl) (by kernel_rfl) (by kernel_rfl) (fun _ _ _ h => h) rfl (fun _ => exMove (v := .int .i64 ((b : Nat) : Int)) rfl) (fun _ => SZ.out) ?_
   simp only [Act.put, List.setIfInBounds_toArray, List.set_cons_zero, List.set_cons_succ]
   refine zLight (i := 10) rfl (by kernel_rfl) (by kernel_rfl) (by kernel_rfl) (by kernel_rfl) (fun _ _ _ h => h) rfl (fun _ => exMove (v := .int .i64 ((i : Nat) : Int)) rfl) (fun _ => SZ.out) ?_
   simp only [Act.put, List.setIfInBounds_toArray, List.set_cons_zero, List.set_cons_succ]
   refine zLight (i := 11) rfl (by kernel_rfl) (by kernel_rfl) (by kernel_rfl) (by kernel_rfl) (fun _ _ _ h => h) rfl (fun w' => exBin (v := .int .i64 ((b + i : Nat) : Int)) rfl rfl (by rfl) (nadd54 (b) (i) w' (by omega))) (fun _ => SZ.out) ?_
   simp only [Act.put, List.setIfInBounds_toArray, List.set_cons_zero, List.set_cons_succ]
   refine zLight (i := 12) rfl (by kernel_rfl) (by kernel_rfl) (by kernel_rfl) (by kernel_rfl) (fun _ _ _ h => h) rfl (fun w' => exIndex rfl rfl (indexRowS blk off d.size cap (b + i) (by omega) w')) (fun _ => SZ.out) ?_
   simp only [Act.put, List.setIfInBounds_toArray, List.set_cons_zero, List.set_cons_succ]
   refine zV (i := 13) rfl (by kernel_rfl) (by kernel_rfl) (by kernel_rfl) (by kernel_rfl) (by kernel_rfl) (fun _ _ _ h => h) rfl (fun w' hX => exMid rfl (swk_range hX R.out (by omega) (i := b + i) (by omega)) underRow rfl infoRow) SZ.out ?_
   simp only [Act.put, List.setIfInBounds_toArray, List.set_cons_zero, List.set_cons_succ]
   refine zLight (i := 14) rfl (by kernel_rfl) (by kernel_rfl) (by kernel_rfl) (by kernel_rfl) (fun _ _ _ h => h) rfl (fun _ => exMove (v := .slice (some ⟨blk, off, none⟩) d.size cap) rfl) (fun _ => SZ.out) ?_
   simp only [Act.put, List.setIfInBounds_toArray, List.set_cons_zero, List.set_cons_succ]
   refine zLight (i := 15) rfl (by kernel_rfl) (by kernel_rfl) (by kernel_rfl) (by kernel_rfl) (fun _ _ _ h => h) rfl (fun _ => exMove (v := .int .i64 ((a : Nat) : Int)) rfl) (fun _ => SZ.out) ?_
   simp only [Act.put, List.setIfInBounds_toArray, List.set_cons_zero, List.set_cons_succ]
   refine zLight (i := 16) rfl (by kernel_rfl) (by kernel_rfl) (by kernel_rfl) (by kernel_rfl) (fun _ _ _ h => h) rfl (fun _ => exMove (v := .int .i64 ((i : Nat) : Int)) rfl) (fun _ => SZ.out) ?_
   simp only [Act.put, List.setIfInBounds_toArray, List.set_cons_zero, List.set_cons_succ]
   refine zLight (i := 17) rfl (by kernel_rfl) (by kernel_rfl) (by kernel_rfl) (by kernel_rfl) (fun _ _ _ h => h) rfl (fun w' => exBin (v := .int .i64 ((a + i : Nat) : Int)) rfl rfl (by rfl) (nadd54 (a) (i) w' (by omega))) (fun _ => SZ.out) ?_
   simp only [Act.put, List.setIfInBounds_toArray, List.set_cons_zero, List.set_cons_succ]
   refine zLight (i := 18) rfl (by kernel_rfl) (by kernel_rfl) (by kernel_rfl) (by kernel_rfl) (fun _ _ _ h => h) rfl (fun w' => exIndex rfl rfl (indexRowS blk off d.size cap (a + i) (by omega) w')) (fun _ => SZ.out) ?_
   simp only [Act.put, List.setIfInBounds_toArray, List.set_cons_zero, List.set_cons_succ]
   refine zV (i := 19) rfl (by kernel_rfl) (by kernel_rfl) (by kernel_rfl) (by kernel_rfl) (by kernel_rfl) (fun _ _ _ h => h) rfl (fun w' hX => exMid rfl (swk_range hX R.out (by omega) (i := a + i) (by omega)) underRow rfl infoRow) SZ.out ?_
   simp only [Act.put, List.setIfInBounds_toArray, List.set_cons_zero, List.set_cons_succ]
   refine zLight (i := 20) rfl (by kernel_rfl) (by kernel_rfl) (by kernel_rfl) (by kernel_rfl) (fun _ _ _ h => h) rfl (fun w' => exIndex rfl rfl (indexRowS blk off d.size cap (a + i) (by omega) w')) (fun _ => SZ.out) ?_
   simp only [Act.put, List.setIfInBounds_toArray, List.set_cons_zero, List.set_cons_succ]
   refine wpAnyZ_all (rs := [21]) (by kernel_rfl) (by simp) ?_
   intro i hi
   simp only [List.mem_cons, List.not_mem_nil, or_false] at hi
   subst hi
   refine wpOp_of rfl rfl (wp_store_midN (b := blk) (o := off + (a + i) * 9) (cs := encR dk[b + i]!) rfl rfl (swk_there SZ.out R.out (by omega) dk[b + i]! (i := a + i) (by omega)) infoRow (all_oneCell_toArray (encR_one _)) ?_)
   refine ⟨noZ (by kernel_rfl), ?_⟩
   obtain ⟨w8, e8⟩ : ∃ w8, w8 = wz.setCells blk (off + (a + i) * 9) (encR dk[b + i]!) := ⟨_, rfl⟩
   rw [← e8]
   have E8 := Lib.hid e8
   clear e8
   refine zLight (i := 22) rfl (by kernel_rfl) (by kernel_rfl) (by kernel_rfl) (by kernel_rfl) (fun _ _ _ h => h) rfl (fun w' => exIndex rfl rfl (indexRowS blk off d.size cap (b + i) (by omega) w')) (noZ (by kernel_rfl)) ?_
   simp only [Act.put, List.setIfInBounds_toArray, List.set_cons_zero, List.set_cons_succ]
   refine wpAnyZ_all (rs := [23]) (by kernel_rfl) (by simp) ?_
   intro i hi
   simp only [List.mem_cons, List.not_mem_nil, or_false] at hi
   subst hi
   have TZ : Hid (w8.there blk (off + (b + i) * 9) (encR dk[a + i]!).toArray.size) := by rw [E8.out]; exact World.there_setCells (swk_there SZ.out R.out (by omega) dk[a + i]! (i := b + i) (by omega)) _ _ _
   refine wpOp_of rfl rfl (wp_store_midN (b := blk) (o := off + (b + i) * 9) (cs := encR dk[a + i]!) rfl rfl (TZ.out) infoRow (all_oneCell_toArray (encR_one _)) ?_)
   refine ⟨noZ (by kernel_rfl), ?_⟩
   refine wpAnyZ_done (by kernel_rfl) ?_ _
   have SW : Hid (SWK encR 9 w0 blk off (swp dk (a + i) (b + i)) (w8.setCells blk (off + (b + i) * 9) (encR dk[a + i]!))) := by rw [E8.out]; exact SZ.out.swap encR_len R.out.hblk (a + i) (b + i) (by omega) (by omega)
   clear SZ TZ E8
   generalize (w8.setCells blk (off + (b + i) * 9) (encR dk[a + i]!)) = w9 at SW ⊢
   go_wp2
   go_roundw
   case rel => exact ⟨i + 1, swp dk (a + i) (b + i), by go_num, by omega, by rw [size_swp]; exact hds, HD2.out, SW.out⟩
   case measure => simp [intOf]; omega
  ·have hlz : ¬ (i : Int) < (n : Int) := by omega
   have e : i = n := by omega
   subst e
   go_wp2
   go_end0
   exact ⟨rfl, dk, hds, HD.out, S1.out⟩
end Go.Proofs.YtihggkmjalofiaaGreatDoor

/- slices.SortStableFunc at a census' rows: rotating and merging walked. -/
namespace Go.Proofs.YtihggkmjalofiaaGreatDoor
open Go.RowKit Go.Sort Go.Lib Go.Shelf

theorem ltI54 (x y : Nat) (b : Bool) (h : decide (x < y) = b) (w : World) : (binOp .lss 3 (.int .i64 ((x : Nat) : Int)) (.int .i64 ((y : Nat) : Int))).run Tryz.prog w = .ok (.bool b) w := by
 simp [go_sem, h]
theorem lss54 (z : Int) (b : Bool) (h : decide (z < 0) = b) (w : World) : (binOp .lss 3 (.int .i64 z) (.int .i64 0)).run Tryz.prog w = .ok (.bool b) w := by
 simp [go_sem, h]
def LessIs (cf : RowR → RowR → Int) (k : RowR → Int) : Prop := ∀ x y, cf x y < 0 ↔ k y < k x
theorem less_yes {cf : RowR → RowR → Int} {k : RowR → Int} (h : LessIs cf k) {x y : RowR} (hk : k y < k x) : decide (cf x y < 0) = true := decide_eq_true ((h x y).2 hk)
theorem less_no {cf : RowR → RowR → Int} {k : RowR → Int} (h : LessIs cf k) {x y : RowR} (hk : ¬ k y < k x) : decide (cf x y < 0) = false := decide_eq_false fun e => hk ((h x y).1 e)

set_option maxRecDepth 100000 in
set_option maxHeartbeats 8000000 in
/-- two neighbouring ranges change places -/
theorem rot54_any (g : Nat) (cb : Array Value) (blk off cap a m b : Nat) (d0 d : Array RowR) (w0 w : World) (hR : RowK encR 9 w0 blk off d0) (hs : d0.size = d.size) (hS : SWK encR 9 w0 blk off d w) (ham : a < m) (hmb : m < b) (hb : b ≤ d.size) (hsz : d.size ≤ 1000) :
  Calls Tryz.prog 335 #[.slice (some ⟨blk, off, none⟩) d.size cap, .int .i64 (a : Nat), .int .i64 (m : Nat), .int .i64 (b : Nat), .func (.func g) #[] cb] w fun e w' => e = .returned (.tuple #[]) ∧ ∃ d' : Array RowR, d'.size = d.size ∧ atA d' = rotF (atA d) a m b ∧ SWK encR 9 w0 blk off d' w' := by
 have R := Lib.hid hR
 have S0 := Lib.hid hS
 have HS := Lib.hid hs
 have D0 : Hid (rotF (atA d) (m - (m - a)) m (m + (b - m)) = rotF (atA d) a m b) := by
  rw [show m - (m - a) = a by omega, show m + (b - m) = b by omega]; rfl
 obtain ⟨i0, hi0⟩ : ∃ x, x = m - a := ⟨_, rfl⟩
 obtain ⟨j0, hj0⟩ : ∃ x, x = b - m := ⟨_, rfl⟩
 rw [← hi0, ← hj0] at D0
 have F0 : 0 < i0 ∧ 0 < j0 ∧ i0 ≤ m ∧ m + j0 ≤ d.size := by omega
 have HI0 := Lib.hid hi0
 have HJ0 := Lib.hid hj0
 clear hR hS hs hi0 hj0
 go_enter Tryz.func335, Tryz.ntmps335
 go_wp2_with fail
 rw [show ((m : Nat) : Int) - ((a : Nat) : Int) = ((i0 : Nat) : Int) by have := HI0.out; omega]
 rw [show ((b : Nat) : Int) - ((m : Nat) : Int) = ((j0 : Nat) : Int) by have := HJ0.out; omega]
 clear HI0 HJ0
 go_loopw [10, 11] (fun iv jv wr => ∃ (i j : Nat) (dk : Array RowR), iv = .int .i64 ((i : Nat) : Int) ∧ jv = .int .i64 ((j : Nat) : Int) ∧ 0 < i ∧ 0 < j ∧ i ≤ m ∧ m + j ≤ d.size ∧ Hid (dk.size = d.size) ∧ Hid (rotF (atA dk) (m - i) m (m + j) = rotF (atA d) a m b) ∧ Hid (SWK encR 9 w0 blk off dk wr)) (fun iv jv _ => (intOf iv).toNat + (intOf jv).toNat)
 case atStart => exact ⟨i0, j0, d, rfl, rfl, F0.1, F0.2.1, F0.2.2.1, F0.2.2.2, rfl, D0.out, S0.out⟩
 case round =>
  clear S0 D0 F0
  obtain ⟨i, j, dk, rfl, rfl, hi, hj, him, hjd, HD, HE, S1⟩ := hrel
  have hsk : Hid (d0.size = dk.size) := HS.out.trans HD.out.symm
  obtain ⟨p, hp⟩ : ∃ x, x = m - i := ⟨_, rfl⟩
  have HP := Lib.hid hp
  rw [← hp] at HE
  clear hp
  by_cases h1 : i = j
  ·subst h1
   have hc := Lib.hid (swap54_any g cb blk off cap p m i d0 dk w0 wr R.out hsk.out S1.out (by have := HP.out; omega) (by rw [HD.out]; omega) (by rw [HD.out]; omega))
   rw [HD.out] at hc
   go_wp2_with fail
   rw [show ((m : Nat) : Int) - ((i : Nat) : Int) = ((p : Nat) : Int) by have := HP.out; omega]
   refine hc.out.mono ?_
   rintro e w2 ⟨rfl, d2, hd2, e2, s2⟩
   have HQ := Lib.hid (And.intro hd2 (And.intro e2 s2))
   clear hd2 e2 s2 hc
   go_wp2
   go_end0
   refine ⟨rfl, d2, HQ.out.1, ?_, HQ.out.2.2⟩
   rw [HQ.out.2.1, ← HE.out, HP.out]
   exact rot_same him
  ·by_cases h2 : j < i
   ·have hc := Lib.hid (swap54_any g cb blk off cap p m j d0 dk w0 wr R.out hsk.out S1.out (by have := HP.out; omega) (by rw [HD.out]; omega) (by rw [HD.out]; omega))
    rw [HD.out] at hc
    obtain ⟨i2, hi2⟩ : ∃ x, x = i - j := ⟨_, rfl⟩
    have F2 : 0 < i2 ∧ i2 ≤ m ∧ i2 < i := by omega
    have HI2 := Lib.hid hi2
    clear hi2
    have hz0 : ¬ ((i : Nat) : Int) = ((j : Nat) : Int) := by omega
    have hz1 : ((j : Nat) : Int) < ((i : Nat) : Int) := by omega
    go_wp2_with fail
    rw [show ((m : Nat) : Int) - ((i : Nat) : Int) = ((p : Nat) : Int) by have := HP.out; omega]
    refine hc.out.mono ?_
    rintro e w2 ⟨rfl, d2, hd2, e2, s2⟩
    have HD2 := Lib.hid hd2
    have HE2 : Hid (rotF (atA d2) (m - i2) m (m + j) = rotF (atA d) a m b) := by
     rw [e2, ← HE.out, HI2.out, HP.out]
     exact rot_big him h2
    have S2 := Lib.hid s2
    clear hd2 e2 s2 hc
    go_wp2_with fail
    rw [show ((i : Nat) : Int) - ((j : Nat) : Int) = ((i2 : Nat) : Int) by have := HI2.out; omega]
    go_roundw
    case rel => exact ⟨i2, j, d2, rfl, rfl, F2.1, hj, F2.2.1, hjd, HD2.out, HE2.out, S2.out⟩
    case measure => simp [intOf]; omega
   ·obtain ⟨q1, hq1⟩ : ∃ x, x = m + j := ⟨_, rfl⟩
    obtain ⟨q2, hq2⟩ : ∃ x, x = q1 - i := ⟨_, rfl⟩
    obtain ⟨j2, hj2⟩ : ∃ x, x = j - i := ⟨_, rfl⟩
    have F2 : 0 < j2 ∧ m + j2 ≤ d.size ∧ j2 < j ∧ i ≤ q1 ∧ q1 ≤ 1000 := by omega
    have hc := Lib.hid (swap54_any g cb blk off cap p q2 i d0 dk w0 wr R.out hsk.out S1.out (by have := HP.out; omega) (by rw [HD.out]; omega) (by rw [HD.out]; omega))
    rw [HD.out] at hc
    have HQ1 := Lib.hid hq1
    have HQ2 := Lib.hid hq2
    have HJ2 := Lib.hid hj2
    clear hq1 hq2 hj2
    have hz0 : ¬ ((i : Nat) : Int) = ((j : Nat) : Int) := by omega
    have hz1 : ¬ ((j : Nat) : Int) < ((i : Nat) : Int) := by omega
    go_wp2_with fail
    rw [show ((m : Nat) : Int) - ((i : Nat) : Int) = ((p : Nat) : Int) by have := HP.out; omega]
    rw [show ((m : Nat) : Int) + ((j : Nat) : Int) - ((i : Nat) : Int) = ((q2 : Nat) : Int) by have := And.intro HQ1.out HQ2.out; omega]
    refine hc.out.mono ?_
    rintro e w2 ⟨rfl, d2, hd2, e2, s2⟩
    have HD2 := Lib.hid hd2
    have HE2 : Hid (rotF (atA d2) (m - i) m (m + j2) = rotF (atA d) a m b) := by
     rw [e2, ← HE.out, HQ2.out, HQ1.out, HJ2.out, HP.out]
     exact rot_small him (by omega)
    have S2 := Lib.hid s2
    clear hd2 e2 s2 hc
    go_wp2_with fail
    rw [show ((j : Nat) : Int) - ((i : Nat) : Int) = ((j2 : Nat) : Int) by have := HJ2.out; omega]
    go_roundw
    case rel => exact ⟨i, j2, d2, rfl, rfl, hi, F2.1, him, F2.2.1, HD2.out, HE2.out, S2.out⟩
    case measure => simp [intOf]; omega
end Go.Proofs.YtihggkmjalofiaaGreatDoor
