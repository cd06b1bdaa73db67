/- The sum of bytes: going on with a block: walked. -/
import Derived.Test.YtihggkmjalofiaaGreatDoorShae
namespace Go.Proofs.YtihggkmjalofiaaGreatDoor
open Go.RowKit

theorem cellsS_size (l : List W32) : (cellsS l).size = l.length := by unfold cellsS; simp
theorem atS_get {s : List W32} {j : Nat} (h : j < s.length) : s[j]? = some (atS s j) := by
  unfold atS
  rw [List.getD_eq_getElem?_getD, List.getElem?_eq_getElem h]
  rfl
/-- the program's constants, as they lie -/
abbrev ShaK (w : World) : Prop := Lib.TabIs Tryz.prog w "bruit/sha.constants" .u32 (kS.map fun r => ((r.toNat : Nat) : Int))
theorem gShaK : Tryz.prog.globalNamed "bruit/sha.constants" = some 1 := by kernel_rfl
theorem shaK_lt {w : World} (h : ShaK w) : 1 < w.heap.size := by
  rcases Nat.lt_or_ge 1 w.heap.size with h0 | h0
  · exact h0
  · unfold ShaK Lib.TabIs World.var? at h
    rw [gShaK] at h
    simp [Array.getElem?_eq_none h0] at h
theorem shaK_ext {w w' : World} (h : ShaK w) (hb : Below w.heap.size w w') : ShaK w' := by
  have he := hb.block 1 (shaK_lt h)
  unfold ShaK Lib.TabIs at *
  rw [← h]
  unfold World.var?
  rw [gShaK]
  simp only [Option.bind_some, he]
theorem shaK_cell {w : World} (h : ShaK w) {k : Nat} (hk : k < 64) : w.cell? ⟨1, k, none⟩ = some (u32S (atS kS k)) := by
  have hl : k < kS.length := hk
  rw [Lib.TabIs.cell h gShaK k (by rw [List.length_map]; exact hl)]
  unfold u32S atS
  rw [List.getD_eq_getElem?_getD, List.getElem?_map, List.getD_eq_getElem?_getD, List.getElem?_eq_getElem hl]
  rfl
theorem wpList_ix {P : Program} {ops : Array Oper} {rest : List Oper} {a : Act} {w : World} {Q : Exit → Act → World → Prop} {d : Option Tmp} {ty t : TypeId} {pos : String} {after : Array Edge} {x y : Operand} {xv yv v : Value} (hx : a.eval x = xv) (hy : a.eval y = yv) (hr : (Instr.index t xv yv).run P w = .ok v w)
    (h : wpList P ops Q rest (a.put d v) w) : wpList P ops Q (⟨d, .index t x y, ty, pos, after, none⟩ :: rest) a w :=
  wpList_plain rfl fun _ hK => by
    unfold Oper.wp execOp
    simp only [hx, hy, Sem.run_bind, hr, Result.andThen_ok, Sem.run_pure]
    exact hK _ _ h
theorem ix64S (W : List W32) (hW : W.length = 64) {k : Nat} (hk : k < 64) (w : World) : (Instr.index 315 (.agg (cellsS W)) (.int .i64 ((k : Nat) : Int))).run Tryz.prog w = .ok (u32S (atS W k)) w := by
  have h2 : (cellsS W)[k]? = some (u32S (atS W k)) := by
    unfold cellsS
    rw [List.getElem?_toArray, List.getElem?_map, atS_get (by omega)]
    rfl
  generalize cellsS W = C at *
  have hs : k < C.size := by
    rcases Nat.lt_or_ge k C.size with h | h
    · exact h
    · rw [Array.getElem?_eq_none h] at h2; cases h2
  have h3 : ((k : Nat) : Int).toNat = k := by omega
  simp [Instr.index, run_underlying Tryz.underlying315, asIntOf, part, go_sem, h2, h3]
  intro h5
  omega
theorem buildS8 (a b c d e f g h : W32) (w : World) : (Instr.build 236 #[(0, u32S a), (1, u32S b), (2, u32S c), (3, u32S d), (4, u32S e), (5, u32S f), (6, u32S g), (7, u32S h)]).run Tryz.prog w = .ok (.agg (cellsS [a, b, c, d, e, f, g, h])) w := by kernel_rfl
def sumN (h s : List W32) (i : Nat) : List W32 := (List.range 8).map fun j => if j < i then atS h j + atS s j else atS h j
theorem sumN_len (h s : List W32) (i : Nat) : (sumN h s i).length = 8 := by unfold sumN; simp
theorem sumN_zero {h s : List W32} (hh : h.length = 8) : sumN h s 0 = h := by
  unfold sumN
  apply List.ext_getElem
  · simp [hh]
  · intro j h1 h2
    simp [atS, List.getD_eq_getElem?_getD, List.getElem?_eq_getElem h2]
theorem sumN_at {h s : List W32} {i : Nat} (hi : i < 8) : atS (sumN h s i) i = atS h i := by
  unfold sumN
  rw [atS, List.getD_eq_getElem?_getD, List.getElem?_map, List.getElem?_range hi]
  simp
theorem sumN_get (h s : List W32) (i j : Nat) : (sumN h s i)[j]? = if j < 8 then some (if j < i then atS h j + atS s j else atS h j) else none := by
  unfold sumN
  rw [List.getElem?_map]
  by_cases hj : j < 8
  · rw [List.getElem?_range hj, if_pos hj]; rfl
  · rw [List.getElem?_eq_none (by rw [List.length_range]; omega), if_neg hj]; rfl
theorem sumN_set {h s : List W32} {i : Nat} (hi : i < 8) : (sumN h s i).set i (atS h i + atS s i) = sumN h s (i + 1) := by
  apply List.ext_getElem?
  intro j
  rw [List.getElem?_set, sumN_len, sumN_get, sumN_get]
  by_cases e : i = j
  · subst e
    rw [if_pos rfl, if_pos hi, if_pos hi, if_pos (Nat.lt_succ_self _)]
  · rw [if_neg e]
    by_cases e2 : j < i
    · rw [if_pos e2, if_pos (show j < i + 1 by omega)]
    · rw [if_neg e2, if_neg (show ¬ j < i + 1 by omega)]
theorem sumN_all (h s : List W32) : sumN h s 8 = sumsS h s := by
  unfold sumN sumsS
  apply List.map_congr_left
  intro j hj
  rw [if_pos (List.mem_range.1 hj)]
set_option maxRecDepth 100000 in
set_option maxHeartbeats 16000000 in
/-- going on with a block -/
theorem block_any (h : List W32) (hh : h.length = 8) (l : List UInt8) (w : World) (A : Option Addr) (c : Nat) (hS : Sl w w.heap.size 1 A 64 (encB l)) (hl : l.length = 64) (hK : ShaK w) :
    Calls Tryz.prog 143 #[.agg (cellsS h), .slice A 64 c] w (RetB w (.agg (cellsS (blockS kS h l)))) := by
  have HH := Lib.hid hh
  have HS := Lib.hid hS
  have HL := Lib.hid hl
  have HK := Lib.hid hK
  have hcR : ∀ args w, (callFunc 227 args).run Tryz.prog w = .ok (.enter 227 args) w := enters_of Tryz.func227 (by kernel_rfl) rfl
  clear hh hS hl hK
  have BLK : Hid (sumsS h (roundsS kS (spreadS l 64) h 64) = blockS kS h l) := rfl
  have KHa : Hid (Blk ((w.alloc (.cells (cellsS h) 236)).alloc (.cells (cellsS (List.replicate 8 0#32)) 236)) w.heap.size 236 (cellsS h)) := (Blk.new _ _ _).alloc _
  have K4a : Hid (Blk ((w.alloc (.cells (cellsS h) 236)).alloc (.cells (cellsS (List.replicate 8 0#32)) 236)) (w.heap.size + 1) 236 (cellsS (List.replicate 8 0#32))) := Blk.newAt (by simp) _ _
  have Ba : Hid (Below w.heap.size w ((w.alloc (.cells (cellsS h) 236)).alloc (.cells (cellsS (List.replicate 8 0#32)) 236))) := (below_new _ _).alloc (by simp) _
  have e1 : Hid ((w.alloc (.cells (cellsS h) 236)).heap.size = w.heap.size + 1) := by rw [Hid]; simp
  go_enter Tryz.func143, Tryz.ntmps143
  go_upto_region 1 with (refine wpList_alloced (allocS8 _) ?_)
  try rw [e1.out]
  clear e1
  have hlt0 : Hid (w.heap.size + 1 < ((w.alloc (.cells (cellsS h) 236)).alloc (.cells (cellsS (List.replicate 8 0#32)) 236)).heap.size) := K4a.out.lt
  generalize ((w.alloc (.cells (cellsS h) 236)).alloc (.cells (cellsS (List.replicate 8 0#32)) 236)) = wa at *
  obtain ⟨g4, hg4⟩ : ∃ g, g = w.heap.size + 1 := ⟨_, rfl⟩
  obtain ⟨gh, hgh⟩ : ∃ g, g = w.heap.size := ⟨_, rfl⟩
  rw [← hg4] at K4a hlt0 ⊢
  rw [← hgh] at KHa ⊢
  have gOk : Hid (w.heap.size ≤ gh ∧ w.heap.size ≤ g4 ∧ gh ≠ g4) := by rw [Hid]; omega
  have KZ : Hid (Blk (wa.alloc (.cells (cellsS (List.replicate 8 0#32)) 236)) wa.heap.size 236 (cellsS (List.replicate 8 0#32))) := Blk.new _ _ _
  have KS0 : Hid (Blk ((wa.alloc (.cells (cellsS (List.replicate 8 0#32)) 236)).setRow wa.heap.size (cellsS h)) wa.heap.size 236 (cellsS h)) := KZ.out.row _
  have BN : Hid (Below wa.heap.size wa ((wa.alloc (.cells (cellsS (List.replicate 8 0#32)) 236)).setRow wa.heap.size (cellsS h))) := below_setRow (below_new wa _) (Nat.le_refl _) _
  have sOk : Hid (w.heap.size ≤ wa.heap.size ∧ wa.heap.size ≠ gh ∧ wa.heap.size ≠ g4) := by have := hlt0.out; have := Ba.out.size; rw [Hid]; omega
  clear hg4 hgh hlt0
  go_upto_region 2 with (first
    | (refine wpList_load_row rfl 236 _ (by rfl) gh (by rfl) _ _ _ _ KHa.out Tryz.underlying236 rfl (by rw [infoS8, cellsS_size, HH.out]) ?_)
    | (refine wpList_alloced (allocS8 _) ?_)
    | (refine wpList_store_row rfl 236 _ _ (by rfl) wa.heap.size (cellsS h) (by rfl) (by rfl) _ _ KZ.out (by rw [infoS8, cellsS_size, HH.out]) (by rw [cellsS_size, cellsS_size, HH.out]; rfl) (cellsS_one _) ?_))
  have KH0 := Lib.hid (KHa.out.ext BN.out)
  have K40 := Lib.hid (K4a.out.ext BN.out)
  have B0 := Lib.hid (Ba.out.trans (BN.out.mono Ba.out.size))
  generalize ((wa.alloc (.cells (cellsS (List.replicate 8 0#32)) 236)).setRow wa.heap.size (cellsS h)) = w1 at *
  generalize wa.heap.size = gs at *
  clear KHa K4a Ba KZ BN
  have HC := Lib.hid (spread_any l w1 A c ((HS.out.below B0.out (Nat.le_refl _)).more B0.out.size) HL.out)
  go_wp2_with fail
  refine HC.out.mono ?_
  rintro e w2 ⟨rfl, b2⟩
  have KH2 := Lib.hid (KH0.out.ext b2)
  have K42 := Lib.hid (K40.out.ext b2)
  have KS2 := Lib.hid (KS0.out.ext b2)
  have B2 := Lib.hid (B0.out.trans (b2.mono B0.out.size))
  clear b2 HC KH0 K40 KS0 B0
  obtain ⟨W, hW⟩ : ∃ W, W = spreadS l 64 := ⟨_, rfl⟩
  have HW : Hid (W.length = 64) := by rw [Hid, hW, spreadS_len]
  rw [← hW] at BLK ⊢
  clear hW
  go_wp2_with fail
  go_loopw [16] (fun iv wr => ∃ i : Nat, i ≤ 64 ∧ iv = .int .i64 ((i : Nat) : Int) ∧ Hid (Blk wr gs 236 (cellsS (roundsS kS W h i))) ∧ Hid (Blk wr gh 236 (cellsS h)) ∧ Hid (Blk wr g4 236 (cellsS (List.replicate 8 0#32))) ∧ Hid (Below w.heap.size w wr)) (fun iv _ => 64 - (intOf iv).toNat)
  case atStart => exact ⟨0, Nat.zero_le _, rfl, KS2.out, KH2.out, K42.out, B2.out⟩
  case round =>
    clear KS2 KH2 K42 B2
    obtain ⟨i, hi, rfl, KS, KH, K4, B⟩ := hrel
    by_cases hlt : i < 64
    · have hlz : (i : Int) < 64 := by omega
      have gK : Hid (1 < wr.heap.size) := Nat.lt_of_lt_of_le (shaK_lt HK.out) B.out.size
      have FK : Hid (∀ j, j < 64 → wr.cell? ⟨1, j, none⟩ = some (u32S (atS kS j))) := fun j hj => shaK_cell (shaK_ext HK.out B.out) hj
      obtain ⟨s, hs⟩ : ∃ s, s = roundsS kS W h i := ⟨_, rfl⟩
      have HSl : Hid (s.length = 8) := by rw [Hid, hs]; exact roundsS_len HH.out i
      have ST : Hid (stepS s (atS kS i) (atS W i) = roundsS kS W h (i + 1)) := by rw [Hid, roundsS, hs]
      rw [← hs] at KS
      clear hs
      obtain ⟨x, hx⟩ : ∃ x, x = atS W i := ⟨_, rfl⟩
      have IXW : Hid (∀ u : World, (Instr.index 315 (.agg (cellsS W)) (.int .i64 ((i : Nat) : Int))).run Tryz.prog u = .ok (u32S x) u) := fun u => by rw [hx]; exact ix64S W HW.out hlt u
      rw [← hx] at ST
      clear hx
      go_upto_region 5 with ((with_reducible refine wpList_ix ?_ ?_ (IXW.out _) ?_); rfl; rfl)
      clear IXW
      have KHl : Hid (h.length = 8) := HH.out
      refine wp_region_Z (S := fun w' => Below wr.heap.size wr w') (Z := []) mixedS ?_
      have BD : Hid (Below wr.heap.size wr wr.drew) := (Below.refl _ _).drew
      generalize wr.drew = wd at *
      simp only [List.size_toArray, List.length_cons, List.length_nil]
      refine zLight (i := 0) rfl (by kernel_rfl) (by kernel_rfl) (by kernel_rfl) (by kernel_rfl) (fun _ _ _ h => h) rfl (fun w' => exIndex (v := .pointer (some ⟨gs, 0, none⟩)) rfl rfl (index8_sh gs (0) (by omega) w')) (fun _ => BD.out) ?_
      simp only [Act.put, List.setIfInBounds_toArray, List.set_cons_zero, List.set_cons_succ]
      refine zV (i := 1) rfl (by kernel_rfl) (by kernel_rfl) (by kernel_rfl) (by kernel_rfl) (by kernel_rfl) (fun _ _ _ h => h) rfl (fun w' h => exLoad (v := u32S (atS s (0))) rfl (load_sh gs (0) (atS s (0)) w' (blkS_cell (KS.out.ext h) (atS_get (by rw [HSl.out]; omega))))) BD.out ?_
      simp only [Act.put, List.setIfInBounds_toArray, List.set_cons_zero, List.set_cons_succ]
      refine zLight (i := 2) rfl (by kernel_rfl) (by kernel_rfl) (by kernel_rfl) (by kernel_rfl) (fun _ _ _ h => h) rfl (fun w' => exIndex (v := .pointer (some ⟨gs, 4, none⟩)) rfl rfl (index8_sh gs (4) (by omega) w')) (fun _ => BD.out) ?_
      simp only [Act.put, List.setIfInBounds_toArray, List.set_cons_zero, List.set_cons_succ]
      refine zV (i := 3) rfl (by kernel_rfl) (by kernel_rfl) (by kernel_rfl) (by kernel_rfl) (by kernel_rfl) (fun _ _ _ h => h) rfl (fun w' h => exLoad (v := u32S (atS s (4))) rfl (load_sh gs (4) (atS s (4)) w' (blkS_cell (KS.out.ext h) (atS_get (by rw [HSl.out]; omega))))) BD.out ?_
      simp only [Act.put, List.setIfInBounds_toArray, List.set_cons_zero, List.set_cons_succ]
      refine zLight (i := 4) rfl (by kernel_rfl) (by kernel_rfl) (by kernel_rfl) (by kernel_rfl) (fun _ _ _ h => h) rfl (fun _ => exAssign (v := u32S (atS s (0))) rfl) (fun _ => BD.out) ?_
      simp only [Act.put, List.setIfInBounds_toArray, List.set_cons_zero, List.set_cons_succ]
      refine zLight (i := 5) rfl (by kernel_rfl) (by kernel_rfl) (by kernel_rfl) (by kernel_rfl) (fun _ _ _ h => h) rfl (fun _ => exAssign (v := u32S (atS s (4))) rfl) (fun _ => BD.out) ?_
      simp only [Act.put, List.setIfInBounds_toArray, List.set_cons_zero, List.set_cons_succ]
      refine wpAnyZ_done (by kernel_rfl) ?_ _
      have B5 := Lib.hid (B.out.trans (BD.out.mono B.out.size))
      have KS5 := Lib.hid (KS.out.ext BD.out)
      have KH5 := Lib.hid (KH.out.ext BD.out)
      have K45 := Lib.hid (K4.out.ext BD.out)
      have gK5 : Hid (1 < wd.heap.size) := Nat.lt_of_lt_of_le gK.out BD.out.size
      have FK5 : Hid (∀ j, j < 64 → wd.cell? ⟨1, j, none⟩ = some (u32S (atS kS j))) := fun j hj => (BD.out.cell gK.out).trans (FK.out j hj)
      clear B KS KH K4 gK FK BD
      have B := B5
      have KS := KS5
      have KH := KH5
      have K4 := K45
      have gK := gK5
      have FK := FK5
      clear B5 KS5 KH5 K45 gK5 FK5
      obtain ⟨w5, rfl⟩ : ∃ x, x = wd := ⟨_, rfl⟩
      obtain ⟨a, ha⟩ : ∃ a, atS s 0 = a := ⟨_, rfl⟩
      obtain ⟨e, he⟩ : ∃ e, atS s 4 = e := ⟨_, rfl⟩
      rw [ha, he]
      have HA := Lib.hid ha
      have HE := Lib.hid he
      clear ha he
      go_upto_region 6 with fail
      refine wp_region_Z (S := fun w' => Below w5.heap.size w5 w') (Z := []) mixedS ?_
      have BD : Hid (Below w5.heap.size w5 w5.drew) := (Below.refl _ _).drew
      generalize w5.drew = wd at *
      simp only [List.size_toArray, List.length_cons, List.length_nil]
      refine zLight (i := 0) rfl (by kernel_rfl) (by kernel_rfl) (by kernel_rfl) (by kernel_rfl) (fun _ _ _ h => h) rfl (fun w' => exIndex (v := .pointer (some ⟨gs, 7, none⟩)) rfl rfl (index8_sh gs (7) (by omega) w')) (fun _ => BD.out) ?_
      simp only [Act.put, List.setIfInBounds_toArray, List.set_cons_zero, List.set_cons_succ]
      refine zV (i := 1) rfl (by kernel_rfl) (by kernel_rfl) (by kernel_rfl) (by kernel_rfl) (by kernel_rfl) (fun _ _ _ h => h) rfl (fun w' h => exLoad (v := u32S (atS s (7))) rfl (load_sh gs (7) (atS s (7)) w' (blkS_cell (KS.out.ext h) (atS_get (by rw [HSl.out]; omega))))) BD.out ?_
      simp only [Act.put, List.setIfInBounds_toArray, List.set_cons_zero, List.set_cons_succ]
      refine zLight (i := 2) rfl (by kernel_rfl) (by kernel_rfl) (by kernel_rfl) (by kernel_rfl) (fun _ _ _ h => h) rfl (fun _ => exMove (v := u32S (e)) rfl) (fun _ => BD.out) ?_
      simp only [Act.put, List.setIfInBounds_toArray, List.set_cons_zero, List.set_cons_succ]
      refine zLight (i := 4) rfl (by kernel_rfl) (by kernel_rfl) (by kernel_rfl) (by kernel_rfl) (fun _ _ _ h => h) rfl (fun _ => exMove (v := u32S (e)) rfl) (fun _ => BD.out) ?_
      simp only [Act.put, List.setIfInBounds_toArray, List.set_cons_zero, List.set_cons_succ]
      refine zLight (i := 7) rfl (by kernel_rfl) (by kernel_rfl) (by kernel_rfl) (by kernel_rfl) (fun _ _ _ h => h) rfl (fun _ => exMove (v := u32S (e)) rfl) (fun _ => BD.out) ?_
      simp only [Act.put, List.setIfInBounds_toArray, List.set_cons_zero, List.set_cons_succ]
      refine zLight (i := 11) rfl (by kernel_rfl) (by kernel_rfl) (by kernel_rfl) (by kernel_rfl) (fun _ _ _ h => h) rfl (fun _ => exMove (v := u32S (e)) rfl) (fun _ => BD.out) ?_
      simp only [Act.put, List.setIfInBounds_toArray, List.set_cons_zero, List.set_cons_succ]
      refine zLight (i := 12) rfl (by kernel_rfl) (by kernel_rfl) (by kernel_rfl) (by kernel_rfl) (fun _ _ _ h => h) rfl (fun w' => exIndex (v := .pointer (some ⟨gs, 5, none⟩)) rfl rfl (index8_sh gs (5) (by omega) w')) (fun _ => BD.out) ?_
      simp only [Act.put, List.setIfInBounds_toArray, List.set_cons_zero, List.set_cons_succ]
      refine zV (i := 13) rfl (by kernel_rfl) (by kernel_rfl) (by kernel_rfl) (by kernel_rfl) (by kernel_rfl) (fun _ _ _ h => h) rfl (fun w' h => exLoad (v := u32S (atS s (5))) rfl (load_sh gs (5) (atS s (5)) w' (blkS_cell (KS.out.ext h) (atS_get (by rw [HSl.out]; omega))))) BD.out ?_
      simp only [Act.put, List.setIfInBounds_toArray, List.set_cons_zero, List.set_cons_succ]
      refine zLight (i := 14) rfl (by kernel_rfl) (by kernel_rfl) (by kernel_rfl) (by kernel_rfl) (fun _ _ _ h => h) rfl (fun w' => exBin (v := u32S ((e) &&& (atS s (5)))) rfl rfl (by rfl) (and_sh (e) (atS s (5)) w')) (fun _ => BD.out) ?_
      simp only [Act.put, List.setIfInBounds_toArray, List.set_cons_zero, List.set_cons_succ]
      refine zLight (i := 15) rfl (by kernel_rfl) (by kernel_rfl) (by kernel_rfl) (by kernel_rfl) (fun _ _ _ h => h) rfl (fun _ => exMove (v := u32S (e)) rfl) (fun _ => BD.out) ?_
      simp only [Act.put, List.setIfInBounds_toArray, List.set_cons_zero, List.set_cons_succ]
      refine zLight (i := 16) rfl (by kernel_rfl) (by kernel_rfl) (by kernel_rfl) (by kernel_rfl) (fun _ _ _ h => h) rfl (fun w' => exUn_sh (v := u32S (~~~(e))) rfl (not_sh (e) w')) (fun _ => BD.out) ?_
      simp only [Act.put, List.setIfInBounds_toArray, List.set_cons_zero, List.set_cons_succ]
      refine zLight (i := 17) rfl (by kernel_rfl) (by kernel_rfl) (by kernel_rfl) (by kernel_rfl) (fun _ _ _ h => h) rfl (fun w' => exIndex (v := .pointer (some ⟨gs, 6, none⟩)) rfl rfl (index8_sh gs (6) (by omega) w')) (fun _ => BD.out) ?_
      simp only [Act.put, List.setIfInBounds_toArray, List.set_cons_zero, List.set_cons_succ]
      refine zV (i := 18) rfl (by kernel_rfl) (by kernel_rfl) (by kernel_rfl) (by kernel_rfl) (by kernel_rfl) (fun _ _ _ h => h) rfl (fun w' h => exLoad (v := u32S (atS s (6))) rfl (load_sh gs (6) (atS s (6)) w' (blkS_cell (KS.out.ext h) (atS_get (by rw [HSl.out]; omega))))) BD.out ?_
      simp only [Act.put, List.setIfInBounds_toArray, List.set_cons_zero, List.set_cons_succ]
      refine zLight (i := 19) rfl (by kernel_rfl) (by kernel_rfl) (by kernel_rfl) (by kernel_rfl) (fun _ _ _ h => h) rfl (fun w' => exBin (v := u32S ((~~~(e)) &&& (atS s (6)))) rfl rfl (by rfl) (and_sh (~~~(e)) (atS s (6)) w')) (fun _ => BD.out) ?_
      simp only [Act.put, List.setIfInBounds_toArray, List.set_cons_zero, List.set_cons_succ]
      refine zLight (i := 20) rfl (by kernel_rfl) (by kernel_rfl) (by kernel_rfl) (by kernel_rfl) (fun _ _ _ h => h) rfl (fun w' => exBin (v := u32S (((e) &&& (atS s (5))) ^^^ ((~~~(e)) &&& (atS s (6))))) rfl rfl (by rfl) (xor_sh ((e) &&& (atS s (5))) ((~~~(e)) &&& (atS s (6))) w')) (fun _ => BD.out) ?_
      simp only [Act.put, List.setIfInBounds_toArray, List.set_cons_zero, List.set_cons_succ]
      refine zLight (i := 22) rfl (by kernel_rfl) (by kernel_rfl) (by kernel_rfl) (by kernel_rfl) (fun _ _ _ h => h) rfl (fun _ => exMove (v := .int .i64 ((i : Nat) : Int)) rfl) (fun _ => BD.out) ?_
      simp only [Act.put, List.setIfInBounds_toArray, List.set_cons_zero, List.set_cons_succ]
      refine zLight (i := 23) rfl (by kernel_rfl) (by kernel_rfl) (by kernel_rfl) (by kernel_rfl) (fun _ _ _ h => h) rfl (fun w' => exIndex (v := .pointer (some ⟨1, i, none⟩)) rfl rfl (index64_sh 1 (i) (by omega) w')) (fun _ => BD.out) ?_
      simp only [Act.put, List.setIfInBounds_toArray, List.set_cons_zero, List.set_cons_succ]
      refine zV (i := 24) rfl (by kernel_rfl) (by kernel_rfl) (by kernel_rfl) (by kernel_rfl) (by kernel_rfl) (fun _ _ _ h => h) rfl (fun w' h => exLoad (v := u32S (atS kS (i))) rfl (load_sh 1 (i) (atS kS (i)) w' ((h.cell gK.out).trans (FK.out (i) hlt)))) BD.out ?_
      simp only [Act.put, List.setIfInBounds_toArray, List.set_cons_zero, List.set_cons_succ]
      refine zLight (i := 26) rfl (by kernel_rfl) (by kernel_rfl) (by kernel_rfl) (by kernel_rfl) (fun _ _ _ h => h) rfl (fun _ => exMove (v := u32S (x)) rfl) (fun _ => BD.out) ?_
      simp only [Act.put, List.setIfInBounds_toArray, List.set_cons_zero, List.set_cons_succ]
      refine wpAnyZ_all (rs := [3]) (by kernel_rfl) (by simp) ?_
      intro i hi
      simp only [List.mem_cons, List.not_mem_nil, or_false] at hi
      subst hi
      refine wpOp_of rfl rfl (wp_called (args := #[u32S (e), .int .u64 ((6 : Nat) : Int)]) hcR (by simp only [List.map_toArray, List.map_cons, List.map_nil]; rfl) (right_any (e) 6 (by omega) (by omega) wd) ?_)
      rintro _ _ ⟨rfl, rfl⟩
      refine ⟨_, rfl, fun _ => BD.out, ?_⟩
      simp only [Act.put, List.setIfInBounds_toArray, List.set_cons_zero, List.set_cons_succ]
      refine wpAnyZ_all (rs := [5]) (by kernel_rfl) (by simp) ?_
      intro i hi
      simp only [List.mem_cons, List.not_mem_nil, or_false] at hi
      subst hi
      refine wpOp_of rfl rfl (wp_called (args := #[u32S (e), .int .u64 ((11 : Nat) : Int)]) hcR (by simp only [List.map_toArray, List.map_cons, List.map_nil]; rfl) (right_any (e) 11 (by omega) (by omega) wd) ?_)
      rintro _ _ ⟨rfl, rfl⟩
      refine ⟨_, rfl, fun _ => BD.out, ?_⟩
      simp only [Act.put, List.setIfInBounds_toArray, List.set_cons_zero, List.set_cons_succ]
      refine zLight (i := 6) rfl (by kernel_rfl) (by kernel_rfl) (by kernel_rfl) (by kernel_rfl) (fun _ _ _ h => h) rfl (fun w' => exBin (v := u32S ((rotS (e) 6) ^^^ (rotS (e) 11))) rfl rfl (by rfl) (xor_sh (rotS (e) 6) (rotS (e) 11) w')) (fun _ => BD.out) ?_
      simp only [Act.put, List.setIfInBounds_toArray, List.set_cons_zero, List.set_cons_succ]
      refine wpAnyZ_all (rs := [8]) (by kernel_rfl) (by simp) ?_
      intro i hi
      simp only [List.mem_cons, List.not_mem_nil, or_false] at hi
      subst hi
      refine wpOp_of rfl rfl (wp_called (args := #[u32S (e), .int .u64 ((25 : Nat) : Int)]) hcR (by simp only [List.map_toArray, List.map_cons, List.map_nil]; rfl) (right_any (e) 25 (by omega) (by omega) wd) ?_)
      rintro _ _ ⟨rfl, rfl⟩
      refine ⟨_, rfl, fun _ => BD.out, ?_⟩
      simp only [Act.put, List.setIfInBounds_toArray, List.set_cons_zero, List.set_cons_succ]
      refine zLight (i := 9) rfl (by kernel_rfl) (by kernel_rfl) (by kernel_rfl) (by kernel_rfl) (fun _ _ _ h => h) rfl (fun w' => exBin (v := u32S (((rotS (e) 6) ^^^ (rotS (e) 11)) ^^^ (rotS (e) 25))) rfl rfl (by rfl) (xor_sh ((rotS (e) 6) ^^^ (rotS (e) 11)) (rotS (e) 25) w')) (fun _ => BD.out) ?_
      simp only [Act.put, List.setIfInBounds_toArray, List.set_cons_zero, List.set_cons_succ]
      refine zLight (i := 10) rfl (by kernel_rfl) (by kernel_rfl) (by kernel_rfl) (by kernel_rfl) (fun _ _ _ h => h) rfl (fun w' => exBin (v := u32S ((atS s (7)) + (((rotS (e) 6) ^^^ (rotS (e) 11)) ^^^ (rotS (e) 25)))) rfl rfl (by rfl) (add_sh (atS s (7)) (((rotS (e) 6) ^^^ (rotS (e) 11)) ^^^ (rotS (e) 25)) w')) (fun _ => BD.out) ?_
      simp only [Act.put, List.setIfInBounds_toArray, List.set_cons_zero, List.set_cons_succ]
      refine zLight (i := 21) rfl (by kernel_rfl) (by kernel_rfl) (by kernel_rfl) (by kernel_rfl) (fun _ _ _ h => h) rfl (fun w' => exBin (v := u32S (((atS s (7)) + (((rotS (e) 6) ^^^ (rotS (e) 11)) ^^^ (rotS (e) 25))) + (((e) &&& (atS s (5))) ^^^ ((~~~(e)) &&& (atS s (6)))))) rfl rfl (by rfl) (add_sh ((atS s (7)) + (((rotS (e) 6) ^^^ (rotS (e) 11)) ^^^ (rotS (e) 25))) (((e) &&& (atS s (5))) ^^^ ((~~~(e)) &&& (atS s (6)))) w')) (fun _ => BD.out) ?_
      simp only [Act.put, List.setIfInBounds_toArray, List.set_cons_zero, List.set_cons_succ]
      refine zLight (i := 25) rfl (by kernel_rfl) (by kernel_rfl) (by kernel_rfl) (by kernel_rfl) (fun _ _ _ h => h) rfl (fun w' => exBin (v := u32S ((((atS s (7)) + (((rotS (e) 6) ^^^ (rotS (e) 11)) ^^^ (rotS (e) 25))) + (((e) &&& (atS s (5))) ^^^ ((~~~(e)) &&& (atS s (6))))) + (atS kS (i)))) rfl rfl (by rfl) (add_sh (((atS s (7)) + (((rotS (e) 6) ^^^ (rotS (e) 11)) ^^^ (rotS (e) 25))) + (((e) &&& (atS s (5))) ^^^ ((~~~(e)) &&& (atS s (6))))) (atS kS (i)) w')) (fun _ => BD.out) ?_
      simp only [Act.put, List.setIfInBounds_toArray, List.set_cons_zero, List.set_cons_succ]
      refine zLight (i := 27) rfl (by kernel_rfl) (by kernel_rfl) (by kernel_rfl) (by kernel_rfl) (fun _ _ _ h => h) rfl (fun w' => exBin (v := u32S (((((atS s (7)) + (((rotS (e) 6) ^^^ (rotS (e) 11)) ^^^ (rotS (e) 25))) + (((e) &&& (atS s (5))) ^^^ ((~~~(e)) &&& (atS s (6))))) + (atS kS (i))) + (x))) rfl rfl (by rfl) (add_sh ((((atS s (7)) + (((rotS (e) 6) ^^^ (rotS (e) 11)) ^^^ (rotS (e) 25))) + (((e) &&& (atS s (5))) ^^^ ((~~~(e)) &&& (atS s (6))))) + (atS kS (i))) (x) w')) (fun _ => BD.out) ?_
      simp only [Act.put, List.setIfInBounds_toArray, List.set_cons_zero, List.set_cons_succ]
      refine zLight (i := 28) rfl (by kernel_rfl) (by kernel_rfl) (by kernel_rfl) (by kernel_rfl) (fun _ _ _ h => h) rfl (fun _ => exAssign (v := u32S (((((atS s (7)) + (((rotS (e) 6) ^^^ (rotS (e) 11)) ^^^ (rotS (e) 25))) + (((e) &&& (atS s (5))) ^^^ ((~~~(e)) &&& (atS s (6))))) + (atS kS (i))) + (x))) rfl) (fun _ => BD.out) ?_
      simp only [Act.put, List.setIfInBounds_toArray, List.set_cons_zero, List.set_cons_succ]
      refine wpAnyZ_done (by kernel_rfl) ?_ _
      have B6 := Lib.hid (B.out.trans (BD.out.mono B.out.size))
      have KS6 := Lib.hid (KS.out.ext BD.out)
      have KH6 := Lib.hid (KH.out.ext BD.out)
      have K46 := Lib.hid (K4.out.ext BD.out)
      have gK6 : Hid (1 < wd.heap.size) := Nat.lt_of_lt_of_le gK.out BD.out.size
      have FK6 : Hid (∀ j, j < 64 → wd.cell? ⟨1, j, none⟩ = some (u32S (atS kS j))) := fun j hj => (BD.out.cell gK.out).trans (FK.out j hj)
      clear B KS KH K4 gK FK BD
      have B := B6
      have KS := KS6
      have KH := KH6
      have K4 := K46
      have gK := gK6
      have FK := FK6
      clear B6 KS6 KH6 K46 gK6 FK6
      obtain ⟨w6, rfl⟩ : ∃ x, x = wd := ⟨_, rfl⟩
      obtain ⟨t, ht⟩ : ∃ t, ((((atS s (7)) + (((rotS (e) 6) ^^^ (rotS (e) 11)) ^^^ (rotS (e) 25))) + (((e) &&& (atS s (5))) ^^^ ((~~~(e)) &&& (atS s (6))))) + (atS kS (i))) + (x) = t := ⟨_, rfl⟩
      rw [ht]
      have HT : Hid (tS s (atS kS i) x = t) := by rw [Hid, ← ht]; unfold tS bigS; rw [HE.out]
      clear ht
      go_upto_region 7 with fail
      refine wp_region_Z (S := fun w' => Below w6.heap.size w6 w') (Z := []) mixedS ?_
      have BD : Hid (Below w6.heap.size w6 w6.drew) := (Below.refl _ _).drew
      generalize w6.drew = wd at *
      simp only [List.size_toArray, List.length_cons, List.length_nil]
      refine zLight (i := 0) rfl (by kernel_rfl) (by kernel_rfl) (by kernel_rfl) (by kernel_rfl) (fun _ _ _ h => h) rfl (fun _ => exMove (v := u32S (a)) rfl) (fun _ => BD.out) ?_
      simp only [Act.put, List.setIfInBounds_toArray, List.set_cons_zero, List.set_cons_succ]
      refine zLight (i := 2) rfl (by kernel_rfl) (by kernel_rfl) (by kernel_rfl) (by kernel_rfl) (fun _ _ _ h => h) rfl (fun _ => exMove (v := u32S (a)) rfl) (fun _ => BD.out) ?_
      simp only [Act.put, List.setIfInBounds_toArray, List.set_cons_zero, List.set_cons_succ]
      refine zLight (i := 5) rfl (by kernel_rfl) (by kernel_rfl) (by kernel_rfl) (by kernel_rfl) (fun _ _ _ h => h) rfl (fun _ => exMove (v := u32S (a)) rfl) (fun _ => BD.out) ?_
      simp only [Act.put, List.setIfInBounds_toArray, List.set_cons_zero, List.set_cons_succ]
      refine zLight (i := 8) rfl (by kernel_rfl) (by kernel_rfl) (by kernel_rfl) (by kernel_rfl) (fun _ _ _ h => h) rfl (fun _ => exMove (v := u32S (a)) rfl) (fun _ => BD.out) ?_
      simp only [Act.put, List.setIfInBounds_toArray, List.set_cons_zero, List.set_cons_succ]
      refine zLight (i := 9) rfl (by kernel_rfl) (by kernel_rfl) (by kernel_rfl) (by kernel_rfl) (fun _ _ _ h => h) rfl (fun w' => exIndex (v := .pointer (some ⟨gs, 1, none⟩)) rfl rfl (index8_sh gs (1) (by omega) w')) (fun _ => BD.out) ?_
      simp only [Act.put, List.setIfInBounds_toArray, List.set_cons_zero, List.set_cons_succ]
      refine zV (i := 10) rfl (by kernel_rfl) (by kernel_rfl) (by kernel_rfl) (by kernel_rfl) (by kernel_rfl) (fun _ _ _ h => h) rfl (fun w' h => exLoad (v := u32S (atS s (1))) rfl (load_sh gs (1) (atS s (1)) w' (blkS_cell (KS.out.ext h) (atS_get (by rw [HSl.out]; omega))))) BD.out ?_
      simp only [Act.put, List.setIfInBounds_toArray, List.set_cons_zero, List.set_cons_succ]
      refine zLight (i := 11) rfl (by kernel_rfl) (by kernel_rfl) (by kernel_rfl) (by kernel_rfl) (fun _ _ _ h => h) rfl (fun w' => exBin (v := u32S ((a) &&& (atS s (1)))) rfl rfl (by rfl) (and_sh (a) (atS s (1)) w')) (fun _ => BD.out) ?_
      simp only [Act.put, List.setIfInBounds_toArray, List.set_cons_zero, List.set_cons_succ]
      refine zLight (i := 12) rfl (by kernel_rfl) (by kernel_rfl) (by kernel_rfl) (by kernel_rfl) (fun _ _ _ h => h) rfl (fun _ => exMove (v := u32S (a)) rfl) (fun _ => BD.out) ?_
      simp only [Act.put, List.setIfInBounds_toArray, List.set_cons_zero, List.set_cons_succ]
      refine zLight (i := 13) rfl (by kernel_rfl) (by kernel_rfl) (by kernel_rfl) (by kernel_rfl) (fun _ _ _ h => h) rfl (fun w' => exIndex (v := .pointer (some ⟨gs, 2, none⟩)) rfl rfl (index8_sh gs (2) (by omega) w')) (fun _ => BD.out) ?_
      simp only [Act.put, List.setIfInBounds_toArray, List.set_cons_zero, List.set_cons_succ]
      refine zV (i := 14) rfl (by kernel_rfl) (by kernel_rfl) (by kernel_rfl) (by kernel_rfl) (by kernel_rfl) (fun _ _ _ h => h) rfl (fun w' h => exLoad (v := u32S (atS s (2))) rfl (load_sh gs (2) (atS s (2)) w' (blkS_cell (KS.out.ext h) (atS_get (by rw [HSl.out]; omega))))) BD.out ?_
      simp only [Act.put, List.setIfInBounds_toArray, List.set_cons_zero, List.set_cons_succ]
      refine zLight (i := 15) rfl (by kernel_rfl) (by kernel_rfl) (by kernel_rfl) (by kernel_rfl) (fun _ _ _ h => h) rfl (fun w' => exBin (v := u32S ((a) &&& (atS s (2)))) rfl rfl (by rfl) (and_sh (a) (atS s (2)) w')) (fun _ => BD.out) ?_
      simp only [Act.put, List.setIfInBounds_toArray, List.set_cons_zero, List.set_cons_succ]
      refine zLight (i := 16) rfl (by kernel_rfl) (by kernel_rfl) (by kernel_rfl) (by kernel_rfl) (fun _ _ _ h => h) rfl (fun w' => exBin (v := u32S (((a) &&& (atS s (1))) ^^^ ((a) &&& (atS s (2))))) rfl rfl (by rfl) (xor_sh ((a) &&& (atS s (1))) ((a) &&& (atS s (2))) w')) (fun _ => BD.out) ?_
      simp only [Act.put, List.setIfInBounds_toArray, List.set_cons_zero, List.set_cons_succ]
      refine zLight (i := 17) rfl (by kernel_rfl) (by kernel_rfl) (by kernel_rfl) (by kernel_rfl) (fun _ _ _ h => h) rfl (fun w' => exIndex (v := .pointer (some ⟨gs, 1, none⟩)) rfl rfl (index8_sh gs (1) (by omega) w')) (fun _ => BD.out) ?_
      simp only [Act.put, List.setIfInBounds_toArray, List.set_cons_zero, List.set_cons_succ]
      refine zV (i := 18) rfl (by kernel_rfl) (by kernel_rfl) (by kernel_rfl) (by kernel_rfl) (by kernel_rfl) (fun _ _ _ h => h) rfl (fun w' h => exLoad (v := u32S (atS s (1))) rfl (load_sh gs (1) (atS s (1)) w' (blkS_cell (KS.out.ext h) (atS_get (by rw [HSl.out]; omega))))) BD.out ?_
      simp only [Act.put, List.setIfInBounds_toArray, List.set_cons_zero, List.set_cons_succ]
      refine zLight (i := 19) rfl (by kernel_rfl) (by kernel_rfl) (by kernel_rfl) (by kernel_rfl) (fun _ _ _ h => h) rfl (fun w' => exIndex (v := .pointer (some ⟨gs, 2, none⟩)) rfl rfl (index8_sh gs (2) (by omega) w')) (fun _ => BD.out) ?_
      simp only [Act.put, List.setIfInBounds_toArray, List.set_cons_zero, List.set_cons_succ]
      refine zV (i := 20) rfl (by kernel_rfl) (by kernel_rfl) (by kernel_rfl) (by kernel_rfl) (by kernel_rfl) (fun _ _ _ h => h) rfl (fun w' h => exLoad (v := u32S (atS s (2))) rfl (load_sh gs (2) (atS s (2)) w' (blkS_cell (KS.out.ext h) (atS_get (by rw [HSl.out]; omega))))) BD.out ?_
      simp only [Act.put, List.setIfInBounds_toArray, List.set_cons_zero, List.set_cons_succ]
      refine zLight (i := 21) rfl (by kernel_rfl) (by kernel_rfl) (by kernel_rfl) (by kernel_rfl) (fun _ _ _ h => h) rfl (fun w' => exBin (v := u32S ((atS s (1)) &&& (atS s (2)))) rfl rfl (by rfl) (and_sh (atS s (1)) (atS s (2)) w')) (fun _ => BD.out) ?_
      simp only [Act.put, List.setIfInBounds_toArray, List.set_cons_zero, List.set_cons_succ]
      refine zLight (i := 22) rfl (by kernel_rfl) (by kernel_rfl) (by kernel_rfl) (by kernel_rfl) (fun _ _ _ h => h) rfl (fun w' => exBin (v := u32S ((((a) &&& (atS s (1))) ^^^ ((a) &&& (atS s (2)))) ^^^ ((atS s (1)) &&& (atS s (2))))) rfl rfl (by rfl) (xor_sh (((a) &&& (atS s (1))) ^^^ ((a) &&& (atS s (2)))) ((atS s (1)) &&& (atS s (2))) w')) (fun _ => BD.out) ?_
      simp only [Act.put, List.setIfInBounds_toArray, List.set_cons_zero, List.set_cons_succ]
      refine wpAnyZ_all (rs := [1]) (by kernel_rfl) (by simp) ?_
      intro i hi
      simp only [List.mem_cons, List.not_mem_nil, or_false] at hi
      subst hi
      refine wpOp_of rfl rfl (wp_called (args := #[u32S (a), .int .u64 ((2 : Nat) : Int)]) hcR (by simp only [List.map_toArray, List.map_cons, List.map_nil]; rfl) (right_any (a) 2 (by omega) (by omega) wd) ?_)
      rintro _ _ ⟨rfl, rfl⟩
      refine ⟨_, rfl, fun _ => BD.out, ?_⟩
      simp only [Act.put, List.setIfInBounds_toArray, List.set_cons_zero, List.set_cons_succ]
      refine wpAnyZ_all (rs := [3]) (by kernel_rfl) (by simp) ?_
      intro i hi
      simp only [List.mem_cons, List.not_mem_nil, or_false] at hi
      subst hi
      refine wpOp_of rfl rfl (wp_called (args := #[u32S (a), .int .u64 ((13 : Nat) : Int)]) hcR (by simp only [List.map_toArray, List.map_cons, List.map_nil]; rfl) (right_any (a) 13 (by omega) (by omega) wd) ?_)
      rintro _ _ ⟨rfl, rfl⟩
      refine ⟨_, rfl, fun _ => BD.out, ?_⟩
      simp only [Act.put, List.setIfInBounds_toArray, List.set_cons_zero, List.set_cons_succ]
      refine zLight (i := 4) rfl (by kernel_rfl) (by kernel_rfl) (by kernel_rfl) (by kernel_rfl) (fun _ _ _ h => h) rfl (fun w' => exBin (v := u32S ((rotS (a) 2) ^^^ (rotS (a) 13))) rfl rfl (by rfl) (xor_sh (rotS (a) 2) (rotS (a) 13) w')) (fun _ => BD.out) ?_
      simp only [Act.put, List.setIfInBounds_toArray, List.set_cons_zero, List.set_cons_succ]
      refine wpAnyZ_all (rs := [6]) (by kernel_rfl) (by simp) ?_
      intro i hi
      simp only [List.mem_cons, List.not_mem_nil, or_false] at hi
      subst hi
      refine wpOp_of rfl rfl (wp_called (args := #[u32S (a), .int .u64 ((22 : Nat) : Int)]) hcR (by simp only [List.map_toArray, List.map_cons, List.map_nil]; rfl) (right_any (a) 22 (by omega) (by omega) wd) ?_)
      rintro _ _ ⟨rfl, rfl⟩
      refine ⟨_, rfl, fun _ => BD.out, ?_⟩
      simp only [Act.put, List.setIfInBounds_toArray, List.set_cons_zero, List.set_cons_succ]
      refine zLight (i := 7) rfl (by kernel_rfl) (by kernel_rfl) (by kernel_rfl) (by kernel_rfl) (fun _ _ _ h => h) rfl (fun w' => exBin (v := u32S (((rotS (a) 2) ^^^ (rotS (a) 13)) ^^^ (rotS (a) 22))) rfl rfl (by rfl) (xor_sh ((rotS (a) 2) ^^^ (rotS (a) 13)) (rotS (a) 22) w')) (fun _ => BD.out) ?_
      simp only [Act.put, List.setIfInBounds_toArray, List.set_cons_zero, List.set_cons_succ]
      refine zLight (i := 23) rfl (by kernel_rfl) (by kernel_rfl) (by kernel_rfl) (by kernel_rfl) (fun _ _ _ h => h) rfl (fun w' => exBin (v := u32S ((((rotS (a) 2) ^^^ (rotS (a) 13)) ^^^ (rotS (a) 22)) + ((((a) &&& (atS s (1))) ^^^ ((a) &&& (atS s (2)))) ^^^ ((atS s (1)) &&& (atS s (2)))))) rfl rfl (by rfl) (add_sh (((rotS (a) 2) ^^^ (rotS (a) 13)) ^^^ (rotS (a) 22)) ((((a) &&& (atS s (1))) ^^^ ((a) &&& (atS s (2)))) ^^^ ((atS s (1)) &&& (atS s (2)))) w')) (fun _ => BD.out) ?_
      simp only [Act.put, List.setIfInBounds_toArray, List.set_cons_zero, List.set_cons_succ]
      refine zLight (i := 24) rfl (by kernel_rfl) (by kernel_rfl) (by kernel_rfl) (by kernel_rfl) (fun _ _ _ h => h) rfl (fun _ => exAssign (v := u32S ((((rotS (a) 2) ^^^ (rotS (a) 13)) ^^^ (rotS (a) 22)) + ((((a) &&& (atS s (1))) ^^^ ((a) &&& (atS s (2)))) ^^^ ((atS s (1)) &&& (atS s (2)))))) rfl) (fun _ => BD.out) ?_
      simp only [Act.put, List.setIfInBounds_toArray, List.set_cons_zero, List.set_cons_succ]
      refine wpAnyZ_done (by kernel_rfl) ?_ _
      have B7 := Lib.hid (B.out.trans (BD.out.mono B.out.size))
      have KS7 := Lib.hid (KS.out.ext BD.out)
      have KH7 := Lib.hid (KH.out.ext BD.out)
      have K47 := Lib.hid (K4.out.ext BD.out)
      have gK7 : Hid (1 < wd.heap.size) := Nat.lt_of_lt_of_le gK.out BD.out.size
      have FK7 : Hid (∀ j, j < 64 → wd.cell? ⟨1, j, none⟩ = some (u32S (atS kS j))) := fun j hj => (BD.out.cell gK.out).trans (FK.out j hj)
      clear B KS KH K4 gK FK BD
      have B := B7
      have KS := KS7
      have KH := KH7
      have K4 := K47
      have gK := gK7
      have FK := FK7
      clear B7 KS7 KH7 K47 gK7 FK7
      obtain ⟨w7, rfl⟩ : ∃ x, x = wd := ⟨_, rfl⟩
      obtain ⟨u, hu⟩ : ∃ u, (((rotS (a) 2) ^^^ (rotS (a) 13)) ^^^ (rotS (a) 22)) + ((((a) &&& (atS s (1))) ^^^ ((a) &&& (atS s (2)))) ^^^ ((atS s (1)) &&& (atS s (2)))) = u := ⟨_, rfl⟩
      rw [hu]
      have HU : Hid (uS s = u) := by rw [Hid, ← hu]; unfold uS midS; rw [HA.out]
      clear hu FK gK
      obtain ⟨s1, hs1⟩ : ∃ x, x = atS s 1 := ⟨_, rfl⟩
      have y1 : w7.cell? ⟨gs, 1, none⟩ = some (u32S s1) := by rw [hs1]; exact blkS_cell KS.out (atS_get (by rw [HSl.out]; omega))
      obtain ⟨s2, hs2⟩ : ∃ x, x = atS s 2 := ⟨_, rfl⟩
      have y2 : w7.cell? ⟨gs, 2, none⟩ = some (u32S s2) := by rw [hs2]; exact blkS_cell KS.out (atS_get (by rw [HSl.out]; omega))
      obtain ⟨s3, hs3⟩ : ∃ x, x = atS s 3 := ⟨_, rfl⟩
      have y3 : w7.cell? ⟨gs, 3, none⟩ = some (u32S s3) := by rw [hs3]; exact blkS_cell KS.out (atS_get (by rw [HSl.out]; omega))
      obtain ⟨s5, hs5⟩ : ∃ x, x = atS s 5 := ⟨_, rfl⟩
      have y5 : w7.cell? ⟨gs, 5, none⟩ = some (u32S s5) := by rw [hs5]; exact blkS_cell KS.out (atS_get (by rw [HSl.out]; omega))
      obtain ⟨s6, hs6⟩ : ∃ x, x = atS s 6 := ⟨_, rfl⟩
      have y6 : w7.cell? ⟨gs, 6, none⟩ = some (u32S s6) := by rw [hs6]; exact blkS_cell KS.out (atS_get (by rw [HSl.out]; omega))
      have E8 : Hid ([t + u, a, s1, s2, s3 + t, e, s5, s6] = roundsS kS W h (i + 1)) := by
        rw [Hid, ← ST.out]
        unfold stepS
        rw [HT.out, HU.out, HA.out, HE.out, hs1, hs2, hs3, hs5, hs6]
      clear ST HT HU HA HE hs1 hs2 hs3 hs5 hs6
      have AD1 := Lib.hid (fun w : World => add_sh t u w)
      have AD2 := Lib.hid (fun w : World => add_sh s3 t w)
      have BU8 := Lib.hid (fun w : World => buildS8 (t + u) a s1 s2 (s3 + t) e s5 s6 w)
      have C81 := Lib.hid (cellsS_one [t + u, a, s1, s2, s3 + t, e, s5, s6])
      have C8s : Hid ((cellsS [t + u, a, s1, s2, s3 + t, e, s5, s6]).size = 8) := by rw [Hid, cellsS_size]; rfl
      rw [E8.out] at BU8 C81 C8s
      clear E8
      obtain ⟨C8, hC8⟩ : ∃ C, C = cellsS (roundsS kS W h (i + 1)) := ⟨_, rfl⟩
      rw [← hC8] at BU8 C81 C8s
      have HC8 := Lib.hid hC8
      clear hC8
      generalize u32S (t + u) = vtu at *
      generalize u32S (s3 + t) = v3t at *
      generalize u32S t = vt at *
      generalize u32S u = vu at *
      generalize u32S a = va at *
      generalize u32S e = ve at *
      generalize u32S s1 = v1 at *
      generalize u32S s2 = v2 at *
      generalize u32S s3 = v3 at *
      generalize u32S s5 = v5 at *
      generalize u32S s6 = v6 at *
      go_upto_region 9 with (first
        | ((with_reducible refine wpList_comp ?_ ?_ ?_ (AD1.out _) ?_); rfl; rfl; rfl)
        | ((with_reducible refine wpList_comp ?_ ?_ ?_ (AD2.out _) ?_); rfl; rfl; rfl)
        | ((with_reducible refine wpList_built (BU8.out _) ?_ ?_); simp only [List.map_toArray, List.map_cons, List.map_nil]; rfl)
        | (refine wpList_store_row rfl 236 _ _ (by rfl) gs C8 (by rfl) (by rfl) _ _ KS.out (by rw [infoS8, C8s.out]) (by rw [cellsS_size, C8s.out, HSl.out]) C81.out ?_))
      clear y1 y2 y3 y5 y6
      have KS2 := Lib.hid (KS.out.row C8)
      have KH2 := Lib.hid (KH.out.rowFar (Ne.symm sOk.out.2.1) C8)
      have K42 := Lib.hid (K4.out.rowFar (Ne.symm sOk.out.2.2) C8)
      have B2 := Lib.hid (below_setRow B.out sOk.out.1 C8)
      clear KS KH K4 B AD1 AD2 BU8 C81 C8s
      generalize w7.setRow gs C8 = w8 at *
      rw [HC8.out] at KS2
      go_wp2_with fail
      go_roundw
      case rel => exact ⟨i + 1, by omega, by go_num, KS2.out, KH2.out, K42.out, B2.out⟩
      case measure => simp [intOf]; omega
    · have hlz : ¬ (i : Int) < 64 := by omega
      obtain rfl : i = 64 := by omega
      obtain ⟨s, hs⟩ : ∃ s, s = roundsS kS W h 64 := ⟨_, rfl⟩
      have HSl : Hid (s.length = 8) := by rw [Hid, hs]; exact roundsS_len HH.out 64
      rw [← hs] at KS BLK
      clear hs HW hi hlt
      rw [← sumN_zero (s := s) HH.out] at KH
      go_wp2_with fail
      go_loopw [95] (fun iv wr => ∃ i : Nat, i ≤ 8 ∧ iv = .int .i64 ((i : Nat) : Int) ∧ Hid (Blk wr gs 236 (cellsS s)) ∧ Hid (Blk wr gh 236 (cellsS (sumN h s i))) ∧ Hid (Blk wr g4 236 (cellsS (List.replicate 8 0#32))) ∧ Hid (Below w.heap.size w wr)) (fun iv _ => 8 - (intOf iv).toNat)
      case atStart => exact ⟨0, Nat.zero_le _, rfl, KS.out, by rw [sumN_zero HH.out] at KH ⊢; exact KH.out, K4.out, B.out⟩
      case round =>
        clear KS KH K4 B
        obtain ⟨i, hi, rfl, KS, KH, K4, B⟩ := hrel
        by_cases hlt : i < 8
        · have hlz : (i : Int) < 8 := by omega
          obtain ⟨hc, hhc⟩ : ∃ x, x = sumN h s i := ⟨_, rfl⟩
          have HHc : Hid (hc.length = 8) := by rw [Hid, hhc, sumN_len]
          have ST : Hid (hc.set i (atS hc i + atS s i) = sumN h s (i + 1)) := by rw [Hid, hhc, sumN_at hlt]; exact sumN_set hlt
          rw [← hhc] at KH
          clear hhc
          go_upto_region 13 with fail
          refine wp_region_Z (S := fun w' => Below wr.heap.size wr w') (Z := [8]) mixedS ?_
          have BD : Hid (Below wr.heap.size wr wr.drew) := (Below.refl _ _).drew
          generalize wr.drew = wd at *
          simp only [List.size_toArray, List.length_cons, List.length_nil]
          refine zLight (i := 0) rfl (by kernel_rfl) (by kernel_rfl) (by kernel_rfl) (by kernel_rfl) (fun _ _ _ h => h) rfl (fun _ => exMove (v := .int .i64 ((i : Nat) : Int)) rfl) (fun _ => BD.out) ?_
          simp only [Act.put, List.setIfInBounds_toArray, List.set_cons_zero, List.set_cons_succ]
          refine zLight (i := 1) rfl (by kernel_rfl) (by kernel_rfl) (by kernel_rfl) (by kernel_rfl) (fun _ _ _ h => h) rfl (fun w' => exIndex (v := .pointer (some ⟨gh, i, none⟩)) rfl rfl (index8_sh gh (i) (by omega) w')) (fun _ => BD.out) ?_
          simp only [Act.put, List.setIfInBounds_toArray, List.set_cons_zero, List.set_cons_succ]
          refine zV (i := 2) rfl (by kernel_rfl) (by kernel_rfl) (by kernel_rfl) (by kernel_rfl) (by kernel_rfl) (fun _ _ _ h => h) rfl (fun w' h => exLoad (v := u32S (atS hc (i))) rfl (load_sh gh (i) (atS hc (i)) w' (blkS_cell (KH.out.ext h) (atS_get (by rw [HHc.out]; omega))))) BD.out ?_
          simp only [Act.put, List.setIfInBounds_toArray, List.set_cons_zero, List.set_cons_succ]
          refine zLight (i := 3) rfl (by kernel_rfl) (by kernel_rfl) (by kernel_rfl) (by kernel_rfl) (fun _ _ _ h => h) rfl (fun _ => exMove (v := .int .i64 ((i : Nat) : Int)) rfl) (fun _ => BD.out) ?_
          simp only [Act.put, List.setIfInBounds_toArray, List.set_cons_zero, List.set_cons_succ]
          refine zLight (i := 4) rfl (by kernel_rfl) (by kernel_rfl) (by kernel_rfl) (by kernel_rfl) (fun _ _ _ h => h) rfl (fun w' => exIndex (v := .pointer (some ⟨gs, i, none⟩)) rfl rfl (index8_sh gs (i) (by omega) w')) (fun _ => BD.out) ?_
          simp only [Act.put, List.setIfInBounds_toArray, List.set_cons_zero, List.set_cons_succ]
          refine zV (i := 5) rfl (by kernel_rfl) (by kernel_rfl) (by kernel_rfl) (by kernel_rfl) (by kernel_rfl) (fun _ _ _ h => h) rfl (fun w' h => exLoad (v := u32S (atS s (i))) rfl (load_sh gs (i) (atS s (i)) w' (blkS_cell (KS.out.ext h) (atS_get (by rw [HSl.out]; omega))))) BD.out ?_
          simp only [Act.put, List.setIfInBounds_toArray, List.set_cons_zero, List.set_cons_succ]
          refine zLight (i := 6) rfl (by kernel_rfl) (by kernel_rfl) (by kernel_rfl) (by kernel_rfl) (fun _ _ _ h => h) rfl (fun w' => exBin (v := u32S ((atS hc (i)) + (atS s (i)))) rfl rfl (by rfl) (add_sh (atS hc (i)) (atS s (i)) w')) (fun _ => BD.out) ?_
          simp only [Act.put, List.setIfInBounds_toArray, List.set_cons_zero, List.set_cons_succ]
          refine zLight (i := 7) rfl (by kernel_rfl) (by kernel_rfl) (by kernel_rfl) (by kernel_rfl) (fun _ _ _ h => h) rfl (fun w' => exIndex (v := .pointer (some ⟨gh, i, none⟩)) rfl rfl (index8_sh gh (i) (by omega) w')) (fun _ => BD.out) ?_
          simp only [Act.put, List.setIfInBounds_toArray, List.set_cons_zero, List.set_cons_succ]
          refine wpAnyZ_all (rs := [8]) (by kernel_rfl) (by simp) ?_
          intro i hi
          simp only [List.mem_cons, List.not_mem_nil, or_false] at hi
          subst hi
          refine wpOp_of rfl rfl (wpStored1 rfl rfl (store_sh gh (i) ((atS hc (i)) + (atS s (i))) wd (blkS_cell (KH.out.ext BD.out) (atS_get (by rw [HHc.out]; omega))) ((KH.out.ext BD.out).fr i)) ?_)
          refine ⟨noZ (by kernel_rfl), ?_⟩
          refine wpAnyZ_done (by kernel_rfl) ?_ _
          have KH2 : Hid (Blk (wd.setCell ⟨gh, i, none⟩ (u32S (atS hc i + atS s i))) gh 236 (cellsS (sumN h s (i + 1)))) := by
            rw [← ST.out]
            exact blkS_set (KH.out.ext BD.out) i _
          have KS2 := Lib.hid ((KS.out.ext BD.out).far (p := ⟨gh, i, none⟩) sOk.out.2.1 (u32S (atS hc i + atS s i)))
          have K42 := Lib.hid ((K4.out.ext BD.out).far (p := ⟨gh, i, none⟩) (Ne.symm gOk.out.2.2) (u32S (atS hc i + atS s i)))
          have B2 := Lib.hid (below_setCell (B.out.trans (BD.out.mono B.out.size)) (p := ⟨gh, i, none⟩) gOk.out.1 (u := u32S (atS hc i + atS s i)))
          clear KS KH K4 B BD ST
          generalize wd.setCell ⟨gh, i, none⟩ (u32S (atS hc i + atS s i)) = we at *
          go_wp2_with fail
          go_roundw
          case rel => exact ⟨i + 1, by omega, by go_num, KS2.out, KH2.out, K42.out, B2.out⟩
          case measure => simp [intOf]; omega
        · have hlz : ¬ (i : Int) < 8 := by omega
          obtain rfl : i = 8 := by omega
          rw [sumN_all, BLK.out] at KH
          go_wp2_with (first
            | (refine wpList_load_row rfl 236 _ (by rfl) gh (by rfl) _ _ _ _ KH.out Tryz.underlying236 rfl (by rw [infoS8, cellsS_size, blockS_len]) ?_)
            | (refine wpList_store_row rfl 236 _ _ (by rfl) g4 (cellsS (blockS kS h l)) (by rfl) (by rfl) _ _ K4.out (by rw [infoS8, cellsS_size, blockS_len]) (by rw [cellsS_size, cellsS_size, blockS_len]; rfl) (cellsS_one _) ?_))
          refine bodyPost_ret (results_cellS rfl _ _ g4 _ (cellsS (blockS kS h l)) _ rfl (K4.out.row _) Tryz.underlying236 rfl (by rw [infoS8, cellsS_size, blockS_len])) rfl ?_
          exact ⟨rfl, below_setRow B.out gOk.out.2.1 _⟩
end Go.Proofs.YtihggkmjalofiaaGreatDoor
