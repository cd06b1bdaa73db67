/- The document's rows: copied, together, and by lines: walked. -/
import Derived.Test.YtihggkmjalofiaaGreatDoorStag
import Derived.Test.YtihggkmjalofiaaGreatDoorCenu
namespace Go.Proofs.YtihggkmjalofiaaGreatDoor
open Go.RowKit

theorem mixed54h : Tryz.prog.follows .mixedOrders = true := by kernel_rfl
/-- together, with no author -/
def plusZ (t r : RowR) : RowR := (0, IntKind.i64.wrap (t.2.1 + r.2.1), IntKind.i64.wrap (t.2.2.1 + r.2.2.1), IntKind.i64.wrap (t.2.2.2.1 + r.2.2.2.1), IntKind.i64.wrap (t.2.2.2.2.1 + r.2.2.2.2.1), IntKind.i64.wrap (t.2.2.2.2.2.1 + r.2.2.2.2.2.1), IntKind.i64.wrap (t.2.2.2.2.2.2.1 + r.2.2.2.2.2.2.1), IntKind.i64.wrap (t.2.2.2.2.2.2.2.1 + r.2.2.2.2.2.2.2.1), IntKind.i64.wrap (t.2.2.2.2.2.2.2.2 + r.2.2.2.2.2.2.2.2))
theorem totR_author (R : List RowR) : (totR R).1 = 0 := by
 unfold totR
 have : ∀ (R : List RowR) (t : RowR), (R.foldl plusR t).1 = t.1 := by
  intro R
  induction R with
  | nil => intro t; rfl
  | cons x R ih => intro t; rw [List.foldl_cons, ih]; rfl
 rw [this]
 rfl
theorem totZ_snoc {R : List RowR} {k : Nat} {x : RowR} (h : R[k]? = some x) : totR (R.take (k + 1)) = plusZ (totR (R.take k)) x := by
 rw [tot_snoc h]
 unfold plusR plusZ
 rw [totR_author]
theorem indexRR (b o n c k : Nat) (hk : k < n) (w : World) : (Instr.indexAt 112 (.slice (some ⟨b, o, none⟩) n c) (.int .i64 ((k : Nat) : Int))).run Tryz.prog w = .ok (.pointer (some ⟨b, o + k * 9, none⟩)) w := by
 have h1 : ((k : Nat) : Int) < (n : Int) := by omega
 simp [go_sem, h1]
theorem fieldRX (b o j : Nat) (hj : j < 9) (w : World) : (Instr.fieldAt 109 (.pointer (some ⟨b, o, none⟩)) j).run Tryz.prog w = .ok (.pointer (some ⟨b, o + j, none⟩)) w := by
 match j, hj with
 | 0, _ => simp [go_sem]
 | 1, _ => simp [go_sem]
 | 2, _ => simp [go_sem]
 | 3, _ => simp [go_sem]
 | 4, _ => simp [go_sem]
 | 5, _ => simp [go_sem]
 | 6, _ => simp [go_sem]
 | 7, _ => simp [go_sem]
 | 8, _ => simp [go_sem]
theorem buildRX (a b c d e f g h : Int) (w : World) : (Instr.build 109 #[(0, .int .u8 0), (1, .int .i64 a), (2, .int .i64 b), (3, .int .i64 c), (4, .int .i64 d), (5, .int .i64 e), (6, .int .i64 f), (7, .int .i64 g), (8, .int .i64 h)]).run Tryz.prog w = .ok (.agg (encR (0, a, b, c, d, e, f, g, h)).toArray) w := by kernel_rfl
/-- a row as it lies -/
theorem row_at54 {w : World} {B n : Nat} {A : Option Addr} {R : List RowR} (h : Sl w B 9 A n (R.flatMap encR)) (hn : R.length = n) {k : Nat} (hk : k < n) : ∃ b o x, A = some ⟨b, o, none⟩ ∧ b < B ∧ R[k]? = some x ∧ w.rangeAt b (o + k * 9) (encR x) := by
 obtain ⟨b, o, rfl, hb, hc⟩ := h.2 (by omega)
 obtain ⟨x, hx⟩ : ∃ x, R[k]? = some x := ⟨_, List.getElem?_eq_getElem (by omega)⟩
 refine ⟨b, o, x, rfl, hb, hx, fun j v hj => ?_⟩
 have hj9 := (List.getElem?_eq_some_iff.1 hj).1
 rw [encR_len] at hj9
 have hkl : k < R.length := by omega
 have h2 := hc (k * 9 + j) (by omega)
 rw [flatMap_get encR R (fun x _ => encR_len x) k j hkl hj9, (List.getElem?_eq_some_iff.1 hx).2] at h2
 rw [Nat.add_assoc, h2]
 exact hj
set_option maxRecDepth 100000 in
set_option maxHeartbeats 4000000 in
theorem rows54_any (R : List RowR) (w : World) (A : Option Addr) (n c : Nat) (hn : R.length = n) (hm : n ≤ 1000) (h : Sl w w.heap.size 9 A n (R.flatMap encR)) :
  Calls Tryz.prog 56 #[.slice A n c] w (OwnedRet w 109 9 n (R.flatMap encR)) := by
 have H := Lib.hid h
 have HN := Lib.hid hn
 clear h hn
 go_enter Tryz.func56, Tryz.ntmps56
 go_wp2_with fail
 go_loopw [3, 4] (fun v iv wr => ∃ k : Nat, k ≤ n ∧ iv = .int .i64 ((k : Nat) : Int) ∧ Hid (wr.ownsRow w.heap.size 109 9 v k ((R.take k).flatMap encR)) ∧ Hid (Below w.heap.size w wr)) (fun _ iv _ => n - (intOf iv).toNat)
 case atStart => exact ⟨0, Nat.zero_le _, rfl, World.ownsRow_nil _ _ _ _, Below.refl _ _⟩
 case round =>
  obtain ⟨k, hk, rfl, O, B⟩ := hrel
  by_cases hlt : k < n
  ·have hlk : (k : Int) < (n : Int) := by omega
   obtain ⟨b, o, x, rfl, hb, hx, hr⟩ := row_at54 H.out HN.out hlt
   have RX := Lib.hid (rangeAt_below hr B.out hb)
   have TX : Hid ((R.take (k + 1)).flatMap encR = (R.take k).flatMap encR ++ encR x) := by
    rw [Hid, List.take_add_one, hx, Option.toList_some, List.flatMap_append]
    simp
   have hb8 : w.heap.size ≤ wr.heap.size := B.out.size
   clear hb hx hr
   go_wp2_with (first
    | (refine wpList_load_mid rfl 107 _ (by rfl) b (o + k * 9) (by rfl) _ _ RX.out underRow rfl infoRow ?_)
    | (refine wpList_lit1 rrSl (encR_len x) (by omega) (by rfl) ?_)
    | (at_builtin; refine wpList_push rrSl O.out (encR x) (encR_len x) (encR_one x) hb8 (by omega) (by unfold maxLen; omega) (by rfl) (by rfl) (by rfl) ?_; intro v9 w9 own9 bel9))
   have own9 := Lib.hid own9
   have B9 := Lib.hid (B.out.trans bel9)
   clear bel9 B O
   go_roundw
   case rel => exact ⟨k + 1, by omega, by go_num, by rw [TX.out]; exact own9.out, B9.out⟩
   case measure => simp [intOf]; omega
  ·have hlk : ¬ (k : Int) < (n : Int) := by omega
   obtain rfl : k = n := by omega
   rw [List.take_of_length_le (by rw [HN.out]; exact Nat.le_refl _)] at O
   go_wp2_with fail
   go_ret
   exact ⟨_, rfl, O.out, B.out⟩
set_option maxRecDepth 100000 in
set_option maxHeartbeats 8000000 in
theorem rtotal54_any (R : List RowR) (w : World) (A : Option Addr) (n c : Nat) (hn : R.length = n) (hm : n ≤ 1000) (h : Sl w w.heap.size 9 A n (R.flatMap encR)) :
  Calls Tryz.prog 55 #[.slice A n c] w (RetB w (.agg (encR (totR R)).toArray)) := by
 have H := Lib.hid h
 have HN := Lib.hid hn
 clear h hn
 go_enter Tryz.func55, Tryz.ntmps55
 have K2a : Hid (Blk (w.alloc (.cells (encR zeroR).toArray 109)) w.heap.size 109 (encR zeroR).toArray) := Blk.new _ _ _
 have B0a : Hid (Below w.heap.size w (w.alloc (.cells (encR zeroR).toArray 109))) := below_new _ _
 go_upto_region 1 with (refine wpList_alloced (allocRR _) ?_)
 generalize (w.alloc (.cells (encR zeroR).toArray 109)) = wa at *
 obtain ⟨g2, hg2⟩ : ∃ g, g = w.heap.size := ⟨_, rfl⟩
 have hg2w : Hid (w.heap.size ≤ g2) := by rw [Hid]; omega
 rw [← hg2] at K2a ⊢
 have KZ : Hid (Blk (wa.alloc (.cells (encR zeroR).toArray 109)) wa.heap.size 109 (encR zeroR).toArray) := Blk.new _ _ _
 have KT0 : Hid (Blk ((wa.alloc (.cells (encR zeroR).toArray 109)).setRow wa.heap.size (encR zeroR).toArray) wa.heap.size 109 (encR (totR (R.take 0))).toArray) := KZ.out.row _
 have BN : Hid (Below wa.heap.size wa ((wa.alloc (.cells (encR zeroR).toArray 109)).setRow wa.heap.size (encR zeroR).toArray)) := below_setRow (below_new wa _) (Nat.le_refl _) _
 have hne : Hid (g2 ≠ wa.heap.size) := by have := K2a.out.lt; rw [Hid]; omega
 have hgw : Hid (w.heap.size ≤ wa.heap.size) := B0a.out.size
 clear hg2
 go_upto_region 2 with (first
  | (refine wpList_alloced (allocRR _) ?_)
  | (refine wpList_store_row rfl 109 _ _ (by rfl) wa.heap.size (encR zeroR).toArray (by rfl) (by rfl) _ _ KZ.out infoRR rfl (all_oneCell_toArray (encR_one zeroR)) ?_))
 have K20 := Lib.hid (K2a.out.ext BN.out)
 have B0 := Lib.hid (B0a.out.trans (BN.out.mono B0a.out.size))
 generalize ((wa.alloc (.cells (encR zeroR).toArray 109)).setRow wa.heap.size (encR zeroR).toArray) = w1 at *
 generalize wa.heap.size = gt at *
 clear K2a B0a KZ BN
 go_wp2_with fail
 go_loopw [4] (fun iv wr => ∃ k : Nat, k ≤ n ∧ iv = .int .i64 ((k : Nat) : Int) ∧ Hid (Blk wr gt 109 (encR (totR (R.take k))).toArray) ∧ Hid (Blk wr g2 109 (encR zeroR).toArray) ∧ Hid (Below w.heap.size w wr)) (fun iv _ => n - (intOf iv).toNat)
 case atStart => exact ⟨0, Nat.zero_le _, rfl, KT0.out, K20.out, B0.out⟩
 case round =>
  clear KT0 K20 B0
  obtain ⟨k, hk, rfl, KT, K2, B⟩ := hrel
  by_cases hlt : k < n
  ·have hlk : (k : Int) < (n : Int) := by omega
   obtain ⟨b, o, x, rfl, hb, hx, hr⟩ := row_at54 H.out HN.out hlt
   have RX := Lib.hid (rangeAt_below hr B.out hb)
   have hbr : Hid (b < wr.heap.size) := Nat.lt_of_lt_of_le hb B.out.size
   have TS := Lib.hid (totZ_snoc hx)
   obtain ⟨t, ht⟩ : ∃ t, t = totR (R.take k) := ⟨_, rfl⟩
   rw [← ht] at TS KT
   clear hb hx hr ht
   go_upto_region 5 with fail
   refine wp_region_Z (S := fun w' => Below wr.heap.size wr w') (Z := [65]) mixed54h ?_
   have BD : Hid (Below wr.heap.size wr wr.drew) := (Below.refl _ _).drew
   generalize wr.drew = wd at *
   simp only [List.size_toArray]
   refine zLight (i := 0) rfl (by kernel_rfl) (by kernel_rfl) (by kernel_rfl) (by kernel_rfl) (fun _ _ _ h => h) rfl (fun w' => exField (v := .pointer (some ⟨gt, 1, none⟩)) rfl (by simp [go_sem])) (fun _ => BD.out) ?_
   simp only [Act.put, List.setIfInBounds_toArray, List.set_cons_zero, List.set_cons_succ]
   refine zV (i := 1) rfl (by kernel_rfl) (by kernel_rfl) (by kernel_rfl) (by kernel_rfl) (by kernel_rfl) (fun _ _ _ h => h) rfl (fun w' h => exLoad (v := .int .i64 (t.2.1)) rfl (loadI54b gt 1 w' _ ((KT.out.ext h).cell 1))) BD.out ?_
   simp only [Act.put, List.setIfInBounds_toArray, List.set_cons_zero, List.set_cons_succ]
   refine zLight (i := 2) rfl (by kernel_rfl) (by kernel_rfl) (by kernel_rfl) (by kernel_rfl) (fun _ _ _ h => h) rfl (fun _ => exMove (v := .slice (some ⟨b, o, none⟩) n c) rfl) (fun _ => BD.out) ?_
   simp only [Act.put, List.setIfInBounds_toArray, List.set_cons_zero, List.set_cons_succ]
   refine zLight (i := 3) rfl (by kernel_rfl) (by kernel_rfl) (by kernel_rfl) (by kernel_rfl) (fun _ _ _ h => h) rfl (fun _ => exMove (v := .int .i64 ((k : Nat) : Int)) rfl) (fun _ => BD.out) ?_
   simp only [Act.put, List.setIfInBounds_toArray, List.set_cons_zero, List.set_cons_succ]
   refine zLight (i := 4) rfl (by kernel_rfl) (by kernel_rfl) (by kernel_rfl) (by kernel_rfl) (fun _ _ _ h => h) rfl (fun w' => exIndex (v := .pointer (some ⟨b, o + k * 9, none⟩)) rfl rfl (indexRR b o n c k hlt w')) (fun _ => BD.out) ?_
   simp only [Act.put, List.setIfInBounds_toArray, List.set_cons_zero, List.set_cons_succ]
   refine zLight (i := 5) rfl (by kernel_rfl) (by kernel_rfl) (by kernel_rfl) (by kernel_rfl) (fun _ _ _ h => h) rfl (fun w' => exField (v := .pointer (some ⟨b, o + k * 9 + 1, none⟩)) rfl (fieldRX b (o + k * 9) 1 (by omega) w')) (fun _ => BD.out) ?_
   simp only [Act.put, List.setIfInBounds_toArray, List.set_cons_zero, List.set_cons_succ]
   refine zV (i := 6) rfl (by kernel_rfl) (by kernel_rfl) (by kernel_rfl) (by kernel_rfl) (by kernel_rfl) (fun _ _ _ h => h) rfl (fun w' h => exLoad (v := .int .i64 (x.2.1)) rfl (loadI54b b (o + k * 9 + 1) w' _ ((h.cell hbr.out).trans (RX.out 1 _ rfl)))) BD.out ?_
   simp only [Act.put, List.setIfInBounds_toArray, List.set_cons_zero, List.set_cons_succ]
   refine zLight (i := 7) rfl (by kernel_rfl) (by kernel_rfl) (by kernel_rfl) (by kernel_rfl) (fun _ _ _ h => h) rfl (fun w' => exBin (v := .int .i64 (IntKind.i64.wrap (t.2.1 + x.2.1))) rfl rfl (by rfl) (addW54 (t.2.1) (x.2.1) w')) (fun _ => BD.out) ?_
   simp only [Act.put, List.setIfInBounds_toArray, List.set_cons_zero, List.set_cons_succ]
   refine zLight (i := 8) rfl (by kernel_rfl) (by kernel_rfl) (by kernel_rfl) (by kernel_rfl) (fun _ _ _ h => h) rfl (fun w' => exField (v := .pointer (some ⟨gt, 2, none⟩)) rfl (by simp [go_sem])) (fun _ => BD.out) ?_
   simp only [Act.put, List.setIfInBounds_toArray, List.set_cons_zero, List.set_cons_succ]
   refine zV (i := 9) rfl (by kernel_rfl) (by kernel_rfl) (by kernel_rfl) (by kernel_rfl) (by kernel_rfl) (fun _ _ _ h => h) rfl (fun w' h => exLoad (v := .int .i64 (t.2.2.1)) rfl (loadI54b gt 2 w' _ ((KT.out.ext h).cell 2))) BD.out ?_
   simp only [Act.put, List.setIfInBounds_toArray, List.set_cons_zero, List.set_cons_succ]
   refine zLight (i := 10) rfl (by kernel_rfl) (by kernel_rfl) (by kernel_rfl) (by kernel_rfl) (fun _ _ _ h => h) rfl (fun _ => exMove (v := .slice (some ⟨b, o, none⟩) n c) rfl) (fun _ => BD.out) ?_
   simp only [Act.put, List.setIfInBounds_toArray, List.set_cons_zero, List.set_cons_succ]
   refine zLight (i := 11) rfl (by kernel_rfl) (by kernel_rfl) (by kernel_rfl) (by kernel_rfl) (fun _ _ _ h => h) rfl (fun _ => exMove (v := .int .i64 ((k : Nat) : Int)) rfl) (fun _ => BD.out) ?_
   simp only [Act.put, List.setIfInBounds_toArray, List.set_cons_zero, List.set_cons_succ]
   refine zLight (i := 12) rfl (by kernel_rfl) (by kernel_rfl) (by kernel_rfl) (by kernel_rfl) (fun _ _ _ h => h) rfl (fun w' => exIndex (v := .pointer (some ⟨b, o + k * 9, none⟩)) rfl rfl (indexRR b o n c k hlt w')) (fun _ => BD.out) ?_
   simp only [Act.put, List.setIfInBounds_toArray, List.set_cons_zero, List.set_cons_succ]
   refine zLight (i := 13) rfl (by kernel_rfl) (by kernel_rfl) (by kernel_rfl) (by kernel_rfl) (fun _ _ _ h => h) rfl (fun w' => exField (v := .pointer (some ⟨b, o + k * 9 + 2, none⟩)) rfl (fieldRX b (o + k * 9) 2 (by omega) w')) (fun _ => BD.out) ?_
   simp only [Act.put, List.setIfInBounds_toArray, List.set_cons_zero, List.set_cons_succ]
   refine zV (i := 14) rfl (by kernel_rfl) (by kernel_rfl) (by kernel_rfl) (by kernel_rfl) (by kernel_rfl) (fun _ _ _ h => h) rfl (fun w' h => exLoad (v := .int .i64 (x.2.2.1)) rfl (loadI54b b (o + k * 9 + 2) w' _ ((h.cell hbr.out).trans (RX.out 2 _ rfl)))) BD.out ?_
   simp only [Act.put, List.setIfInBounds_toArray, List.set_cons_zero, List.set_cons_succ]
   refine zLight (i := 15) rfl (by kernel_rfl) (by kernel_rfl) (by kernel_rfl) (by kernel_rfl) (fun _ _ _ h => h) rfl (fun w' => exBin (v := .int .i64 (IntKind.i64.wrap (t.2.2.1 + x.2.2.1))) rfl rfl (by rfl) (addW54 (t.2.2.1) (x.2.2.1) w')) (fun _ => BD.out) ?_
   simp only [Act.put, List.setIfInBounds_toArray, List.set_cons_zero, List.set_cons_succ]
   refine zLight (i := 16) rfl (by kernel_rfl) (by kernel_rfl) (by kernel_rfl) (by kernel_rfl) (fun _ _ _ h => h) rfl (fun w' => exField (v := .pointer (some ⟨gt, 3, none⟩)) rfl (by simp [go_sem])) (fun _ => BD.out) ?_
   simp only [Act.put, List.setIfInBounds_toArray, List.set_cons_zero, List.set_cons_succ]
   refine zV (i := 17) rfl (by kernel_rfl) (by kernel_rfl) (by kernel_rfl) (by kernel_rfl) (by kernel_rfl) (fun _ _ _ h => h) rfl (fun w' h => exLoad (v := .int .i64 (t.2.2.2.1)) rfl (loadI54b gt 3 w' _ ((KT.out.ext h).cell 3))) BD.out ?_
   simp only [Act.put, List.setIfInBounds_toArray, List.set_cons_zero, List.set_cons_succ]
   refine zLight (i := 18) rfl (by kernel_rfl) (by kernel_rfl) (by kernel_rfl) (by kernel_rfl) (fun _ _ _ h => h) rfl (fun _ => exMove (v := .slice (some ⟨b, o, none⟩) n c) rfl) (fun _ => BD.out) ?_
   simp only [Act.put, List.setIfInBounds_toArray, List.set_cons_zero, List.set_cons_succ]
   refine zLight (i := 19) rfl (by kernel_rfl) (by kernel_rfl) (by kernel_rfl) (by kernel_rfl) (fun _ _ _ h => h) rfl (fun _ => exMove (v := .int .i64 ((k : Nat) : Int)) rfl) (fun _ => BD.out) ?_
   simp only [Act.put, List.setIfInBounds_toArray, List.set_cons_zero, List.set_cons_succ]
   refine zLight (i := 20) rfl (by kernel_rfl) (by kernel_rfl) (by kernel_rfl) (by kernel_rfl) (fun _ _ _ h => h) rfl (fun w' => exIndex (v := .pointer (some ⟨b, o + k * 9, none⟩)) rfl rfl (indexRR b o n c k hlt w')) (fun _ => BD.out) ?_
   simp only [Act.put, List.setIfInBounds_toArray, List.set_cons_zero, List.set_cons_succ]
   refine zLight (i := 21) rfl (by kernel_rfl) (by kernel_rfl) (by kernel_rfl) (by kernel_rfl) (fun _ _ _ h => h) rfl (fun w' => exField (v := .pointer (some ⟨b, o + k * 9 + 3, none⟩)) rfl (fieldRX b (o + k * 9) 3 (by omega) w')) (fun _ => BD.out) ?_
   simp only [Act.put, List.setIfInBounds_toArray, List.set_cons_zero, List.set_cons_succ]
   refine zV (i := 22) rfl (by kernel_rfl) (by kernel_rfl) (by kernel_rfl) (by kernel_rfl) (by kernel_rfl) (fun _ _ _ h => h) rfl (fun w' h => exLoad (v := .int .i64 (x.2.2.2.1)) rfl (loadI54b b (o + k * 9 + 3) w' _ ((h.cell hbr.out).trans (RX.out 3 _ rfl)))) BD.out ?_
   simp only [Act.put, List.setIfInBounds_toArray, List.set_cons_zero, List.set_cons_succ]
   refine zLight (i := 23) rfl (by kernel_rfl) (by kernel_rfl) (by kernel_rfl) (by kernel_rfl) (fun _ _ _ h => h) rfl (fun w' => exBin (v := .int .i64 (IntKind.i64.wrap (t.2.2.2.1 + x.2.2.2.1))) rfl rfl (by rfl) (addW54 (t.2.2.2.1) (x.2.2.2.1) w')) (fun _ => BD.out) ?_
   simp only [Act.put, List.setIfInBounds_toArray, List.set_cons_zero, List.set_cons_succ]
   refine zLight (i := 24) rfl (by kernel_rfl) (by kernel_rfl) (by kernel_rfl) (by kernel_rfl) (fun _ _ _ h => h) rfl (fun w' => exField (v := .pointer (some ⟨gt, 4, none⟩)) rfl (by simp [go_sem])) (fun _ => BD.out) ?_
   simp only [Act.put, List.setIfInBounds_toArray, List.set_cons_zero, List.set_cons_succ]
   refine zV (i := 25) rfl (by kernel_rfl) (by kernel_rfl) (by kernel_rfl) (by kernel_rfl) (by kernel_rfl) (fun _ _ _ h => h) rfl (fun w' h => exLoad (v := .int .i64 (t.2.2.2.2.1)) rfl (loadI54b gt 4 w' _ ((KT.out.ext h).cell 4))) BD.out ?_
   simp only [Act.put, List.setIfInBounds_toArray, List.set_cons_zero, List.set_cons_succ]
   refine zLight (i := 26) rfl (by kernel_rfl) (by kernel_rfl) (by kernel_rfl) (by kernel_rfl) (fun _ _ _ h => h) rfl (fun _ => exMove (v := .slice (some ⟨b, o, none⟩) n c) rfl) (fun _ => BD.out) ?_
   simp only [Act.put, List.setIfInBounds_toArray, List.set_cons_zero, List.set_cons_succ]
   refine zLight (i := 27) rfl (by kernel_rfl) (by kernel_rfl) (by kernel_rfl) (by kernel_rfl) (fun _ _ _ h => h) rfl (fun _ => exMove (v := .int .i64 ((k : Nat) : Int)) rfl) (fun _ => BD.out) ?_
   simp only [Act.put, List.setIfInBounds_toArray, List.set_cons_zero, List.set_cons_succ]
   refine zLight (i := 28) rfl (by kernel_rfl) (by kernel_rfl) (by kernel_rfl) (by kernel_rfl) (fun _ _ _ h => h) rfl (fun w' => exIndex (v := .pointer (some ⟨b, o + k * 9, none⟩)) rfl rfl (indexRR b o n c k hlt w')) (fun _ => BD.out) ?_
   simp only [Act.put, List.setIfInBounds_toArray, List.set_cons_zero, List.set_cons_succ]
   refine zLight (i := 29) rfl (by kernel_rfl) (by kernel_rfl) (by kernel_rfl) (by kernel_rfl) (fun _ _ _ h => h) rfl (fun w' => exField (v := .pointer (some ⟨b, o + k * 9 + 4, none⟩)) rfl (fieldRX b (o + k * 9) 4 (by omega) w')) (fun _ => BD.out) ?_
   simp only [Act.put, List.setIfInBounds_toArray, List.set_cons_zero, List.set_cons_succ]
   refine zV (i := 30) rfl (by kernel_rfl) (by kernel_rfl) (by kernel_rfl) (by kernel_rfl) (by kernel_rfl) (fun _ _ _ h => h) rfl (fun w' h => exLoad (v := .int .i64 (x.2.2.2.2.1)) rfl (loadI54b b (o + k * 9 + 4) w' _ ((h.cell hbr.out).trans (RX.out 4 _ rfl)))) BD.out ?_
   simp only [Act.put, List.setIfInBounds_toArray, List.set_cons_zero, List.set_cons_succ]
   refine zLight (i := 31) rfl (by kernel_rfl) (by kernel_rfl) (by kernel_rfl) (by kernel_rfl) (fun _ _ _ h => h) rfl (fun w' => exBin (v := .int .i64 (IntKind.i64.wrap (t.2.2.2.2.1 + x.2.2.2.2.1))) rfl rfl (by rfl) (addW54 (t.2.2.2.2.1) (x.2.2.2.2.1) w')) (fun _ => BD.out) ?_
   simp only [Act.put, List.setIfInBounds_toArray, List.set_cons_zero, List.set_cons_succ]
   refine zLight (i := 32) rfl (by kernel_rfl) (by kernel_rfl) (by kernel_rfl) (by kernel_rfl) (fun _ _ _ h => h) rfl (fun w' => exField (v := .pointer (some ⟨gt, 5, none⟩)) rfl (by simp [go_sem])) (fun _ => BD.out) ?_
   simp only [Act.put, List.setIfInBounds_toArray, List.set_cons_zero, List.set_cons_succ]
   refine zV (i := 33) rfl (by kernel_rfl) (by kernel_rfl) (by kernel_rfl) (by kernel_rfl) (by kernel_rfl) (fun _ _ _ h => h) rfl (fun w' h => exLoad (v := .int .i64 (t.2.2.2.2.2.1)) rfl (loadI54b gt 5 w' _ ((KT.out.ext h).cell 5))) BD.out ?_
   simp only [Act.put, List.setIfInBounds_toArray, List.set_cons_zero, List.set_cons_succ]
   refine zLight (i := 34) rfl (by kernel_rfl) (by kernel_rfl) (by kernel_rfl) (by kernel_rfl) (fun _ _ _ h => h) rfl (fun _ => exMove (v := .slice (some ⟨b, o, none⟩) n c) rfl) (fun _ => BD.out) ?_
   simp only [Act.put, List.setIfInBounds_toArray, List.set_cons_zero, List.set_cons_succ]
   refine zLight (i := 35) rfl (by kernel_rfl) (by kernel_rfl) (by kernel_rfl) (by kernel_rfl) (fun _ _ _ h => h) rfl (fun _ => exMove (v := .int .i64 ((k : Nat) : Int)) rfl) (fun _ => BD.out) ?_
   simp only [Act.put, List.setIfInBounds_toArray, List.set_cons_zero, List.set_cons_succ]
   refine zLight (i := 36) rfl (by kernel_rfl) (by kernel_rfl) (by kernel_rfl) (by kernel_rfl) (fun _ _ _ h => h) rfl (fun w' => exIndex (v := .pointer (some ⟨b, o + k * 9, none⟩)) rfl rfl (indexRR b o n c k hlt w')) (fun _ => BD.out) ?_
   simp only [Act.put, List.setIfInBounds_toArray, List.set_cons_zero, List.set_cons_succ]
   refine zLight (i := 37) rfl (by kernel_rfl) (by kernel_rfl) (by kernel_rfl) (by kernel_rfl) (fun _ _ _ h => h) rfl (fun w' => exField (v := .pointer (some ⟨b, o + k * 9 + 5, none⟩)) rfl (fieldRX b (o + k * 9) 5 (by omega) w')) (fun _ => BD.out) ?_
   simp only [Act.put, List.setIfInBounds_toArray, List.set_cons_zero, List.set_cons_succ]
   refine zV (i := 38) rfl (by kernel_rfl) (by kernel_rfl) (by kernel_rfl) (by kernel_rfl) (by kernel_rfl) (fun _ _ _ h => h) rfl (fun w' h => exLoad (v := .int .i64 (x.2.2.2.2.2.1)) rfl (loadI54b b (o + k * 9 + 5) w' _ ((h.cell hbr.out).trans (RX.out 5 _ rfl)))) BD.out ?_
   simp only [Act.put, List.setIfInBounds_toArray, List.set_cons_zero, List.set_cons_succ]
   refine zLight (i := 39) rfl (by kernel_rfl) (by kernel_rfl) (by kernel_rfl) (by kernel_rfl) (fun _ _ _ h => h) rfl (fun w' => exBin (v := .int .i64 (IntKind.i64.wrap (t.2.2.2.2.2.1 + x.2.2.2.2.2.1))) rfl rfl (by rfl) (addW54 (t.2.2.2.2.2.1) (x.2.2.2.2.2.1) w')) (fun _ => BD.out) ?_
   simp only [Act.put, List.setIfInBounds_toArray, List.set_cons_zero, List.set_cons_succ]
   refine zLight (i := 40) rfl (by kernel_rfl) (by kernel_rfl) (by kernel_rfl) (by kernel_rfl) (fun _ _ _ h => h) rfl (fun w' => exField (v := .pointer (some ⟨gt, 6, none⟩)) rfl (by simp [go_sem])) (fun _ => BD.out) ?_
   simp only [Act.put, List.setIfInBounds_toArray, List.set_cons_zero, List.set_cons_succ]
   refine zV (i := 41) rfl (by kernel_rfl) (by kernel_rfl) (by kernel_rfl) (by kernel_rfl) (by kernel_rfl) (fun _ _ _ h => h) rfl (fun w' h => exLoad (v := .int .i64 (t.2.2.2.2.2.2.1)) rfl (loadI54b gt 6 w' _ ((KT.out.ext h).cell 6))) BD.out ?_
   simp only [Act.put, List.setIfInBounds_toArray, List.set_cons_zero, List.set_cons_succ]
   refine zLight (i := 42) rfl (by kernel_rfl) (by kernel_rfl) (by kernel_rfl) (by kernel_rfl) (fun _ _ _ h => h) rfl (fun _ => exMove (v := .slice (some ⟨b, o, none⟩) n c) rfl) (fun _ => BD.out) ?_
   simp only [Act.put, List.setIfInBounds_toArray, List.set_cons_zero, List.set_cons_succ]
   refine zLight (i := 43) rfl (by kernel_rfl) (by kernel_rfl) (by kernel_rfl) (by kernel_rfl) (fun _ _ _ h => h) rfl (fun _ => exMove (v := .int .i64 ((k : Nat) : Int)) rfl) (fun _ => BD.out) ?_
   simp only [Act.put, List.setIfInBounds_toArray, List.set_cons_zero, List.set_cons_succ]
   refine zLight (i := 44) rfl (by kernel_rfl) (by kernel_rfl) (by kernel_rfl) (by kernel_rfl) (fun _ _ _ h => h) rfl (fun w' => exIndex (v := .pointer (some ⟨b, o + k * 9, none⟩)) rfl rfl (indexRR b o n c k hlt w')) (fun _ => BD.out) ?_
   simp only [Act.put, List.setIfInBounds_toArray, List.set_cons_zero, List.set_cons_succ]
   refine zLight (i := 45) rfl (by kernel_rfl) (by kernel_rfl) (by kernel_rfl) (by kernel_rfl) (fun _ _ _ h => h) rfl (fun w' => exField (v := .pointer (some ⟨b, o + k * 9 + 6, none⟩)) rfl (fieldRX b (o + k * 9) 6 (by omega) w')) (fun _ => BD.out) ?_
   simp only [Act.put, List.setIfInBounds_toArray, List.set_cons_zero, List.set_cons_succ]
   refine zV (i := 46) rfl (by kernel_rfl) (by kernel_rfl) (by kernel_rfl) (by kernel_rfl) (by kernel_rfl) (fun _ _ _ h => h) rfl (fun w' h => exLoad (v := .int .i64 (x.2.2.2.2.2.2.1)) rfl (loadI54b b (o + k * 9 + 6) w' _ ((h.cell hbr.out).trans (RX.out 6 _ rfl)))) BD.out ?_
   simp only [Act.put, List.setIfInBounds_toArray, List.set_cons_zero, List.set_cons_succ]
   refine zLight (i := 47) rfl (by kernel_rfl) (by kernel_rfl) (by kernel_rfl) (by kernel_rfl) (fun _ _ _ h => h) rfl (fun w' => exBin (v := .int .i64 (IntKind.i64.wrap (t.2.2.2.2.2.2.1 + x.2.2.2.2.2.2.1))) rfl rfl (by rfl) (addW54 (t.2.2.2.2.2.2.1) (x.2.2.2.2.2.2.1) w')) (fun _ => BD.out) ?_
   simp only [Act.put, List.setIfInBounds_toArray, List.set_cons_zero, List.set_cons_succ]
   refine zLight (i := 48) rfl (by kernel_rfl) (by kernel_rfl) (by kernel_rfl) (by kernel_rfl) (fun _ _ _ h => h) rfl (fun w' => exField (v := .pointer (some ⟨gt, 7, none⟩)) rfl (by simp [go_sem])) (fun _ => BD.out) ?_
   simp only [Act.put, List.setIfInBounds_toArray, List.set_cons_zero, List.set_cons_succ]
   refine zV (i := 49) rfl (by kernel_rfl) (by kernel_rfl) (by kernel_rfl) (by kernel_rfl) (by kernel_rfl) (fun _ _ _ h => h) rfl (fun w' h => exLoad (v := .int .i64 (t.2.2.2.2.2.2.2.1)) rfl (loadI54b gt 7 w' _ ((KT.out.ext h).cell 7))) BD.out ?_
   simp only [Act.put, List.setIfInBounds_toArray, List.set_cons_zero, List.set_cons_succ]
   refine zLight (i := 50) rfl (by kernel_rfl) (by kernel_rfl) (by kernel_rfl) (by kernel_rfl) (fun _ _ _ h => h) rfl (fun _ => exMove (v := .slice (some ⟨b, o, none⟩) n c) rfl) (fun _ => BD.out) ?_
   simp only [Act.put, List.setIfInBounds_toArray, List.set_cons_zero, List.set_cons_succ]
   refine zLight (i := 51) rfl (by kernel_rfl) (by kernel_rfl) (by kernel_rfl) (by kernel_rfl) (fun _ _ _ h => h) rfl (fun _ => exMove (v := .int .i64 ((k : Nat) : Int)) rfl) (fun _ => BD.out) ?_
   simp only [Act.put, List.setIfInBounds_toArray, List.set_cons_zero, List.set_cons_succ]
   refine zLight (i := 52) rfl (by kernel_rfl) (by kernel_rfl) (by kernel_rfl) (by kernel_rfl) (fun _ _ _ h => h) rfl (fun w' => exIndex (v := .pointer (some ⟨b, o + k * 9, none⟩)) rfl rfl (indexRR b o n c k hlt w')) (fun _ => BD.out) ?_
   simp only [Act.put, List.setIfInBounds_toArray, List.set_cons_zero, List.set_cons_succ]
   refine zLight (i := 53) rfl (by kernel_rfl) (by kernel_rfl) (by kernel_rfl) (by kernel_rfl) (fun _ _ _ h => h) rfl (fun w' => exField (v := .pointer (some ⟨b, o + k * 9 + 7, none⟩)) rfl (fieldRX b (o + k * 9) 7 (by omega) w')) (fun _ => BD.out) ?_
   simp only [Act.put, List.setIfInBounds_toArray, List.set_cons_zero, List.set_cons_succ]
   refine zV (i := 54) rfl (by kernel_rfl) (by kernel_rfl) (by kernel_rfl) (by kernel_rfl) (by kernel_rfl) (fun _ _ _ h => h) rfl (fun w' h => exLoad (v := .int .i64 (x.2.2.2.2.2.2.2.1)) rfl (loadI54b b (o + k * 9 + 7) w' _ ((h.cell hbr.out).trans (RX.out 7 _ rfl)))) BD.out ?_
   simp only [Act.put, List.setIfInBounds_toArray, List.set_cons_zero, List.set_cons_succ]
   refine zLight (i := 55) rfl (by kernel_rfl) (by kernel_rfl) (by kernel_rfl) (by kernel_rfl) (fun _ _ _ h => h) rfl (fun w' => exBin (v := .int .i64 (IntKind.i64.wrap (t.2.2.2.2.2.2.2.1 + x.2.2.2.2.2.2.2.1))) rfl rfl (by rfl) (addW54 (t.2.2.2.2.2.2.2.1) (x.2.2.2.2.2.2.2.1) w')) (fun _ => BD.out) ?_
   simp only [Act.put, List.setIfInBounds_toArray, List.set_cons_zero, List.set_cons_succ]
   refine zLight (i := 56) rfl (by kernel_rfl) (by kernel_rfl) (by kernel_rfl) (by kernel_rfl) (fun _ _ _ h => h) rfl (fun w' => exField (v := .pointer (some ⟨gt, 8, none⟩)) rfl (by simp [go_sem])) (fun _ => BD.out) ?_
   simp only [Act.put, List.setIfInBounds_toArray, List.set_cons_zero, List.set_cons_succ]
   refine zV (i := 57) rfl (by kernel_rfl) (by kernel_rfl) (by kernel_rfl) (by kernel_rfl) (by kernel_rfl) (fun _ _ _ h => h) rfl (fun w' h => exLoad (v := .int .i64 (t.2.2.2.2.2.2.2.2)) rfl (loadI54b gt 8 w' _ ((KT.out.ext h).cell 8))) BD.out ?_
   simp only [Act.put, List.setIfInBounds_toArray, List.set_cons_zero, List.set_cons_succ]
   refine zLight (i := 58) rfl (by kernel_rfl) (by kernel_rfl) (by kernel_rfl) (by kernel_rfl) (fun _ _ _ h => h) rfl (fun _ => exMove (v := .slice (some ⟨b, o, none⟩) n c) rfl) (fun _ => BD.out) ?_
   simp only [Act.put, List.setIfInBounds_toArray, List.set_cons_zero, List.set_cons_succ]
   refine zLight (i := 59) rfl (by kernel_rfl) (by kernel_rfl) (by kernel_rfl) (by kernel_rfl) (fun _ _ _ h => h) rfl (fun _ => exMove (v := .int .i64 ((k : Nat) : Int)) rfl) (fun _ => BD.out) ?_
   simp only [Act.put, List.setIfInBounds_toArray, List.set_cons_zero, List.set_cons_succ]
   refine zLight (i := 60) rfl (by kernel_rfl) (by kernel_rfl) (by kernel_rfl) (by kernel_rfl) (fun _ _ _ h => h) rfl (fun w' => exIndex (v := .pointer (some ⟨b, o + k * 9, none⟩)) rfl rfl (indexRR b o n c k hlt w')) (fun _ => BD.out) ?_
   simp only [Act.put, List.setIfInBounds_toArray, List.set_cons_zero, List.set_cons_succ]
   refine zLight (i := 61) rfl (by kernel_rfl) (by kernel_rfl) (by kernel_rfl) (by kernel_rfl) (fun _ _ _ h => h) rfl (fun w' => exField (v := .pointer (some ⟨b, o + k * 9 + 8, none⟩)) rfl (fieldRX b (o + k * 9) 8 (by omega) w')) (fun _ => BD.out) ?_
   simp only [Act.put, List.setIfInBounds_toArray, List.set_cons_zero, List.set_cons_succ]
   refine zV (i := 62) rfl (by kernel_rfl) (by kernel_rfl) (by kernel_rfl) (by kernel_rfl) (by kernel_rfl) (fun _ _ _ h => h) rfl (fun w' h => exLoad (v := .int .i64 (x.2.2.2.2.2.2.2.2)) rfl (loadI54b b (o + k * 9 + 8) w' _ ((h.cell hbr.out).trans (RX.out 8 _ rfl)))) BD.out ?_
   simp only [Act.put, List.setIfInBounds_toArray, List.set_cons_zero, List.set_cons_succ]
   refine zLight (i := 63) rfl (by kernel_rfl) (by kernel_rfl) (by kernel_rfl) (by kernel_rfl) (fun _ _ _ h => h) rfl (fun w' => exBin (v := .int .i64 (IntKind.i64.wrap (t.2.2.2.2.2.2.2.2 + x.2.2.2.2.2.2.2.2))) rfl rfl (by rfl) (addW54 (t.2.2.2.2.2.2.2.2) (x.2.2.2.2.2.2.2.2) w')) (fun _ => BD.out) ?_
   simp only [Act.put, List.setIfInBounds_toArray, List.set_cons_zero, List.set_cons_succ]
   refine zLight (i := 64) rfl (by kernel_rfl) (by kernel_rfl) (by kernel_rfl) (by kernel_rfl) (fun _ _ _ h => h) rfl (fun w' => exBuild (vs := #[(0, .int .u8 0), (1, .int .i64 (IntKind.i64.wrap (t.2.1 + x.2.1))), (2, .int .i64 (IntKind.i64.wrap (t.2.2.1 + x.2.2.1))), (3, .int .i64 (IntKind.i64.wrap (t.2.2.2.1 + x.2.2.2.1))), (4, .int .i64 (IntKind.i64.wrap (t.2.2.2.2.1 + x.2.2.2.2.1))), (5, .int .i64 (IntKind.i64.wrap (t.2.2.2.2.2.1 + x.2.2.2.2.2.1))), (6, .int .i64 (IntKind.i64.wrap (t.2.2.2.2.2.2.1 + x.2.2.2.2.2.2.1))), (7, .int .i64 (IntKind.i64.wrap (t.2.2.2.2.2.2.2.1 + x.2.2.2.2.2.2.2.1))), (8, .int .i64 (IntKind.i64.wrap (t.2.2.2.2.2.2.2.2 + x.2.2.2.2.2.2.2.2)))]) (by simp only [List.map_toArray, List.map_cons, List.map_nil]; rfl) (buildRX (IntKind.i64.wrap (t.2.1 + x.2.1)) (IntKind.i64.wrap (t.2.2.1 + x.2.2.1)) (IntKind.i64.wrap (t.2.2.2.1 + x.2.2.2.1)) (IntKind.i64.wrap (t.2.2.2.2.1 + x.2.2.2.2.1)) (IntKind.i64.wrap (t.2.2.2.2.2.1 + x.2.2.2.2.2.1)) (IntKind.i64.wrap (t.2.2.2.2.2.2.1 + x.2.2.2.2.2.2.1)) (IntKind.i64.wrap (t.2.2.2.2.2.2.2.1 + x.2.2.2.2.2.2.2.1)) (IntKind.i64.wrap (t.2.2.2.2.2.2.2.2 + x.2.2.2.2.2.2.2.2)) w')) (fun _ => BD.out) ?_
   simp only [Act.put, List.setIfInBounds_toArray, List.set_cons_zero, List.set_cons_succ]
   refine wpAnyZ_all (rs := [65]) (by kernel_rfl) (by simp) ?_
   intro i hi
   simp only [List.mem_cons, List.not_mem_nil, or_false] at hi
   subst hi
   refine wpOp_of rfl rfl (wp_stored (cs := (encR (plusZ t x)).toArray) rfl rfl (KT.out.ext BD.out) infoRR rfl (all_oneCell_toArray (encR_one _)) ?_)
   refine ⟨noZ (by kernel_rfl), ?_⟩
   refine wpAnyZ_done (by kernel_rfl) ?_ _
   have KT2 : Hid (Blk (wd.setRow gt (encR (plusZ t x)).toArray) gt 109 (encR (totR (R.take (k + 1)))).toArray) := by rw [TS.out]; exact (KT.out.ext BD.out).row _
   have K22 := Lib.hid ((K2.out.ext BD.out).rowFar hne.out (encR (plusZ t x)).toArray)
   have B2 := Lib.hid (below_setRow (B.out.trans (BD.out.mono B.out.size)) hgw.out (encR (plusZ t x)).toArray)
   clear KT K2 B BD RX TS
   generalize wd.setRow gt (encR (plusZ t x)).toArray = we at *
   go_wp2_with fail
   go_roundw
   case rel => exact ⟨k + 1, by omega, by go_num, KT2.out, K22.out, B2.out⟩
   case measure => simp [intOf]; omega
  ·have hlk : ¬ (k : Int) < (n : Int) := by omega
   rw [List.take_of_length_le (by rw [HN.out]; omega)] at KT
   go_wp2_with (first
    | (refine wpList_load_row rfl 109 _ (by rfl) gt (by rfl) _ _ _ _ KT.out underRR rfl infoRR ?_)
    | (refine wpList_store_row rfl 109 _ _ (by rfl) g2 (encR (totR R)).toArray (by rfl) (by rfl) _ _ K2.out infoRR rfl (all_oneCell_toArray (encR_one _)) ?_))
   refine bodyPost_ret (results_row54 rfl _ _ g2 _ (encR (totR R)).toArray _ rfl (K2.out.row _) underRR rfl infoRR) rfl ?_
   exact ⟨rfl, below_setRow B.out hg2w.out _⟩
end Go.Proofs.YtihggkmjalofiaaGreatDoor
