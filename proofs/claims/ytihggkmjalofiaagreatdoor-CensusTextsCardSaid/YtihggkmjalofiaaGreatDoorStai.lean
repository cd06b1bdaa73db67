/- The document's rows by lines: walked. -/
import Derived.Test.YtihggkmjalofiaaGreatDoorStah
import Derived.Test.YtihggkmjalofiaaGreatDoorGen
import Derived.Test.YtihggkmjalofiaaGreatDoorBufs
namespace Go.Proofs.YtihggkmjalofiaaGreatDoor
open Go.RowKit

theorem sortKy_len {α : Type} (k : α → Int) (l : List α) : (sortKy k l).length = l.length := by
 suffices H : ∀ m : List α, (sortKy k m.reverse).length = m.length by
  have := H l.reverse
  rwa [List.reverse_reverse, List.length_reverse] at this
 intro m
 induction m with
 | nil => rfl
 | cons x t ih =>
  rw [List.reverse_cons, sortKy_snoc]
  unfold insKy
  rw [List.length_append, List.length_take, List.length_cons, List.length_drop, List.length_cons]
  have : atKy k (sortKy k t.reverse) x ≤ (sortKy k t.reverse).length := by
   unfold atKy
   exact (List.takeWhile_prefix _).length_le
  omega
theorem atKy_le {α : Type} (k : α → Int) (l : List α) (x : α) : atKy k l x ≤ l.length := by
 unfold atKy
 exact (List.takeWhile_prefix _).length_le
theorem atKy_step {α : Type} {k : α → Int} {x : α} : ∀ {l : List α} {i : Nat} {y : α}, i ≤ atKy k l x → l[i]? = some y → k x ≤ k y → i + 1 ≤ atKy k l x
 | [], _, _, _, h, _ => by simp at h
 | z :: l, 0, y, _, h, hk => by
  obtain rfl : z = y := by simpa using h
  unfold atKy
  rw [List.takeWhile_cons_of_pos (by simpa using hk), List.length_cons]
  omega
 | z :: l, i + 1, y, hi, h, hk => by
  unfold atKy at hi ⊢
  by_cases hz : k x ≤ k z
  ·rw [List.takeWhile_cons_of_pos (by simpa using hz), List.length_cons] at hi ⊢
   have := atKy_step (k := k) (x := x) (l := l) (i := i) (y := y) (by unfold atKy; omega) (by simpa using h) hk
   unfold atKy at this
   omega
  ·rw [List.takeWhile_cons_of_neg (by simpa using hz)] at hi
   simp at hi
theorem atKy_stop {α : Type} {k : α → Int} {x : α} : ∀ {l : List α} {i : Nat} {y : α}, i ≤ atKy k l x → l[i]? = some y → ¬ k x ≤ k y → atKy k l x = i
 | [], _, _, _, h, _ => by simp at h
 | z :: l, 0, y, _, h, hk => by
  obtain rfl : z = y := by simpa using h
  unfold atKy
  rw [List.takeWhile_cons_of_neg (by simpa using hk)]
  rfl
 | z :: l, i + 1, y, hi, h, hk => by
  unfold atKy at hi ⊢
  by_cases hz : k x ≤ k z
  ·rw [List.takeWhile_cons_of_pos (by simpa using hz), List.length_cons] at hi ⊢
   have := atKy_stop (k := k) (x := x) (l := l) (i := i) (y := y) (by unfold atKy; omega) (by simpa using h) hk
   unfold atKy at this
   omega
  ·rw [List.takeWhile_cons_of_neg (by simpa using hz)] at hi
   simp at hi
theorem geZ54 (a b : Int) (t : Bool) (h : decide (b ≤ a) = t) (w : World) : (binOp .geq 3 (.int .i64 a) (.int .i64 b)).run Tryz.prog w = .ok (.bool t) w := by
 simp [go_sem, h]
theorem encs_oneR (l : List RowR) : ∀ u ∈ l.flatMap encR, u.oneCell' = true := fun u hu => by
 obtain ⟨x, _, hx⟩ := List.mem_flatMap.1 hu
 exact encR_one x u hx
set_option maxRecDepth 100000 in
set_option maxHeartbeats 8000000 in
theorem rbyLines_any (R : List RowR) (w : World) (A : Option Addr) (n c : Nat) (hn : R.length = n) (hm : n ≤ 1000) (h : Sl w w.heap.size 9 A n (R.flatMap encR)) :
  Calls Tryz.prog 60 #[.slice A n c] w (OwnedRet w 109 9 n ((sortKy linesR R).flatMap encR)) := by
 have H := Lib.hid h
 have HN := Lib.hid hn
 clear h hn
 go_enter Tryz.func60, Tryz.ntmps60
 go_wp2_with fail
 go_loopw [3, 4] (fun v iv wr => ∃ k : Nat, k ≤ n ∧ iv = .int .i64 ((k : Nat) : Int) ∧ Hid (wr.ownsRow w.heap.size 109 9 v k ((sortKy linesR (R.take k)).flatMap encR)) ∧ Hid (Below w.heap.size w wr)) (fun _ iv _ => n - (intOf iv).toNat)
 case atStart => exact ⟨0, Nat.zero_le _, rfl, World.ownsRow_nil _ _ _ _, Below.refl _ _⟩
 case round =>
  obtain ⟨k, hk, rfl, O, B⟩ := hrel
  obtain ⟨wi, rfl⟩ : ∃ x, x = wr := ⟨_, rfl⟩
  by_cases hlt : k < n
  ·have hlk : (k : Int) < (n : Int) := by omega
   obtain ⟨b, o, x, rfl, hb, hx, hr⟩ := row_at54 H.out HN.out hlt
   have RX := Lib.hid (rangeAt_below hr B.out hb)
   have hbr : Hid (b < wi.heap.size) := Nat.lt_of_lt_of_le hb B.out.size
   have TX : Hid (sortKy linesR (R.take (k + 1)) = insKy linesR (sortKy linesR (R.take k)) x) := by
    rw [Hid, List.take_add_one, hx, Option.toList_some, sortKy_snoc]
   have HL : Hid ((sortKy linesR (R.take k)).length = k) := by rw [Hid, sortKy_len, List.length_take, HN.out]; omega
   obtain ⟨S, hS⟩ := (⟨_, rfl⟩ : ∃ S, S = sortKy linesR (R.take k))
   rw [← hS] at O TX HL
   clear hb hx hr hS
   obtain ⟨As, cs, hv, hkc, HSl⟩ := Sl.of_own O.out
   subst hv
   have HS := Lib.hid HSl
   have hk1 : k ≤ 1000 := by omega
   clear HSl
   go_wp2_with fail
   go_loopw [5] (fun jv wr => ∃ j : Nat, j ≤ k ∧ jv = .int .i64 ((j : Nat) : Int) ∧ Hid (j ≤ atKy linesR S x) ∧ Hid (Below wi.heap.size wi wr)) (fun jv _ => k - (intOf jv).toNat)
   case atStart => exact ⟨0, Nat.zero_le _, rfl, Nat.zero_le _, Below.refl _ _⟩
   case round =>
    obtain ⟨j, hj, rfl, HJ, BS⟩ := hrel
    have hb8 : wi.heap.size ≤ wr.heap.size := BS.out.size
    have y2 : wr.cell? ⟨b, o + k * 9 + 5, none⟩ = some (.int .i64 (linesR x)) := (BS.out.cell (p := ⟨b, _, none⟩) hbr.out).trans (RX.out 5 _ rfl)
    by_cases hjk : j < k
    ·have hjz : (j : Int) < (k : Int) := by omega
     obtain ⟨b2, o2, y, rfl, hb2, hy, hr2⟩ := row_at54 HS.out HL.out hjk
     have y1 : wr.cell? ⟨b2, o2 + j * 9 + 5, none⟩ = some (.int .i64 (linesR y)) := (BS.out.cell (p := ⟨b2, _, none⟩) hb2).trans (hr2 5 _ rfl)
     have hbs2 : Hid (b2 < wr.heap.size) := Nat.lt_of_lt_of_le hb2 hb8
     have hbs : Hid (b < wr.heap.size) := Nat.lt_of_lt_of_le hbr.out hb8
     obtain ⟨ly, hly⟩ : ∃ z, z = linesR y := ⟨_, rfl⟩
     obtain ⟨lx, hlx⟩ : ∃ z, z = linesR x := ⟨_, rfl⟩
     rw [← hly] at y1
     rw [← hlx] at y2
     by_cases hge : lx ≤ ly
     ·have HJ2 : Hid (j + 1 ≤ atKy linesR S x) := atKy_step HJ.out hy (by rw [← hlx, ← hly]; exact hge)
      have d1 : decide (lx ≤ ly) = true := decide_eq_true hge
      clear hb2 hy hr2 hly hlx hge
      go_upto_region 6 with fail
      refine wp_region_Z (S := fun w' => Below wr.heap.size wr w') (Z := []) mixed54h ?_
      have BD : Hid (Below wr.heap.size wr wr.drew) := (Below.refl _ _).drew
      generalize wr.drew = wd at *
      simp only [List.size_toArray, List.length_cons, List.length_nil]
      refine zLight (i := 0) rfl (by kernel_rfl) (by kernel_rfl) (by kernel_rfl) (by kernel_rfl) (fun _ _ _ h => h) rfl (fun _ => exMove (v := .int .i64 ((j : Nat) : Int)) rfl) (fun _ => BD.out) ?_
      simp only [Act.put, List.setIfInBounds_toArray, List.set_cons_zero, List.set_cons_succ]
      refine zLight (i := 1) rfl (by kernel_rfl) (by kernel_rfl) (by kernel_rfl) (by kernel_rfl) (fun _ _ _ h => h) rfl (fun _ => exMove (v := .slice (some ⟨b2, o2, none⟩) k cs) rfl) (fun _ => BD.out) ?_
      simp only [Act.put, List.setIfInBounds_toArray, List.set_cons_zero, List.set_cons_succ]
      refine zLight (i := 2) rfl (by kernel_rfl) (by kernel_rfl) (by kernel_rfl) (by kernel_rfl) (fun _ _ _ h => h) rfl (fun _ => exLen Tryz.underlying112 rfl) (fun _ => BD.out) ?_
      simp only [Act.put, List.setIfInBounds_toArray, List.set_cons_zero, List.set_cons_succ]
      refine zLight (i := 3) rfl (by kernel_rfl) (by kernel_rfl) (by kernel_rfl) (by kernel_rfl) (fun _ _ _ h => h) rfl (fun w' => exBin (v := .bool true) rfl rfl (by rfl) (ltI54 j k true (by first | exact decide_eq_true (by omega) | exact decide_eq_false (by omega)) w')) (fun _ => BD.out) ?_
      simp only [Act.put, List.setIfInBounds_toArray, List.set_cons_zero, List.set_cons_succ]
      refine zLight (i := 4) rfl (by kernel_rfl) (by kernel_rfl) (by kernel_rfl) (by kernel_rfl) (fun _ _ _ h => h) rfl (fun _ => exMove (v := .bool true) rfl) (fun _ => BD.out) ?_
      simp only [Act.put, List.setIfInBounds_toArray, List.set_cons_zero, List.set_cons_succ]
      refine zLight (i := 5) rfl (by kernel_rfl) (by kernel_rfl) (by kernel_rfl) (by kernel_rfl) (fun _ _ _ h => h) rfl (fun _ => exMove (v := .slice (some ⟨b2, o2, none⟩) k cs) rfl) (fun _ => BD.out) ?_
      simp only [Act.put, List.setIfInBounds_toArray, List.set_cons_zero, List.set_cons_succ]
      refine zLight (i := 6) rfl (by kernel_rfl) (by kernel_rfl) (by kernel_rfl) (by kernel_rfl) (fun _ _ _ h => h) rfl (fun _ => exMove (v := .int .i64 ((j : Nat) : Int)) rfl) (fun _ => BD.out) ?_
      simp only [Act.put, List.setIfInBounds_toArray, List.set_cons_zero, List.set_cons_succ]
      refine zLight (i := 7) rfl (by kernel_rfl) (by kernel_rfl) (by kernel_rfl) (by kernel_rfl) (fun _ _ _ h => h) rfl (fun w' => exIndex (v := .pointer (some ⟨b2, o2 + j * 9, none⟩)) rfl rfl (indexRR b2 o2 k cs j hjk w')) (fun _ => BD.out) ?_
      simp only [Act.put, List.setIfInBounds_toArray, List.set_cons_zero, List.set_cons_succ]
      refine zLight (i := 8) rfl (by kernel_rfl) (by kernel_rfl) (by kernel_rfl) (by kernel_rfl) (fun _ _ _ h => h) rfl (fun w' => exField (v := .pointer (some ⟨b2, o2 + j * 9 + 5, none⟩)) rfl (fieldRX b2 (o2 + j * 9) 5 (by omega) w')) (fun _ => BD.out) ?_
      simp only [Act.put, List.setIfInBounds_toArray, List.set_cons_zero, List.set_cons_succ]
      refine zV (i := 9) rfl (by kernel_rfl) (by kernel_rfl) (by kernel_rfl) (by kernel_rfl) (by kernel_rfl) (fun _ _ _ h => h) rfl (fun w' h => exLoad (v := .int .i64 ly) rfl (loadI54b b2 (o2 + j * 9 + 5) w' _ ((h.cell hbs2.out).trans y1))) BD.out ?_
      simp only [Act.put, List.setIfInBounds_toArray, List.set_cons_zero, List.set_cons_succ]
      refine zLight (i := 10) rfl (by kernel_rfl) (by kernel_rfl) (by kernel_rfl) (by kernel_rfl) (fun _ _ _ h => h) rfl (fun _ => exMove (v := .slice (some ⟨b, o, none⟩) n c) rfl) (fun _ => BD.out) ?_
      simp only [Act.put, List.setIfInBounds_toArray, List.set_cons_zero, List.set_cons_succ]
      refine zLight (i := 11) rfl (by kernel_rfl) (by kernel_rfl) (by kernel_rfl) (by kernel_rfl) (fun _ _ _ h => h) rfl (fun _ => exMove (v := .int .i64 ((k : Nat) : Int)) rfl) (fun _ => BD.out) ?_
      simp only [Act.put, List.setIfInBounds_toArray, List.set_cons_zero, List.set_cons_succ]
      refine zLight (i := 12) rfl (by kernel_rfl) (by kernel_rfl) (by kernel_rfl) (by kernel_rfl) (fun _ _ _ h => h) rfl (fun w' => exIndex (v := .pointer (some ⟨b, o + k * 9, none⟩)) rfl rfl (indexRR b o n c k hlt w')) (fun _ => BD.out) ?_
      simp only [Act.put, List.setIfInBounds_toArray, List.set_cons_zero, List.set_cons_succ]
      refine zLight (i := 13) rfl (by kernel_rfl) (by kernel_rfl) (by kernel_rfl) (by kernel_rfl) (fun _ _ _ h => h) rfl (fun w' => exField (v := .pointer (some ⟨b, o + k * 9 + 5, none⟩)) rfl (fieldRX b (o + k * 9) 5 (by omega) w')) (fun _ => BD.out) ?_
      simp only [Act.put, List.setIfInBounds_toArray, List.set_cons_zero, List.set_cons_succ]
      refine zV (i := 14) rfl (by kernel_rfl) (by kernel_rfl) (by kernel_rfl) (by kernel_rfl) (by kernel_rfl) (fun _ _ _ h => h) rfl (fun w' h => exLoad (v := .int .i64 lx) rfl (loadI54b b (o + k * 9 + 5) w' _ ((h.cell hbs.out).trans y2))) BD.out ?_
      simp only [Act.put, List.setIfInBounds_toArray, List.set_cons_zero, List.set_cons_succ]
      refine zLight (i := 15) rfl (by kernel_rfl) (by kernel_rfl) (by kernel_rfl) (by kernel_rfl) (fun _ _ _ h => h) rfl (fun w' => exBin (v := .bool true) rfl rfl (by rfl) (geZ54 ly lx true d1 w')) (fun _ => BD.out) ?_
      simp only [Act.put, List.setIfInBounds_toArray, List.set_cons_zero, List.set_cons_succ]
      refine zLight (i := 16) rfl (by kernel_rfl) (by kernel_rfl) (by kernel_rfl) (by kernel_rfl) (fun _ _ _ h => h) rfl (fun _ => exPickT (v := .bool true) rfl rfl) (fun _ => BD.out) ?_
      simp only [Act.put, List.setIfInBounds_toArray, List.set_cons_zero, List.set_cons_succ]
      refine wpAnyZ_done (by kernel_rfl) ?_ _
      have BS2 := Lib.hid (BS.out.trans (BD.out.mono hb8))
      clear BS BD y1 y2
      go_wp2_with fail
      go_roundw
      case rel => exact ⟨j + 1, by omega, by go_num, HJ2.out, BS2.out⟩
      case measure => simp [intOf]; omega
     ·have HJ2 : Hid (atKy linesR S x = j) := atKy_stop HJ.out hy (by rw [← hlx, ← hly]; exact hge)
      have d1 : decide (lx ≤ ly) = false := decide_eq_false hge
      clear hb2 hy hr2 hly hlx hge
      go_upto_region 6 with fail
      refine wp_region_Z (S := fun w' => Below wr.heap.size wr w') (Z := []) mixed54h ?_
      have BD : Hid (Below wr.heap.size wr wr.drew) := (Below.refl _ _).drew
      generalize wr.drew = wd at *
      simp only [List.size_toArray, List.length_cons, List.length_nil]
      refine zLight (i := 0) rfl (by kernel_rfl) (by kernel_rfl) (by kernel_rfl) (by kernel_rfl) (fun _ _ _ h => h) rfl (fun _ => exMove (v := .int .i64 ((j : Nat) : Int)) rfl) (fun _ => BD.out) ?_
      simp only [Act.put, List.setIfInBounds_toArray, List.set_cons_zero, List.set_cons_succ]
      refine zLight (i := 1) rfl (by kernel_rfl) (by kernel_rfl) (by kernel_rfl) (by kernel_rfl) (fun _ _ _ h => h) rfl (fun _ => exMove (v := .slice (some ⟨b2, o2, none⟩) k cs) rfl) (fun _ => BD.out) ?_
      simp only [Act.put, List.setIfInBounds_toArray, List.set_cons_zero, List.set_cons_succ]
      refine zLight (i := 2) rfl (by kernel_rfl) (by kernel_rfl) (by kernel_rfl) (by kernel_rfl) (fun _ _ _ h => h) rfl (fun _ => exLen Tryz.underlying112 rfl) (fun _ => BD.out) ?_
      simp only [Act.put, List.setIfInBounds_toArray, List.set_cons_zero, List.set_cons_succ]
      refine zLight (i := 3) rfl (by kernel_rfl) (by kernel_rfl) (by kernel_rfl) (by kernel_rfl) (fun _ _ _ h => h) rfl (fun w' => exBin (v := .bool true) rfl rfl (by rfl) (ltI54 j k true (by first | exact decide_eq_true (by omega) | exact decide_eq_false (by omega)) w')) (fun _ => BD.out) ?_
      simp only [Act.put, List.setIfInBounds_toArray, List.set_cons_zero, List.set_cons_succ]
      refine zLight (i := 4) rfl (by kernel_rfl) (by kernel_rfl) (by kernel_rfl) (by kernel_rfl) (fun _ _ _ h => h) rfl (fun _ => exMove (v := .bool true) rfl) (fun _ => BD.out) ?_
      simp only [Act.put, List.setIfInBounds_toArray, List.set_cons_zero, List.set_cons_succ]
      refine zLight (i := 5) rfl (by kernel_rfl) (by kernel_rfl) (by kernel_rfl) (by kernel_rfl) (fun _ _ _ h => h) rfl (fun _ => exMove (v := .slice (some ⟨b2, o2, none⟩) k cs) rfl) (fun _ => BD.out) ?_
      simp only [Act.put, List.setIfInBounds_toArray, List.set_cons_zero, List.set_cons_succ]
      refine zLight (i := 6) rfl (by kernel_rfl) (by kernel_rfl) (by kernel_rfl) (by kernel_rfl) (fun _ _ _ h => h) rfl (fun _ => exMove (v := .int .i64 ((j : Nat) : Int)) rfl) (fun _ => BD.out) ?_
      simp only [Act.put, List.setIfInBounds_toArray, List.set_cons_zero, List.set_cons_succ]
      refine zLight (i := 7) rfl (by kernel_rfl) (by kernel_rfl) (by kernel_rfl) (by kernel_rfl) (fun _ _ _ h => h) rfl (fun w' => exIndex (v := .pointer (some ⟨b2, o2 + j * 9, none⟩)) rfl rfl (indexRR b2 o2 k cs j hjk w')) (fun _ => BD.out) ?_
      simp only [Act.put, List.setIfInBounds_toArray, List.set_cons_zero, List.set_cons_succ]
      refine zLight (i := 8) rfl (by kernel_rfl) (by kernel_rfl) (by kernel_rfl) (by kernel_rfl) (fun _ _ _ h => h) rfl (fun w' => exField (v := .pointer (some ⟨b2, o2 + j * 9 + 5, none⟩)) rfl (fieldRX b2 (o2 + j * 9) 5 (by omega) w')) (fun _ => BD.out) ?_
      simp only [Act.put, List.setIfInBounds_toArray, List.set_cons_zero, List.set_cons_succ]
      refine zV (i := 9) rfl (by kernel_rfl) (by kernel_rfl) (by kernel_rfl) (by kernel_rfl) (by kernel_rfl) (fun _ _ _ h => h) rfl (fun w' h => exLoad (v := .int .i64 ly) rfl (loadI54b b2 (o2 + j * 9 + 5) w' _ ((h.cell hbs2.out).trans y1))) BD.out ?_
      simp only [Act.put, List.setIfInBounds_toArray, List.set_cons_zero, List.set_cons_succ]
      refine zLight (i := 10) rfl (by kernel_rfl) (by kernel_rfl) (by kernel_rfl) (by kernel_rfl) (fun _ _ _ h => h) rfl (fun _ => exMove (v := .slice (some ⟨b, o, none⟩) n c) rfl) (fun _ => BD.out) ?_
      simp only [Act.put, List.setIfInBounds_toArray, List.set_cons_zero, List.set_cons_succ]
      refine zLight (i := 11) rfl (by kernel_rfl) (by kernel_rfl) (by kernel_rfl) (by kernel_rfl) (fun _ _ _ h => h) rfl (fun _ => exMove (v := .int .i64 ((k : Nat) : Int)) rfl) (fun _ => BD.out) ?_
      simp only [Act.put, List.setIfInBounds_toArray, List.set_cons_zero, List.set_cons_succ]
      refine zLight (i := 12) rfl (by kernel_rfl) (by kernel_rfl) (by kernel_rfl) (by kernel_rfl) (fun _ _ _ h => h) rfl (fun w' => exIndex (v := .pointer (some ⟨b, o + k * 9, none⟩)) rfl rfl (indexRR b o n c k hlt w')) (fun _ => BD.out) ?_
      simp only [Act.put, List.setIfInBounds_toArray, List.set_cons_zero, List.set_cons_succ]
      refine zLight (i := 13) rfl (by kernel_rfl) (by kernel_rfl) (by kernel_rfl) (by kernel_rfl) (fun _ _ _ h => h) rfl (fun w' => exField (v := .pointer (some ⟨b, o + k * 9 + 5, none⟩)) rfl (fieldRX b (o + k * 9) 5 (by omega) w')) (fun _ => BD.out) ?_
      simp only [Act.put, List.setIfInBounds_toArray, List.set_cons_zero, List.set_cons_succ]
      refine zV (i := 14) rfl (by kernel_rfl) (by kernel_rfl) (by kernel_rfl) (by kernel_rfl) (by kernel_rfl) (fun _ _ _ h => h) rfl (fun w' h => exLoad (v := .int .i64 lx) rfl (loadI54b b (o + k * 9 + 5) w' _ ((h.cell hbs.out).trans y2))) BD.out ?_
      simp only [Act.put, List.setIfInBounds_toArray, List.set_cons_zero, List.set_cons_succ]
      refine zLight (i := 15) rfl (by kernel_rfl) (by kernel_rfl) (by kernel_rfl) (by kernel_rfl) (fun _ _ _ h => h) rfl (fun w' => exBin (v := .bool false) rfl rfl (by rfl) (geZ54 ly lx false d1 w')) (fun _ => BD.out) ?_
      simp only [Act.put, List.setIfInBounds_toArray, List.set_cons_zero, List.set_cons_succ]
      refine zLight (i := 16) rfl (by kernel_rfl) (by kernel_rfl) (by kernel_rfl) (by kernel_rfl) (fun _ _ _ h => h) rfl (fun _ => exPickT (v := .bool false) rfl rfl) (fun _ => BD.out) ?_
      simp only [Act.put, List.setIfInBounds_toArray, List.set_cons_zero, List.set_cons_succ]
      refine wpAnyZ_done (by kernel_rfl) ?_ _
      have BS2 := Lib.hid (BS.out.trans (BD.out.mono hb8))
      clear BS BD y1 y2
      have hb9 : wi.heap.size ≤ wd.heap.size := BS2.out.size
      have SL1 : Hid (Sl wd wi.heap.size 9 (cutAddr (some ⟨b2, o2, none⟩) cs 0 9) j ((S.take j).flatMap encR)) := (HS.out.below BS2.out (Nat.le_refl _)).cutHigh HL.out encR_len (by omega)
      have OW0 : Hid (wd.ownsRow wi.heap.size 109 9 (.slice none 0 0) 0 []) := World.ownsRow_nil _ _ _ _
      go_upto_region 10 with (first
       | (refine wpList_slB rfl rfl rfl rfl (run_slice_high rrSl (by omega) _) ?_)
       | (at_builtin; refine wpList_cat rrSl OW0.out SL1.out (encs_oneR _) hb9 (by omega) (by unfold maxLen; omega) (by rfl) (by rfl) ?_; intro v1 w1 own1 bel1))
      rw [Nat.zero_add, List.nil_append] at own1
      have OW1 := Lib.hid own1
      have B1 := Lib.hid (BS2.out.trans bel1)
      have hb1 : wi.heap.size ≤ w1.heap.size := B1.out.size
      have RX1 := Lib.hid (rangeAt_below RX.out B1.out hbr.out)
      clear own1 bel1 BS2 SL1 OW0
      go_upto_region 11 with (first
       | (refine wpList_load_mid rfl 109 _ (by rfl) b (o + k * 9) (by rfl) _ _ RX1.out underRR rfl infoRR ?_)
       | (refine wpList_lit1 rrSl (encR_len x) (by omega) (by rfl) ?_)
       | (at_builtin; refine wpList_push rrSl OW1.out (encR x) (encR_len x) (encR_one x) hb1 (by omega) (by unfold maxLen; omega) (by rfl) (by rfl) (by rfl) ?_; intro v2 w2 own2 bel2))
      have OW2 := Lib.hid own2
      have B2 := Lib.hid (B1.out.trans bel2)
      have hb2 : wi.heap.size ≤ w2.heap.size := B2.out.size
      have SL2 : Hid (Sl w2 wi.heap.size 9 (cutAddr (some ⟨b2, o2, none⟩) cs j 9) (k - j) ((S.drop j).flatMap encR)) := (HS.out.below B2.out (Nat.le_refl _)).cutLow HL.out encR_len (by omega) hkc
      clear own2 bel2 OW1 B1 RX1
      go_wp2_with (first
       | (refine wpList_slB rfl rfl rfl rfl (run_slice_low rrSl (by omega) _) ?_)
       | (at_builtin; refine wpList_cat rrSl OW2.out SL2.out (encs_oneR _) hb2 (by omega) (by unfold maxLen; omega) (by rfl) (by rfl) ?_; intro v3 w3 own3 bel3))
      have OW3 : Hid (w3.ownsRow w.heap.size 109 9 v3 (k + 1) ((sortKy linesR (R.take (k + 1))).flatMap encR)) := by
       have h1 := own_mono' own3 B.out.size
       rw [show j + 1 + (k - j) = k + 1 by omega] at h1
       rw [TX.out]
       unfold insKy
       rw [HJ2.out, List.flatMap_append, List.flatMap_cons, ← List.append_assoc]
       exact h1
      have B3 := Lib.hid (B.out.trans ((B2.out.trans bel3).mono B.out.size))
      clear own3 bel3 OW2 B2 SL2
      go_roundw
      case rel => exact ⟨k + 1, by omega, by go_num, OW3.out, B3.out⟩
      case measure => simp [intOf]; omega
    ·have hjz : ¬ (j : Int) < (k : Int) := by omega
     obtain rfl : j = k := by omega
     have HJ2 : Hid (atKy linesR S x = j) := Nat.le_antisymm (by rw [← HL.out]; exact atKy_le _ _ _) HJ.out
     go_upto_region 6 with fail
     refine wp_region_Z (S := fun w' => Below wr.heap.size wr w') (Z := []) mixed54h ?_
     have BD : Hid (Below wr.heap.size wr wr.drew) := (Below.refl _ _).drew
     generalize wr.drew = wd at *
     simp only [List.size_toArray, List.length_cons, List.length_nil]
     refine zLight (i := 0) rfl (by kernel_rfl) (by kernel_rfl) (by kernel_rfl) (by kernel_rfl) (fun _ _ _ h => h) rfl (fun _ => exMove (v := .int .i64 ((j : Nat) : Int)) rfl) (fun _ => BD.out) ?_
     simp only [Act.put, List.setIfInBounds_toArray, List.set_cons_zero, List.set_cons_succ]
     refine zLight (i := 1) rfl (by kernel_rfl) (by kernel_rfl) (by kernel_rfl) (by kernel_rfl) (fun _ _ _ h => h) rfl (fun _ => exMove (v := .slice As j cs) rfl) (fun _ => BD.out) ?_
     simp only [Act.put, List.setIfInBounds_toArray, List.set_cons_zero, List.set_cons_succ]
     refine zLight (i := 2) rfl (by kernel_rfl) (by kernel_rfl) (by kernel_rfl) (by kernel_rfl) (fun _ _ _ h => h) rfl (fun _ => exLen Tryz.underlying112 rfl) (fun _ => BD.out) ?_
     simp only [Act.put, List.setIfInBounds_toArray, List.set_cons_zero, List.set_cons_succ]
     refine zLight (i := 3) rfl (by kernel_rfl) (by kernel_rfl) (by kernel_rfl) (by kernel_rfl) (fun _ _ _ h => h) rfl (fun w' => exBin (v := .bool false) rfl rfl (by rfl) (ltI54 j j false (by first | exact decide_eq_true (by omega) | exact decide_eq_false (by omega)) w')) (fun _ => BD.out) ?_
     simp only [Act.put, List.setIfInBounds_toArray, List.set_cons_zero, List.set_cons_succ]
     refine zLight (i := 4) rfl (by kernel_rfl) (by kernel_rfl) (by kernel_rfl) (by kernel_rfl) (fun _ _ _ h => h) rfl (fun _ => exMove (v := .bool false) rfl) (fun _ => BD.out) ?_
     simp only [Act.put, List.setIfInBounds_toArray, List.set_cons_zero, List.set_cons_succ]
     refine zSkip (i := 5) rfl (by kernel_rfl) (by kernel_rfl) (by kernel_rfl) (by kernel_rfl) (by kernel_rfl) (fun _ _ _ h => h) rfl BD.out ?_
     simp only [Act.put, List.setIfInBounds_toArray, List.set_cons_zero, List.set_cons_succ]
     refine zSkip (i := 6) rfl (by kernel_rfl) (by kernel_rfl) (by kernel_rfl) (by kernel_rfl) (by kernel_rfl) (fun _ _ _ h => h) rfl BD.out ?_
     simp only [Act.put, List.setIfInBounds_toArray, List.set_cons_zero, List.set_cons_succ]
     refine zSkip (i := 7) rfl (by kernel_rfl) (by kernel_rfl) (by kernel_rfl) (by kernel_rfl) (by kernel_rfl) (fun _ _ _ h => h) rfl BD.out ?_
     simp only [Act.put, List.setIfInBounds_toArray, List.set_cons_zero, List.set_cons_succ]
     refine zSkip (i := 8) rfl (by kernel_rfl) (by kernel_rfl) (by kernel_rfl) (by kernel_rfl) (by kernel_rfl) (fun _ _ _ h => h) rfl BD.out ?_
     simp only [Act.put, List.setIfInBounds_toArray, List.set_cons_zero, List.set_cons_succ]
     refine zSkip (i := 9) rfl (by kernel_rfl) (by kernel_rfl) (by kernel_rfl) (by kernel_rfl) (by kernel_rfl) (fun _ _ _ h => h) rfl BD.out ?_
     simp only [Act.put, List.setIfInBounds_toArray, List.set_cons_zero, List.set_cons_succ]
     refine zSkip (i := 10) rfl (by kernel_rfl) (by kernel_rfl) (by kernel_rfl) (by kernel_rfl) (by kernel_rfl) (fun _ _ _ h => h) rfl BD.out ?_
     simp only [Act.put, List.setIfInBounds_toArray, List.set_cons_zero, List.set_cons_succ]
     refine zSkip (i := 11) rfl (by kernel_rfl) (by kernel_rfl) (by kernel_rfl) (by kernel_rfl) (by kernel_rfl) (fun _ _ _ h => h) rfl BD.out ?_
     simp only [Act.put, List.setIfInBounds_toArray, List.set_cons_zero, List.set_cons_succ]
     refine zSkip (i := 12) rfl (by kernel_rfl) (by kernel_rfl) (by kernel_rfl) (by kernel_rfl) (by kernel_rfl) (fun _ _ _ h => h) rfl BD.out ?_
     simp only [Act.put, List.setIfInBounds_toArray, List.set_cons_zero, List.set_cons_succ]
     refine zSkip (i := 13) rfl (by kernel_rfl) (by kernel_rfl) (by kernel_rfl) (by kernel_rfl) (by kernel_rfl) (fun _ _ _ h => h) rfl BD.out ?_
     simp only [Act.put, List.setIfInBounds_toArray, List.set_cons_zero, List.set_cons_succ]
     refine zSkip (i := 14) rfl (by kernel_rfl) (by kernel_rfl) (by kernel_rfl) (by kernel_rfl) (by kernel_rfl) (fun _ _ _ h => h) rfl BD.out ?_
     simp only [Act.put, List.setIfInBounds_toArray, List.set_cons_zero, List.set_cons_succ]
     refine zSkip (i := 15) rfl (by kernel_rfl) (by kernel_rfl) (by kernel_rfl) (by kernel_rfl) (by kernel_rfl) (fun _ _ _ h => h) rfl BD.out ?_
     simp only [Act.put, List.setIfInBounds_toArray, List.set_cons_zero, List.set_cons_succ]
     refine zLight (i := 16) rfl (by kernel_rfl) (by kernel_rfl) (by kernel_rfl) (by kernel_rfl) (fun _ _ _ h => h) rfl (fun _ => exPickF (v := .bool false) rfl rfl) (fun _ => BD.out) ?_
     simp only [Act.put, List.setIfInBounds_toArray, List.set_cons_zero, List.set_cons_succ]
     refine wpAnyZ_done (by kernel_rfl) ?_ _
     have BS2 := Lib.hid (BS.out.trans (BD.out.mono hb8))
     clear BS BD y2
     have hb9 : wi.heap.size ≤ wd.heap.size := BS2.out.size
     have SL1 : Hid (Sl wd wi.heap.size 9 (cutAddr As cs 0 9) j ((S.take j).flatMap encR)) := (HS.out.below BS2.out (Nat.le_refl _)).cutHigh HL.out encR_len (by omega)
     have OW0 : Hid (wd.ownsRow wi.heap.size 109 9 (.slice none 0 0) 0 []) := World.ownsRow_nil _ _ _ _
     go_upto_region 10 with (first
      | (refine wpList_slB rfl rfl rfl rfl (run_slice_high rrSl (by omega) _) ?_)
      | (at_builtin; refine wpList_cat rrSl OW0.out SL1.out (encs_oneR _) hb9 (by omega) (by unfold maxLen; omega) (by rfl) (by rfl) ?_; intro v1 w1 own1 bel1))
     rw [Nat.zero_add, List.nil_append] at own1
     have OW1 := Lib.hid own1
     have B1 := Lib.hid (BS2.out.trans bel1)
     have hb1 : wi.heap.size ≤ w1.heap.size := B1.out.size
     have RX1 := Lib.hid (rangeAt_below RX.out B1.out hbr.out)
     clear own1 bel1 BS2 SL1 OW0
     go_upto_region 11 with (first
      | (refine wpList_load_mid rfl 109 _ (by rfl) b (o + j * 9) (by rfl) _ _ RX1.out underRR rfl infoRR ?_)
      | (refine wpList_lit1 rrSl (encR_len x) (by omega) (by rfl) ?_)
      | (at_builtin; refine wpList_push rrSl OW1.out (encR x) (encR_len x) (encR_one x) hb1 (by omega) (by unfold maxLen; omega) (by rfl) (by rfl) (by rfl) ?_; intro v2 w2 own2 bel2))
     have OW2 := Lib.hid own2
     have B2 := Lib.hid (B1.out.trans bel2)
     have hb2 : wi.heap.size ≤ w2.heap.size := B2.out.size
     have SL2 : Hid (Sl w2 wi.heap.size 9 (cutAddr As cs j 9) (j - j) ((S.drop j).flatMap encR)) := (HS.out.below B2.out (Nat.le_refl _)).cutLow HL.out encR_len (by omega) hkc
     clear own2 bel2 OW1 B1 RX1
     go_wp2_with (first
      | (refine wpList_slB rfl rfl rfl rfl (run_slice_low rrSl (by omega) _) ?_)
      | (at_builtin; refine wpList_cat rrSl OW2.out SL2.out (encs_oneR _) hb2 (by omega) (by unfold maxLen; omega) (by rfl) (by rfl) ?_; intro v3 w3 own3 bel3))
     have OW3 : Hid (w3.ownsRow w.heap.size 109 9 v3 (j + 1) ((sortKy linesR (R.take (j + 1))).flatMap encR)) := by
      have h1 := own_mono' own3 B.out.size
      rw [show j + 1 + (j - j) = j + 1 by omega] at h1
      rw [TX.out]
      unfold insKy
      rw [HJ2.out, List.flatMap_append, List.flatMap_cons, ← List.append_assoc]
      exact h1
     have B3 := Lib.hid (B.out.trans ((B2.out.trans bel3).mono B.out.size))
     clear own3 bel3 OW2 B2 SL2
     go_roundw
     case rel => exact ⟨j + 1, by omega, by go_num, OW3.out, B3.out⟩
     case measure => simp [intOf]; omega
  ·have hlk : ¬ (k : Int) < (n : Int) := by omega
   obtain rfl : k = n := by omega
   rw [List.take_of_length_le (by rw [HN.out]; exact Nat.le_refl _)] at O
   go_wp2_with fail
   go_ret
   exact ⟨_, rfl, O.out, B.out⟩
end Go.Proofs.YtihggkmjalofiaaGreatDoor
