/- Whether two patches are the same: the document's, walked. -/
import Derived.Test.YtihggkmjalofiaaDoorOps
namespace Go.Proofs.YtihggkmjalofiaaDoor
open Go.RowKit

set_option maxRecDepth 100000 in
set_option maxHeartbeats 4000000 in
theorem rpsame (p q : PatV) (w : World) (cs ds : List Value) (hp : PatAt w cs p) (hq : PatAt w ds q) :
    Calls Tryd.prog 17 #[.agg cs.toArray, .agg ds.toArray] w (RetB w (.bool (decide (p = q)))) := by
  obtain ⟨⟨A, c, A', c', rfl, P1, O1⟩, m1, m2⟩ := hp
  obtain ⟨⟨B, d, B', d', rfl, P2, O2⟩, m3, m4⟩ := hq
  have K1 : Hid (Blk ((w.alloc (.cells (patC p.1 A p.2.1.length c A' p.2.2.length c').toArray 33)).alloc (.cells (patC q.1 B q.2.1.length d B' q.2.2.length d').toArray 33)) w.heap.size 33 (patC p.1 A p.2.1.length c A' p.2.2.length c').toArray) := (Blk.new _ _ _).alloc _
  have K2 : Hid (Blk ((w.alloc (.cells (patC p.1 A p.2.1.length c A' p.2.2.length c').toArray 33)).alloc (.cells (patC q.1 B q.2.1.length d B' q.2.2.length d').toArray 33)) (w.heap.size + 1) 33 (patC q.1 B q.2.1.length d B' q.2.2.length d').toArray) := Blk.newAt (by simp) _ _
  have B0 : Hid (Below w.heap.size w ((w.alloc (.cells (patC p.1 A p.2.1.length c A' p.2.2.length c').toArray 33)).alloc (.cells (patC q.1 B q.2.1.length d B' q.2.2.length d').toArray 33))) := ((Below.refl _ _).alloc (Nat.le_refl _) _).alloc (by simp) _
  go_enter Tryd.func17, Tryd.ntmps17
  go_upto_region 1 with fail
  generalize ((w.alloc (.cells (patC p.1 A p.2.1.length c A' p.2.2.length c').toArray 33)).alloc (.cells (patC q.1 B q.2.1.length d B' q.2.2.length d').toArray 33)) = w2 at *
  have R1 := Lib.hid (patC_pid K1.out)
  have R2 := Lib.hid (patC_pid K2.out)
  have P1 := Lib.hid (P1.ext B0.out)
  have P2 := Lib.hid (P2.ext B0.out)
  have O1 := Lib.hid (O1.ext B0.out)
  have O2 := Lib.hid (O2.ext B0.out)
  have a2 : w2.cell? ⟨w.heap.size, 2, none⟩ = some (.slice A p.2.1.length c) := K1.out.cell 2
  have a3 : w2.cell? ⟨w.heap.size, 3, none⟩ = some (.slice A' p.2.2.length c') := K1.out.cell 3
  have b2 : w2.cell? ⟨w.heap.size + 1, 2, none⟩ = some (.slice B q.2.1.length d) := K2.out.cell 2
  have b3 : w2.cell? ⟨w.heap.size + 1, 3, none⟩ = some (.slice B' q.2.2.length d') := K2.out.cell 3
  have EQ := fun u => neqP p.1 q.1 u
  by_cases e1 : p.1 = q.1
  · have EQ' : ∀ u : World, (binOp .neq 29 (.agg (encP p.1).toArray) (.agg (encP q.1).toArray)).run Tryd.prog u = .ok (.bool false) u := fun u => by rw [EQ, decide_eq_true e1]; rfl
    clear EQ
    have C1 := fun u => rsameP p.2.1 q.2.1 (w2.drewN u) A B p.2.1.length q.2.1.length c d (P1.out.drewN u) (P2.out.drewN u) m1
    by_cases e2 : p.2.1 = q.2.1
    · simp only [decide_eq_true e2] at C1
      by_cases e4 : p.2.2.length = q.2.2.length
      · have d4 : ((p.2.2.length : Int) != (q.2.2.length : Int)) = false := by rw [e4]; simp
        have F : Hid (p.2.2 = q.2.2 → decide (p = q) = true) := fun e3 => decide_eq_true ((patV_eq p q).2 ⟨e1, e2, e3⟩)
        have G : Hid (p.2.2 ≠ q.2.2 → decide (p = q) = false) := fun e3 => decide_eq_false fun h => e3 ((patV_eq p q).1 h).2.2
        clear e1 e2
        go_wp2_with (first | (refine wpList_load_mid rfl 29 _ rfl _ _ (by rfl) _ _ R1.out underPid rfl infoPid ?_) | (refine wpList_load_mid rfl 29 _ rfl _ _ (by rfl) _ _ R2.out underPid rfl infoPid ?_) | (refine (C1 0).mono ?_; rintro e w' ⟨rfl, q1, rfl⟩))
        go_loopw [5] (fun i wr => ∃ k : Nat, k ≤ p.2.2.length ∧ i = .int .i64 k ∧ Hid (p.2.2.take k = q.2.2.take k) ∧ ∃ u, wr = w2.drewN u) (fun i _ => p.2.2.length - (intOf i).toNat)
        case atStart => exact ⟨0, by omega, rfl, rfl, _, rfl⟩
        case round =>
          obtain ⟨k, hk, rfl, T, u, rfl⟩ := hrel
          have hk0 : (0 : Int) ≤ (k : Int) := by omega
          by_cases hlt : k < p.2.2.length
          · obtain ⟨b, o, x, rfl, hb, hx, R3, _⟩ := O1.out.at_ hlt
            obtain ⟨b', o', y, rfl, hb', hy, R4, _⟩ := O2.out.at_ (by rw [← e4]; exact hlt)
            have R3 := Lib.hid R3
            have hm2 := m2
            unfold maxLen at hm2
            have R4 := Lib.hid R4
            have hlk : (k : Int) < (p.2.2.length : Int) := by omega
            have hlk2 : (k : Int) < (q.2.2.length : Int) := by omega
            have NE := fun u => neqO x y u
            by_cases e : x = y
            · subst e
              have N := Lib.hid (take_eq_snoc T.out hx hy)
              have NE' : ∀ u : World, (binOp .neq 41 (.agg (encO x).toArray) (.agg (encO x).toArray)).run Tryd.prog u = .ok (.bool false) u := fun u => by rw [NE]; simp
              clear NE hx hy T
              go_wp2_with fail
              refine wp_region_quiet_lit (by kernel_rfl) (by kernel_rfl) ?_
              repeat (first | (refine wpQuiet_load_mid (rangeAt_drewN2 R3.out) underOp rfl infoOp rfl rfl ?_; simp only [List.set_cons_succ, List.set_cons_zero]) | (refine wpQuiet_load_mid (rangeAt_drewN2 R4.out) underOp rfl infoOp rfl rfl ?_; simp only [List.set_cons_succ, List.set_cons_zero]) | go_big_quiet_step (fail))
              refine wpQuiet_nil ?_
              rintro _ ⟨nq, rfl⟩
              go_wp2_with fail
              go_roundw
              case rel => exact ⟨k + 1, by omega, by go_num, N.out, ⟨_, rfl⟩⟩
              case measure => simp [intOf]; omega
            · have F := Lib.hid (G.out fun e2 => e (by rw [e2, hy] at hx; exact (Option.some.inj hx).symm))
              have NE' : ∀ u : World, (binOp .neq 41 (.agg (encO x).toArray) (.agg (encO y).toArray)).run Tryd.prog u = .ok (.bool true) u := fun u => by rw [NE, decide_eq_false e]; rfl
              clear NE hx hy T e
              go_wp2_with fail
              refine wp_region_quiet_lit (by kernel_rfl) (by kernel_rfl) ?_
              repeat (first | (refine wpQuiet_load_mid (rangeAt_drewN2 R3.out) underOp rfl infoOp rfl rfl ?_; simp only [List.set_cons_succ, List.set_cons_zero]) | (refine wpQuiet_load_mid (rangeAt_drewN2 R4.out) underOp rfl infoOp rfl rfl ?_; simp only [List.set_cons_succ, List.set_cons_zero]) | go_big_quiet_step (fail))
              refine wpQuiet_nil ?_
              rintro _ ⟨nq, rfl⟩
              go_wp2
              go_ret
              exact ⟨ret_bool F.out.symm, below_drewN (below_drewN B0.out _) _⟩
          · have F := Lib.hid (F.out (by
              have e := T.out
              rwa [List.take_of_length_le (by omega), List.take_of_length_le (by omega)] at e))
            have hlk : ¬ ((k : Int) < (p.2.2.length : Int)) := by omega
            clear T
            go_wp2
            go_ret
            exact ⟨ret_bool F.out.symm, below_drewN B0.out _⟩
      · have d4 : ((p.2.2.length : Int) != (q.2.2.length : Int)) = true := bne_iff_ne.2 (by omega)
        have F : Hid (decide (p = q) = false) := decide_eq_false fun h => e4 (by rw [h])
        clear e1 e2 e4
        go_wp2_with (first | (refine wpList_load_mid rfl 29 _ rfl _ _ (by rfl) _ _ R1.out underPid rfl infoPid ?_) | (refine wpList_load_mid rfl 29 _ rfl _ _ (by rfl) _ _ R2.out underPid rfl infoPid ?_) | (refine (C1 0).mono ?_; rintro e w' ⟨rfl, q1, rfl⟩))
        go_ret
        exact ⟨ret_bool F.out.symm, below_drewN B0.out _⟩
    · have F : Hid (decide (p = q) = false) := decide_eq_false fun h => e2 ((patV_eq p q).1 h).2.1
      simp only [decide_eq_false e2] at C1
      clear e1 e2
      go_wp2_with (first | (refine wpList_load_mid rfl 29 _ rfl _ _ (by rfl) _ _ R1.out underPid rfl infoPid ?_) | (refine wpList_load_mid rfl 29 _ rfl _ _ (by rfl) _ _ R2.out underPid rfl infoPid ?_) | (refine (C1 0).mono ?_; rintro e w' ⟨rfl, q1, rfl⟩))
      go_ret
      exact ⟨ret_bool F.out.symm, below_drewN B0.out _⟩
  · have F : Hid (decide (p = q) = false) := decide_eq_false fun h => e1 ((patV_eq p q).1 h).1
    have EQ' : ∀ u : World, (binOp .neq 29 (.agg (encP p.1).toArray) (.agg (encP q.1).toArray)).run Tryd.prog u = .ok (.bool true) u := fun u => by rw [EQ, decide_eq_false e1]; rfl
    clear EQ e1
    go_wp2_with (first | (refine wpList_load_mid rfl 29 _ rfl _ _ (by rfl) _ _ R1.out underPid rfl infoPid ?_) | (refine wpList_load_mid rfl 29 _ rfl _ _ (by rfl) _ _ R2.out underPid rfl infoPid ?_))
    go_ret
    exact ⟨ret_bool F.out.symm, B0.out⟩
end Go.Proofs.YtihggkmjalofiaaDoor
