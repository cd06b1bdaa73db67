/- Whether two patches are the same: the parts, walked. -/
import Derived.Test.YtmfdggolnfoniaaPate
namespace Go.Proofs.Ytmfdggolnfoniaa
open Go.RowKit

theorem neqO_any (a1 a2 a3 a4 a5 a6 a7 b1 b2 b3 b4 b5 b6 b7 : Int) (s t : ByteArray) (w : World) : (binOp .neq 54 (.agg #[.int .u8 a1, .int .u8 a2, .int .u16 a3, .int .u8 a4, .int .u8 a5, .int .u16 a6, .int .u8 a7, .string s]) (.agg #[.int .u8 b1, .int .u8 b2, .int .u16 b3, .int .u8 b4, .int .u8 b5, .int .u16 b6, .int .u8 b7, .string t])).run Try.prog w = .ok (.bool (!decide (a1 = b1 ∧ a2 = b2 ∧ a3 = b3 ∧ a4 = b4 ∧ a5 = b5 ∧ a6 = b6 ∧ a7 = b7 ∧ s.toList = t.toList))) w := by
  simp [go_sem]
  by_cases h1 : a1 = b1
  · by_cases h2 : a2 = b2
    · by_cases h3 : a3 = b3
      · by_cases h4 : a4 = b4
        · by_cases h5 : a5 = b5
          · by_cases h6 : a6 = b6
            · by_cases h7 : a7 = b7
              · by_cases h8 : s.toList = t.toList <;> simp [h1, h2, h3, h4, h5, h6, h7, h8]
              · simp [h7]
            · simp [h6]
          · simp [h5]
        · simp [h4]
      · simp [h3]
    · simp [h2]
  · simp [h1]
theorem str_eq {s t : ByteArray} (e : s.toList = t.toList) : s = t := by
  rw [ByteArray.toList_eq, ByteArray.toList_eq] at e
  exact ByteArray.ext (Array.ext' e)
theorem fin_eq {n : Nat} {a b : Fin n} (h : ((a.val : Nat) : Int) = ((b.val : Nat) : Int)) : a = b := Fin.ext (by omega)
theorem opV_iff (x y : OpV) : (((x.1.val : Nat) : Int) = ((y.1.val : Nat) : Int) ∧ ((x.2.1.1.1.val : Nat) : Int) = ((y.2.1.1.1.val : Nat) : Int) ∧ ((x.2.1.1.2.val : Nat) : Int) = ((y.2.1.1.2.val : Nat) : Int) ∧ ((x.2.1.2.val : Nat) : Int) = ((y.2.1.2.val : Nat) : Int) ∧ ((x.2.2.1.1.1.val : Nat) : Int) = ((y.2.2.1.1.1.val : Nat) : Int) ∧ ((x.2.2.1.1.2.val : Nat) : Int) = ((y.2.2.1.1.2.val : Nat) : Int) ∧ ((x.2.2.1.2.val : Nat) : Int) = ((y.2.2.1.2.val : Nat) : Int) ∧ x.2.2.2.toList = y.2.2.2.toList) ↔ x = y := by
  constructor
  · rintro ⟨h1, h2, h3, h4, h5, h6, h7, h8⟩
    exact Prod.ext (fin_eq h1) (Prod.ext (Prod.ext (Prod.ext (fin_eq h2) (fin_eq h3)) (fin_eq h4)) (Prod.ext (Prod.ext (Prod.ext (fin_eq h5) (fin_eq h6)) (fin_eq h7)) (str_eq h8)))
  · rintro rfl; exact ⟨rfl, rfl, rfl, rfl, rfl, rfl, rfl, rfl⟩
theorem neqO (x y : OpV) (w : World) : (binOp .neq 54 (.agg (encO x).toArray) (.agg (encO y).toArray)).run Try.prog w = .ok (.bool (!decide (x = y))) w := by
  rw [show decide (x = y) = _ from (decide_eq_decide.2 (opV_iff x y)).symm]
  exact neqO_any _ _ _ _ _ _ _ _ _ _ _ _ _ _ _ _ w
theorem encsO_one (l : List OpV) : ∀ u ∈ l.flatMap encO, u.oneCell' = true := by
  intro u hu
  obtain ⟨p, _, hp⟩ := List.mem_flatMap.1 hu
  exact encO_one p u hp
set_option maxRecDepth 100000 in
set_option maxHeartbeats 1000000 in
theorem equalP (l m : List PidV) (w : World) (A A' : Option Addr) (n n' c c' : Nat) (h : PidsAt w A n l) (h' : PidsAt w A' n' m) (hm : n ≤ maxLen) :
    Calls Try.prog 32 #[.slice A n c, .slice A' n' c'] w (RetD w (.bool (decide (l = m)))) := by
  unfold maxLen at hm
  by_cases hne : n = n'
  · subst hne
    have H := Lib.hid h
    have H' := Lib.hid h'
    clear h h'
    go_enter Try.func32, Try.ntmps32
    go_wp2_with fail
    go_loopw [13] (fun i wr => ∃ k : Nat, k ≤ n ∧ i = .int .i64 k ∧ Hid (l.take k = m.take k) ∧ ∃ q, wr = w.drewN q) (fun i _ => n - (intOf i).toNat)
    case atStart => exact ⟨0, by omega, rfl, rfl, 0, rfl⟩
    case round =>
      obtain ⟨k, hk, rfl, T, q, rfl⟩ := hrel
      by_cases hlt : k < n
      · obtain ⟨b, o, x, rfl, hb, hx, R1⟩ := H.out.at_ hlt
        obtain ⟨b', o', y, rfl, hb', hy, R2⟩ := H'.out.at_ hlt
        have R1 := Lib.hid R1
        have R2 := Lib.hid R2
        have hlk : (k : Int) < (n : Int) := by omega
        have hk0 : (0 : Int) ≤ (k : Int) := by omega
        have NE := fun u => neqP x y u
        by_cases e : x = y
        · subst e
          have N := Lib.hid (take_eq_snoc T.out hx hy)
          have NE' : ∀ u : World, (binOp .neq 33 (.agg (encP x).toArray) (.agg (encP x).toArray)).run Try.prog u = .ok (.bool false) u := fun u => by rw [NE]; simp
          clear NE hx hy T
          go_wp2_with fail
          refine wp_region_quiet_lit (by kernel_rfl) (by kernel_rfl) ?_
          repeat (first | (refine wpQuiet_load_mid (rangeAt_drewN2 R1.out) underPid rfl infoPid rfl rfl ?_; simp only [List.set_cons_succ, List.set_cons_zero]) | (refine wpQuiet_load_mid (rangeAt_drewN2 R2.out) underPid rfl infoPid rfl rfl ?_; simp only [List.set_cons_succ, List.set_cons_zero]) | go_big_quiet_step (fail))
          refine wpQuiet_nil ?_
          rintro _ ⟨nq, rfl⟩
          go_wp2_with fail
          go_roundw
          case rel => exact ⟨k + 1, by omega, by go_num, N.out, ⟨_, rfl⟩⟩
          case measure => simp [intOf]; omega
        · have F : Hid (decide (l = m) = false) := decide_eq_false fun e2 => e (by rw [e2, hy] at hx; exact (Option.some.inj hx).symm)
          have NE' : ∀ u : World, (binOp .neq 33 (.agg (encP x).toArray) (.agg (encP y).toArray)).run Try.prog u = .ok (.bool true) u := fun u => by rw [NE, decide_eq_false e]; rfl
          clear NE hx hy T e
          go_wp2_with fail
          refine wp_region_quiet_lit (by kernel_rfl) (by kernel_rfl) ?_
          repeat (first | (refine wpQuiet_load_mid (rangeAt_drewN2 R1.out) underPid rfl infoPid rfl rfl ?_; simp only [List.set_cons_succ, List.set_cons_zero]) | (refine wpQuiet_load_mid (rangeAt_drewN2 R2.out) underPid rfl infoPid rfl rfl ?_; simp only [List.set_cons_succ, List.set_cons_zero]) | go_big_quiet_step (fail))
          refine wpQuiet_nil ?_
          rintro _ ⟨nq, rfl⟩
          go_wp2
          go_ret
          exact ⟨ret_bool F.out.symm, _, World.drewN_drewN _ _ _⟩
      · have F : Hid (decide (l = m) = true) := by
          have e := T.out
          rw [List.take_of_length_le (by rw [H.out.len]; omega), List.take_of_length_le (by rw [H'.out.len]; omega)] at e
          exact decide_eq_true e
        clear T
        go_wp2
        go_ret
        exact ⟨ret_bool F.out.symm, q, rfl⟩
  · have F : Hid (decide (l = m) = false) := decide_eq_false fun e => hne (by rw [← h.len, ← h'.len, e])
    clear h h'
    have d1 : ((n : Int) != (n' : Int)) = true := bne_iff_ne.2 (by omega)
    go_enter Try.func32, Try.ntmps32
    go_wp2
    go_ret
    exact ⟨ret_bool F.out.symm, 0, rfl⟩
set_option maxRecDepth 100000 in
set_option maxHeartbeats 1000000 in
theorem equalO (l m : List OpV) (w : World) (A A' : Option Addr) (n n' c c' : Nat) (h : OpsAt w A n l) (h' : OpsAt w A' n' m) (hm : n ≤ maxLen) :
    Calls Try.prog 46 #[.slice A n c, .slice A' n' c'] w (RetD w (.bool (decide (l = m)))) := by
  unfold maxLen at hm
  by_cases hne : n = n'
  · subst hne
    have H := Lib.hid h
    have H' := Lib.hid h'
    clear h h'
    go_enter Try.func46, Try.ntmps46
    go_wp2_with fail
    go_loopw [13] (fun i wr => ∃ k : Nat, k ≤ n ∧ i = .int .i64 k ∧ Hid (l.take k = m.take k) ∧ ∃ q, wr = w.drewN q) (fun i _ => n - (intOf i).toNat)
    case atStart => exact ⟨0, by omega, rfl, rfl, 0, rfl⟩
    case round =>
      obtain ⟨k, hk, rfl, T, q, rfl⟩ := hrel
      by_cases hlt : k < n
      · obtain ⟨b, o, x, rfl, hb, hx, R1, _⟩ := H.out.at_ hlt
        obtain ⟨b', o', y, rfl, hb', hy, R2, _⟩ := H'.out.at_ hlt
        have R1 := Lib.hid R1
        have R2 := Lib.hid R2
        have hlk : (k : Int) < (n : Int) := by omega
        have hk0 : (0 : Int) ≤ (k : Int) := by omega
        have NE := fun u => neqO x y u
        by_cases e : x = y
        · subst e
          have N := Lib.hid (take_eq_snoc T.out hx hy)
          have NE' : ∀ u : World, (binOp .neq 54 (.agg (encO x).toArray) (.agg (encO x).toArray)).run Try.prog u = .ok (.bool false) u := fun u => by rw [NE]; simp
          clear NE hx hy T
          go_wp2_with fail
          refine wp_region_quiet_lit (by kernel_rfl) (by kernel_rfl) ?_
          repeat (first | (refine wpQuiet_load_mid (rangeAt_drewN2 R1.out) underOp rfl infoOp rfl rfl ?_; simp only [List.set_cons_succ, List.set_cons_zero]) | (refine wpQuiet_load_mid (rangeAt_drewN2 R2.out) underOp rfl infoOp rfl rfl ?_; simp only [List.set_cons_succ, List.set_cons_zero]) | go_big_quiet_step (fail))
          refine wpQuiet_nil ?_
          rintro _ ⟨nq, rfl⟩
          go_wp2_with fail
          go_roundw
          case rel => exact ⟨k + 1, by omega, by go_num, N.out, ⟨_, rfl⟩⟩
          case measure => simp [intOf]; omega
        · have F : Hid (decide (l = m) = false) := decide_eq_false fun e2 => e (by rw [e2, hy] at hx; exact (Option.some.inj hx).symm)
          have NE' : ∀ u : World, (binOp .neq 54 (.agg (encO x).toArray) (.agg (encO y).toArray)).run Try.prog u = .ok (.bool true) u := fun u => by rw [NE, decide_eq_false e]; rfl
          clear NE hx hy T e
          go_wp2_with fail
          refine wp_region_quiet_lit (by kernel_rfl) (by kernel_rfl) ?_
          repeat (first | (refine wpQuiet_load_mid (rangeAt_drewN2 R1.out) underOp rfl infoOp rfl rfl ?_; simp only [List.set_cons_succ, List.set_cons_zero]) | (refine wpQuiet_load_mid (rangeAt_drewN2 R2.out) underOp rfl infoOp rfl rfl ?_; simp only [List.set_cons_succ, List.set_cons_zero]) | go_big_quiet_step (fail))
          refine wpQuiet_nil ?_
          rintro _ ⟨nq, rfl⟩
          go_wp2
          go_ret
          exact ⟨ret_bool F.out.symm, _, World.drewN_drewN _ _ _⟩
      · have F : Hid (decide (l = m) = true) := by
          have e := T.out
          rw [List.take_of_length_le (by rw [H.out.len]; omega), List.take_of_length_le (by rw [H'.out.len]; omega)] at e
          exact decide_eq_true e
        clear T
        go_wp2
        go_ret
        exact ⟨ret_bool F.out.symm, q, rfl⟩
  · have F : Hid (decide (l = m) = false) := decide_eq_false fun e => hne (by rw [← h.len, ← h'.len, e])
    clear h h'
    have d1 : ((n : Int) != (n' : Int)) = true := bne_iff_ne.2 (by omega)
    go_enter Try.func46, Try.ntmps46
    go_wp2
    go_ret
    exact ⟨ret_bool F.out.symm, 0, rfl⟩
set_option maxRecDepth 100000 in
set_option maxHeartbeats 1000000 in
theorem cloneO (l : List OpV) (w : World) (A : Option Addr) (n c : Nat) (hm : n ≤ 100000) (h : OpsAt w A n l) :
    Calls Try.prog 39 #[.slice A n c] w (OwnedRet w 54 8 n (l.flatMap encO)) := by
  have HE : ∀ u : World, (binOp .eql 35 (.slice A n c) (.slice none 0 0)).run Try.prog u = .ok (.bool A.isNone) u := fun u => Lib.run_eql_slice_nil u _ _ A n c 0 0 Try.underlying35
  have HS := Lib.hid h.sl
  have HL := Lib.hid h.len
  clear h
  cases A with
  | none =>
    have hn0 : n = 0 := by
      rcases Nat.eq_zero_or_pos n with h0 | h0
      · exact h0
      · obtain ⟨b, o, e, _⟩ := HS.out.2 h0; cases e
    subst hn0
    have hl : Hid (l = []) := List.length_eq_zero_iff.1 HL.out
    have HE' : ∀ u : World, (binOp .eql 35 (.slice none 0 c) (.slice none 0 0)).run Try.prog u = .ok (.bool true) u := HE
    clear HE
    go_enter Try.func39, Try.ntmps39
    go_wp2
    go_ret
    refine ⟨_, rfl, ?_, Below.refl _ _⟩
    rw [hl.out]
    exact World.ownsRow_nil _ _ _ _
  | some a =>
    have HE' : ∀ u : World, (binOp .eql 35 (.slice (some a) n c) (.slice none 0 0)).run Try.prog u = .ok (.bool false) u := HE
    clear HE
    have B0 : Hid (Below w.heap.size w (w.alloc (.cells #[] 54))) := below_new _ _
    have O0 : Hid ((w.alloc (.cells #[] 54)).ownsRow w.heap.size 54 8 (.slice (some ⟨w.heap.size, 0, none⟩) 0 0) 0 []) :=
      ⟨rfl, .inr ⟨w.heap.size, 0, #[], rfl, Nat.le_refl _, heap_alloc_new w _, Nat.le_refl _, by simp, rfl, rfl⟩⟩
    have S0 : Hid (Sl (w.alloc (.cells #[] 54)) w.heap.size 8 (some a) n (l.flatMap encO)) := HS.out.below B0.out (Nat.le_refl _)
    go_enter Try.func39, Try.ntmps39
    go_wp2_with (at_builtin; refine wpList_cat opSl O0.out S0.out (encsO_one l) B0.out.size (by omega) (by unfold maxLen; omega) (by rfl) (by rfl) ?_)
    intro v' w' ho hb
    rw [Nat.zero_add, List.nil_append] at ho
    have O1 := Lib.hid ho
    have B1 := Lib.hid (B0.out.trans hb)
    clear ho hb
    obtain ⟨A2, c2, hv, _, _⟩ := Sl.of_own O1.out
    subst hv
    go_wp2
    go_ret
    exact ⟨_, rfl, O1.out, B1.out⟩
end Go.Proofs.Ytmfdggolnfoniaa
