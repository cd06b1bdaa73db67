/- Names of patches: each once, in place. -/
import Derived.Test.YtmfdggolnfoniaaSeti
import Derived.Test.YtmfdggolnfoniaaGen
namespace Go.Proofs.Ytmfdggolnfoniaa
open Go.RowKit

theorem zeroP (w : World) : (zeroValue 33).run Try.prog w = .ok (.agg #[.int .u8 0, .int .u16 0]) w := by kernel_rfl
set_option maxRecDepth 100000 in
set_option maxHeartbeats 4000000 in
theorem compactP (l : List PidV) (w : World) (base n g cap : Nat) (hn : l.length = n) (hm : n ≤ 100000) (h : w.ownsRow base 33 2 (.slice (some ⟨g, 0, none⟩) n cap) n (l.flatMap encP)) :
    Calls Try.prog 60 #[.slice (some ⟨g, 0, none⟩) n cap] w fun e w' =>
      e = .returned (.slice (some ⟨g, 0, none⟩) (onceK l).length cap) ∧ w'.ownsRow base 33 2 (.slice (some ⟨g, 0, none⟩) (onceK l).length cap) (onceK l).length ((onceK l).flatMap encP) ∧ Below base w w' := by
  have O := Lib.hid h
  have HL := Lib.hid hn
  have hnc : n ≤ cap := by
    rcases h.2 with ⟨h', _⟩ | ⟨g', cap', cur, h', _, _, hnc, _⟩
    · simp at h'
    · simp only [Value.slice.injEq, Option.some.injEq, Addr.mk.injEq, and_true, true_and] at h'
      omega
  have hgb : base ≤ g := (h.lt g rfl).1
  clear h hn
  by_cases h2 : n < 2
  · have N : Hid (onceK l = l) := by
      have := HL.out
      match l, this with
      | [], _ => rfl
      | [_], _ => rfl
      | _ :: _ :: _, h => simp at h; omega
    go_enter Try.func60, Try.ntmps60
    go_wp2
    go_ret
    rw [N.out, HL.out]
    exact ⟨rfl, O.out, Below.refl _ _⟩
  · have d0 : decide ((n : Int) < 2) = false := decide_eq_false (by omega)
    have d0' : decide (n < 2) = false := decide_eq_false h2
    go_enter Try.func60, Try.ntmps60
    go_wp2_with fail
    go_loopw [3] (fun i wr => ∃ k : Nat, 1 ≤ k ∧ k ≤ n ∧ i = .int .i64 k ∧ Hid (onceK l = l.take (k - 1) ++ onceK (l.drop (k - 1))) ∧ ∃ q, wr = w.drewN q) (fun i _ => n - (intOf i).toNat)
    case atStart => exact ⟨1, by omega, by omega, rfl, by simp [Hid], 0, rfl⟩
    case round =>
      obtain ⟨k, hk1, hk, rfl, I, q, rfl⟩ := hrel
      obtain ⟨x, hx⟩ : ∃ x, l[k - 1]? = some x := ⟨_, List.getElem?_eq_getElem (by rw [HL.out]; omega)⟩
      have hk0 : (0 : Int) ≤ (k : Int) := by omega
      by_cases hlt : k < n
      · obtain ⟨y, hy⟩ : ∃ y, l[k]? = some y := ⟨_, List.getElem?_eq_getElem (by rw [HL.out]; omega)⟩
        have R1 := Lib.hid (own_range O.out encP_len hx (by omega))
        have R2 := Lib.hid (own_range O.out encP_len hy hlt)
        have hlk : (k : Int) < (n : Int) := by omega
        have hp : ((k - 1 : Nat) : Int) = (k : Int) - 1 := by omega
        have hp2 : ((k : Int) - 1).toNat = k - 1 := by omega
        have hp3 : (0 : Int) ≤ (k : Int) - 1 := by omega
        have hp4 : (k : Int) - 1 < (n : Int) := by omega
        have wr1 : IntKind.i64.wrap ((k : Int) - 1) = (k : Int) - 1 := IntWalk.i64_in _ (by omega)
        have EQ := fun u => eqlP y x u
        have z0 : 0 + (k - 1) * 2 = (k - 1) * 2 := by omega
        have z1 : 0 + k * 2 = k * 2 := by omega
        by_cases e : y = x
        · subst e
          have I2 := Lib.hid (in_start (by omega) hx hy I.out)
          have EQ' : ∀ u : World, (binOp .eql 33 (.agg (encP y).toArray) (.agg (encP y).toArray)).run Try.prog u = .ok (.bool true) u := fun u => by rw [EQ]; simp
          clear EQ hx hy I
          have hkc : ¬ cap = k := by omega
          have hkc2 : (k : Int) ≤ (cap : Int) := by omega
          go_wp2_with fail
          refine wp_region_quiet_lit (by kernel_rfl) (by kernel_rfl) ?_
          repeat (first | (refine wpQuiet_load_mid (rangeAt_drewN2 R1.out) underPid rfl infoPid rfl rfl ?_; simp only [List.set_cons_succ, List.set_cons_zero]) | (refine wpQuiet_load_mid (rangeAt_drewN2 R2.out) underPid rfl infoPid rfl rfl ?_; simp only [List.set_cons_succ, List.set_cons_zero]) | go_big_quiet_step (fail))
          refine wpQuiet_nil ?_
          rintro _ ⟨nq, rfl⟩
          clear hp2 z0 z1
          go_wp2_with fail
          have hk1' : k ≤ n := hk
          clear hkc hkc2 hp hp3 hp4 wr1 R1 R2 EQ'
          have O' : Hid ((w.drewN (q + nq)).ownsRow base 33 2 (.slice (some ⟨g, 0, none⟩) n cap) n (l.flatMap encP)) := O.out
          have B' : Hid (Below base w (w.drewN (q + nq))) := below_drewN (Below.refl _ _) _
          generalize w.drewN (q + nq) = w1 at *
          go_loopw [3, 5] (fun kv iv wr => ∃ (kk j : Nat) (bs : List PidV), 1 ≤ j ∧ k + j ≤ n ∧ kk ≤ k + j - 1 ∧ k ≤ kk ∧ kv = .int .i64 kk ∧ iv = .int .i64 j ∧ bs.length = n ∧ Hid (bs.drop (k + j - 1) = l.drop (k + j - 1)) ∧ Hid (onceK l = bs.take kk ++ (onceK (l.drop (k + j - 1))).tail) ∧ Hid (wr.ownsRow base 33 2 (.slice (some ⟨g, 0, none⟩) n cap) n (bs.flatMap encP)) ∧ Hid (Below base w wr)) (fun _ i _ => n - (intOf i).toNat)
          case atStart => exact ⟨k, 1, l, by omega, by omega, by omega, by omega, rfl, rfl, HL.out, rfl, by rw [Nat.add_sub_cancel]; exact I2.out, O'.out, B'.out⟩
          case round =>
            obtain ⟨kk, j, bs, hj1, hjn, hkk, hkk2, rfl, rfl, hbl, D, J, OO, BB⟩ := hrel
            have hj0 : (0 : Int) ≤ (j : Int) := by omega
            have hkk0 : (0 : Int) ≤ (kk : Int) := by omega
            obtain ⟨u, hu⟩ : ∃ u, bs[k + j - 1]? = some u := ⟨_, List.getElem?_eq_getElem (by omega)⟩
            have hu2 : l[k + j - 1]? = some u := by rw [← hu]; exact (get_of_drop D.out (Nat.le_refl _)).symm
            by_cases hjl : j < n - k
            · obtain ⟨v, hv⟩ : ∃ v, bs[k + j]? = some v := ⟨_, List.getElem?_eq_getElem (by omega)⟩
              have hv2 : l[k + j]? = some v := by rw [← hv]; exact (get_of_drop D.out (by omega)).symm
              have R1 : Hid (wr.rangeAt g (k * 2 + (j - 1) * 2) (encP u)) := by
                have := own_range OO.out encP_len hu (by omega)
                rwa [show (k + j - 1) * 2 = k * 2 + (j - 1) * 2 by omega] at this
              have R2 : Hid (wr.rangeAt g (k * 2 + j * 2) (encP v)) := by
                have := own_range OO.out encP_len hv (by omega)
                rwa [show (k + j) * 2 = k * 2 + j * 2 by omega] at this
              have hlj : (j : Int) < ((n - k : Nat) : Int) := by omega
              have hp2 : ((j : Int) - 1).toNat = j - 1 := by omega
              have hp3 : (0 : Int) ≤ (j : Int) - 1 := by omega
              have hp4 : (j : Int) - 1 < ((n - k : Nat) : Int) := by omega
              have wr1 : IntKind.i64.wrap ((j : Int) - 1) = (j : Int) - 1 := IntWalk.i64_in _ (by omega)
              have NE := fun z => neqP v u z
              have D2 := Lib.hid (drop_of_drop D.out (show k + j - 1 ≤ k + (j + 1) - 1 by omega))
              by_cases e : v = u
              · subst e
                have J2 := Lib.hid (in_same (by omega) hu2 hv2)
                have NE' : ∀ z : World, (binOp .neq 33 (.agg (encP v).toArray) (.agg (encP v).toArray)).run Try.prog z = .ok (.bool false) z := fun z => by rw [NE]; simp
                clear NE hu hu2 hv hv2
                go_wp2_with fail
                refine wp_region_quiet_lit (by kernel_rfl) (by kernel_rfl) ?_
                repeat (first | (refine wpQuiet_load_mid (rangeAt_drewN1 R1.out) underPid rfl infoPid rfl rfl ?_; simp only [List.set_cons_succ, List.set_cons_zero]) | (refine wpQuiet_load_mid (rangeAt_drewN1 R2.out) underPid rfl infoPid rfl rfl ?_; simp only [List.set_cons_succ, List.set_cons_zero]) | go_big_quiet_step (fail))
                refine wpQuiet_nil ?_
                rintro _ ⟨nq, rfl⟩
                clear hp2 hp3 hp4 wr1
                go_wp2_with fail
                go_roundw
                case rel => exact ⟨kk, j + 1, bs, by omega, by omega, by omega, by omega, rfl, by go_num, hbl, D2.out, by rw [Hid, J.out, J2.out]; rfl, OO.out, below_drewN BB.out _⟩
                case measure => simp [intOf]; omega
              · have J2 := Lib.hid (in_more (by omega) hu2 hv2 (Ne.symm e))
                have NE' : ∀ z : World, (binOp .neq 33 (.agg (encP v).toArray) (.agg (encP u).toArray)).run Try.prog z = .ok (.bool true) z := fun z => by rw [NE, decide_eq_false e]; rfl
                have hkl : (kk : Int) < (n : Int) := by omega
                have E2 : Hid ((bs.set kk v).drop (k + (j + 1) - 1) = l.drop (k + (j + 1) - 1)) := by rw [Hid, List.drop_set_of_lt (by omega)]; exact D2.out
                have T2 := Lib.hid (set_take (l := bs) v (show kk < bs.length by omega))
                have S2 := Lib.hid (set_flat encP_len bs (show kk < bs.length by omega) v)
                clear NE hu hu2 hv hv2 e
                go_wp2_with fail
                refine wp_region_quiet_lit (by kernel_rfl) (by kernel_rfl) ?_
                repeat (first | (refine wpQuiet_load_mid (rangeAt_drewN1 R1.out) underPid rfl infoPid rfl rfl ?_; simp only [List.set_cons_succ, List.set_cons_zero]) | (refine wpQuiet_load_mid (rangeAt_drewN1 R2.out) underPid rfl infoPid rfl rfl ?_; simp only [List.set_cons_succ, List.set_cons_zero]) | go_big_quiet_step (fail))
                refine wpQuiet_nil ?_
                rintro _ ⟨nq, rfl⟩
                have R3 : Hid ((wr.drewN nq).rangeAt g (k * 2 + j * 2) (encP v)) := R2.out
                have O3 : Hid ((wr.drewN nq).ownsRow base 33 2 (.slice (some ⟨g, 0, none⟩) n cap) n (bs.flatMap encP)) := OO.out
                have B3 : Hid (Below base w (wr.drewN nq)) := below_drewN BB.out _
                have H3 : Hid ((wr.drewN nq).there g (kk * 2) (encP v).toArray.size) := own_there OO.out (by show kk * 2 + 2 ≤ n * 2; omega)
                generalize wr.drewN nq = w3 at *
                clear hp2 hp3 hp4 wr1 R1 R2 OO BB
                go_wp2_with (first | (refine wpList_load_mid rfl 33 _ rfl _ _ (by rfl) _ _ R3.out underPid rfl infoPid ?_) | (refine wpList_store_mid rfl 33 _ _ rfl g (kk * 2) (encP v).toArray (by rfl) (by rfl) H3.out infoPid (all_oneCell_toArray (encP_one v)) ?_))
                obtain ⟨o1, o2⟩ := own_setCells (encP v) (kk * 2) w3 _ O3.out (by show kk * 2 + 2 ≤ n * 2; omega)
                have O4 : Hid ((w3.setCells g (kk * 2) (encP v)).ownsRow base 33 2 (.slice (some ⟨g, 0, none⟩) n cap) n ((bs.set kk v).flatMap encP)) := by rw [Hid, ← S2.out]; exact o1
                have B4 := Lib.hid (B3.out.trans o2)
                clear o1 o2
                go_roundw
                case rel => exact ⟨kk + 1, j + 1, bs.set kk v, by omega, by omega, by omega, by omega, by go_num, by go_num, by rw [List.length_set]; exact hbl, E2.out, by rw [Hid, J.out, J2.out, T2.out, List.append_assoc]; rfl, O4.out, B4.out⟩
                case measure => simp [intOf]; omega
            · have N : Hid (onceK l = bs.take kk) := by rw [Hid, J.out, in_end (by rw [HL.out]; omega) hu2, List.append_nil]
              have NL : Hid ((onceK l).length = kk) := by rw [Hid, N.out, List.length_take]; omega
              have Z := run_clear_rows (P := Try.prog) (size := 2) wr 34 33
              have HC := fun ty => (run_clear_rows (P := Try.prog) (size := 2) wr 34 33 ty _ Try.underlying34 zeroP rfl (by omega) (by intro v hv; simp [Value.cells] at hv; rcases hv with rfl | rfl <;> rfl) g (kk * 2) (n - kk) (cap - kk) (by omega) (own_there OO.out (by omega))).1
              have HLn := (run_clear_rows (P := Try.prog) (size := 2) wr 34 33 0 _ Try.underlying34 zeroP rfl (by omega) (by intro v hv; simp [Value.cells] at hv; rcases hv with rfl | rfl <;> rfl) g (kk * 2) (n - kk) (cap - kk) (by omega) (own_there OO.out (by omega))).2
              clear Z hu hu2 D J
              obtain ⟨o1, o2⟩ := own_setCells _ (kk * 2) wr _ OO.out (by rw [HLn]; omega)
              have O4 := Lib.hid (own_cut o1 (show kk ≤ n by omega))
              have B4 := Lib.hid (BB.out.trans o2)
              have hkc : ¬ cap = kk := by omega
              have hkc2 : (kk : Int) ≤ (cap : Int) := by omega
              have hkl : (kk : Int) ≤ (n : Int) := by omega
              clear o1 o2 HLn
              generalize (Builtin.zeroCells (Value.agg #[.int .u8 0, .int .u16 0]).cells (n - kk)).toList = zs at *
              go_wp2
              go_ret
              have e1 : List.take (kk * 2) (List.take (kk * 2) (bs.flatMap encP) ++ zs ++ List.drop (kk * 2 + zs.length) (bs.flatMap encP)) = (onceK l).flatMap encP := by
                rw [List.append_assoc, N.out, ← cut_flat encP_len bs (by omega), List.take_append_of_le_length (by rw [List.length_take, flatMap_len encP bs (fun x _ => encP_len x)]; omega), List.take_take, Nat.min_self]
              have O5 := O4.out
              rw [e1] at O5
              rw [NL.out]
              exact ⟨rfl, O5, B4.out⟩
        · have EQ' : ∀ u : World, (binOp .eql 33 (.agg (encP y).toArray) (.agg (encP x).toArray)).run Try.prog u = .ok (.bool false) u := fun u => by rw [EQ, decide_eq_false e]
          have N := Lib.hid (out_step (by omega) hx hy (Ne.symm e) I.out)
          clear EQ hx hy I e
          go_wp2_with fail
          refine wp_region_quiet_lit (by kernel_rfl) (by kernel_rfl) ?_
          repeat (first | (refine wpQuiet_load_mid (rangeAt_drewN2 R1.out) underPid rfl infoPid rfl rfl ?_; simp only [List.set_cons_succ, List.set_cons_zero]) | (refine wpQuiet_load_mid (rangeAt_drewN2 R2.out) underPid rfl infoPid rfl rfl ?_; simp only [List.set_cons_succ, List.set_cons_zero]) | go_big_quiet_step (fail))
          refine wpQuiet_nil ?_
          rintro _ ⟨nq, rfl⟩
          clear hp2 z0 z1
          go_wp2_with fail
          go_roundw
          case rel => exact ⟨k + 1, by omega, by omega, by go_num, by rw [Hid, Nat.add_sub_cancel]; exact N.out, _, rfl⟩
          case measure => simp [intOf]; omega
      · have hkn : k = n := by omega
        subst hkn
        have N := Lib.hid (out_end HL.out.symm hx I.out)
        clear hx I
        go_wp2
        go_ret
        rw [N.out, HL.out]
        exact ⟨rfl, O.out, below_drewN (Below.refl _ _) _⟩
set_option maxRecDepth 100000 in
theorem compactNilP (w : World) : Calls Try.prog 60 #[.slice none 0 0] w (Ret w (.slice none 0 0)) := by
  go_enter Try.func60, Try.ntmps60
  go_wp2
  go_ret
  exact ⟨rfl, rfl⟩
end Go.Proofs.Ytmfdggolnfoniaa
