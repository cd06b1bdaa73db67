/- Vectors: how many of a list are unlike, by the document. -/
import Derived.Test.YtceapefjdiphpaaVecm
namespace Go.Proofs.Ytceapefjdiphpaa
open Go.RowKit

theorem neq_vec (a b : List Int) (ha : VecOk a) (hb : VecOk b) (w : World) : (binOp .neq 24 (.agg (vecA a)) (.agg (vecA b))).run Try.prog w = .ok (.bool (!decide (a = b))) w :=
  run_neq_ints under64 under16 isAgg16 sizeOf16 a b ha.len hb.len w
theorem vec_at {w : World} {B n : Nat} {A : Option Addr} {vs : List (List Int)} (hv : ∀ v ∈ vs, VecOk v) (h : Sl w B 64 A n (vecCs vs)) (hn : vs.length = n) {k : Nat} (hk : k < vs.length) :
    ∃ b o, A = some ⟨b, o, none⟩ ∧ b < B ∧ w.rangeAt b (o + k * 64) (vecC vs[k]) :=
  h.rowAt (enc := vecC) hn (fun v hm => by rw [vecC, List.length_map]; exact (hv v hm).len) hk
theorem vec_info {x : List Int} (h : VecOk x) : (Try.prog.info? 24).map (·.size) = some (vecC x).length := by rw [vecC, List.length_map, h.len]; exact info64

set_option maxRecDepth 100000 in
set_option maxHeartbeats 1000000 in
theorem runlike_any (vs : List (List Int)) (hv : ∀ v ∈ vs, VecOk v) (w : World) (A : Option Addr) (n c : Nat) (hn : vs.length = n) (hm : n ≤ 40) (h : Sl w w.heap.size 64 A n (vecCs vs)) :
    Calls Try.prog 18 #[.slice A n c] w (RetD w (.int .i64 (uniq vs).length)) := by
  have HL := Lib.hid hn
  have H := Lib.hid h
  have HV := Lib.hid hv
  clear h hn hv
  go_enter Try.func18, Try.ntmps18
  go_wp2_with fail
  go_loopw [3, 4] (fun v i wr => ∃ (i' : Nat) (q : Nat), i' ≤ n ∧ i = .int .i64 i' ∧ v = .int .i64 (uniq (vs.take i')).length ∧ wr = w.drewN q) (fun _ i _ => n - (intOf i).toNat)
  case atStart => exact ⟨0, 0, by omega, rfl, by simp [uniq], rfl⟩
  case round =>
    obtain ⟨i, q, hi, rfl, rfl, rfl⟩ := hrel
    have hul : (uniq (vs.take i)).length ≤ 40 := by have := uniq_len_le (vs.take i); rw [List.length_take] at this; omega
    by_cases hlt : i < n
    · have hli : (i : Int) < (n : Int) := by omega
      have hi0 : (0 : Int) ≤ (i : Int) := by omega
      obtain ⟨b, o, hA, hb, hr⟩ := vec_at HV.out H.out HL.out (k := i) (by rw [HL.out]; exact hlt)
      have hx := HV.out _ (List.getElem_mem (show i < vs.length by rw [HL.out]; exact hlt))
      have P1 : Hid (vs.take (i + 1) = vs.take i ++ [vs[i]'(by rw [HL.out]; exact hlt)]) := List.take_succ_eq_append_getElem _
      generalize vs[i]'(by rw [HL.out]; exact hlt) = x at *
      have X := Lib.hid hx
      have R := Lib.hid hr
      have U : Hid (uniq (vs.take (i + 1)) = addU (uniq (vs.take i)) x) := by rw [Hid, P1.out, uniq_snoc]
      clear P1 hx hr
      subst hA
      have hul0 : (0 : Int) ≤ ((uniq (vs.take i)).length : Int) := by omega
      have MU := Lib.hid (mem_uniq (vs.take i) x)
      generalize uniq (vs.take i) = L at *
      go_wp2_with fail
      go_loopw [5, 6] (fun f j wr => ∃ (j' : Nat) (q : Nat), j' ≤ i ∧ j = .int .i64 j' ∧ f = .bool (decide (x ∉ vs.take j')) ∧ wr = w.drewN q) (fun _ j _ => i - (intOf j).toNat)
      case atStart => exact ⟨0, q, by omega, rfl, by simp, rfl⟩
      case round =>
        obtain ⟨j, q', hj, rfl, rfl, rfl⟩ := hrel
        by_cases hjl : j < i
        · have hlj : (j : Int) < (i : Int) := by omega
          have hj0 : (0 : Int) ≤ (j : Int) := by omega
          obtain ⟨b', o', hA, hb', hr'⟩ := vec_at HV.out H.out HL.out (k := j) (by rw [HL.out]; omega)
          obtain ⟨rfl, rfl⟩ : b = b' ∧ o = o' := by simpa using hA
          have hy := HV.out _ (List.getElem_mem (show j < vs.length by rw [HL.out]; omega))
          have P1 : Hid (vs.take (j + 1) = vs.take j ++ [vs[j]'(by rw [HL.out]; omega)]) := List.take_succ_eq_append_getElem _
          generalize vs[j]'(by rw [HL.out]; omega) = y at *
          have R' := Lib.hid hr'
          have Y := Lib.hid hy
          clear hr' hy hA hb'
          by_cases hin : x ∈ vs.take j
          · have hd : decide (x ∉ vs.take j) = false := decide_eq_false (fun h => h hin)
            have G : Hid (decide (x ∉ vs.take (j + 1)) = false) := decide_eq_false (fun h => h (by rw [P1.out]; exact List.mem_append_left _ hin))
            rw [hd]
            clear hd hin P1
            go_wp2_with fail
            go_quiet (fail)
            go_wp2_with fail
            go_roundw
            case rel => exact ⟨j + 1, _, by omega, by go_num, by rw [G.out], by first | rfl | exact World.drewN_drewN _ _ _⟩
            case measure => simp [intOf]; omega
          · have hd : decide (x ∉ vs.take j) = true := decide_eq_true hin
            have G : Hid (decide (x ∉ vs.take (j + 1)) = !decide (y = x)) := by
              rw [Hid, P1.out]
              by_cases e : y = x
              · subst e; simp
              · have e' : ¬ x = y := fun h => e h.symm
                simp [hin, e, e']
            rw [hd]
            have NE : ∀ u : World, (binOp .neq 24 (.agg (vecC y).toArray) (.agg (vecC x).toArray)).run Try.prog u = .ok (.bool (!decide (y = x))) u := neq_vec y x Y.out X.out
            generalize (!decide (y = x)) = t at *
            clear hd hin P1
            go_wp2_with fail
            refine wp_region_quiet_lit (by kernel_rfl) (by kernel_rfl) ?_
            repeat (first | go_big_quiet_skip | (refine wpQuiet_load_mid (rangeAt_drewN2 R.out) under64 rfl (vec_info X.out) rfl rfl ?_; simp only [List.set_cons_succ, List.set_cons_zero]) | (refine wpQuiet_load_mid (rangeAt_drewN2 R'.out) under64 rfl (vec_info Y.out) rfl rfl ?_; simp only [List.set_cons_succ, List.set_cons_zero]) | go_big_quiet_step (fail))
            refine wpQuiet_nil ?_
            rintro _ ⟨nq, rfl⟩
            go_wp2_with fail
            go_roundw
            case rel => exact ⟨j + 1, _, by omega, by go_num, by rw [G.out], by first | rfl | exact World.drewN_drewN _ _ _⟩
            case measure => simp [intOf]; omega
        · have hj' : j = i := by omega
          subst hj'
          by_cases hin : x ∈ vs.take j
          · have hd : decide (x ∉ vs.take j) = false := decide_eq_false (fun h => h hin)
            have G : Hid ((uniq (vs.take (j + 1))).length = L.length) := by rw [Hid, U.out]; unfold addU; rw [if_pos (MU.out.2 hin)]
            rw [hd]
            clear hd hin
            go_wp2_with fail
            go_roundw
            case rel => exact ⟨j + 1, q', by omega, by go_num, by rw [G.out], rfl⟩
            case measure => simp [intOf]; omega
          · have hd : decide (x ∉ vs.take j) = true := decide_eq_true hin
            have G : Hid ((uniq (vs.take (j + 1))).length = L.length + 1) := by rw [Hid, U.out]; unfold addU; rw [if_neg (fun h => hin (MU.out.1 h))]; simp
            rw [hd]
            clear hd hin
            go_wp2_with fail
            go_roundw
            case rel => exact ⟨j + 1, q', by omega, by go_num, by rw [G.out]; go_num, rfl⟩
            case measure => simp [intOf]; omega
    · have hk' : i = n := by omega
      subst hk'
      rw [List.take_of_length_le (by rw [HL.out]; exact Nat.le_refl _)]
      go_wp2
      go_ret
      exact ⟨rfl, q, rfl⟩
end Go.Proofs.Ytceapefjdiphpaa
