/- The reference's reading of a number: walked. -/
import Derived.Test.YtdafiipedlglpaaGreatDoorRpa
namespace Go.Proofs.YtdafiipedlglpaaGreatDoor
open Go.RowKit

/-- the number of its groups of seven bits -/
def hv : List UInt8 → Nat
  | [] => 0
  | x :: t => x.toNat % 128 + 128 * hv t
theorem hv_snoc (x : UInt8) : ∀ l : List UInt8, hv (l ++ [x]) = hv l + x.toNat % 128 * 128 ^ l.length
  | [] => by simp [hv]
  | y :: t => by
    show y.toNat % 128 + 128 * hv (t ++ [x]) = y.toNat % 128 + 128 * hv t + x.toNat % 128 * 128 ^ (t.length + 1)
    rw [hv_snoc x t, Nat.mul_add, Nat.pow_succ]
    have : 128 * (x.toNat % 128 * 128 ^ t.length) = x.toNat % 128 * (128 ^ t.length * 128) := by rw [Nat.mul_comm (128 ^ t.length) 128, Nat.mul_left_comm]
    omega
theorem hv_take {l : List UInt8} {k : Nat} {x : UInt8} (h : l[k]? = some x) : hv (l.take (k + 1)) = hv (l.take k) + x.toNat % 128 * 128 ^ k := by
  have hk := (List.getElem?_eq_some_iff.1 h).1
  rw [take_snoc' h, hv_snoc, List.length_take, Nat.min_eq_left (by omega)]
theorem hv_drop : ∀ (l : List UInt8) (j : Nat), hv (l.drop j) ≤ hv l
  | [], j => by simp
  | _ :: _, 0 => Nat.le_refl _
  | x :: t, j + 1 => by
    have := hv_drop t j
    show hv (t.drop j) ≤ x.toNat % 128 + 128 * hv t
    omega
theorem drop_cons {l : List UInt8} {k : Nat} {x : UInt8} (h : l[k]? = some x) : l.drop k = x :: l.drop (k + 1) := by
  obtain ⟨h1, h2⟩ := List.getElem?_eq_some_iff.1 h
  rw [List.drop_eq_getElem_cons h1, h2]
theorem drop_take_one {l : List UInt8} {k : Nat} {x : UInt8} (h : l[k]? = some x) : (l.take (k + 1)).drop k = [x] := by
  have hk := (List.getElem?_eq_some_iff.1 h).1
  rw [take_snoc' h, List.drop_append, List.drop_of_length_le (by rw [List.length_take]; omega), List.length_take, Nat.min_eq_left (by omega), Nat.sub_self]
  rfl
theorem up8_run (q : Nat) (w : World) (h : q < 256 := by omega) : (convert 5 25 (.int .u8 (q : Int))).run Tryz.prog w = .ok (.int .u64 (q : Int)) w := by
  have e : (q : Int) = IntKind.u64.wrap (q : Int) := by rw [IntKind.wrap_u64]; omega
  conv => rhs; rw [e]
  simp [go_sem]
theorem sub128_run {q : Nat} (h : 128 ≤ q) (h2 : q < 256) (w : World) : (binOp .sub 5 (.int .u8 (q : Int)) (.int .u8 128)).run Tryz.prog w = .ok (.int .u8 ((q % 128 : Nat) : Int)) w := by
  have e : ((q % 128 : Nat) : Int) = IntKind.u8.wrap ((q : Int) - 128) := by rw [IntKind.wrap_u8]; omega
  rw [e]
  simp [go_sem]
theorem mul128_run {m : Nat} (h : m * 128 < 18446744073709551616) (w : World) : (binOp .mul 25 (.int .u64 (m : Int)) (.int .u64 128)).run Tryz.prog w = .ok (.int .u64 ((m * 128 : Nat) : Int)) w := by
  have e : ((m * 128 : Nat) : Int) = IntKind.u64.wrap ((m : Int) * 128) := by rw [IntKind.wrap_u64]; omega
  rw [e]
  simp [go_sem]
theorem addU_run {a b : Nat} (h : a + b < 18446744073709551616) (w : World) : (binOp .add 25 (.int .u64 (a : Int)) (.int .u64 (b : Int))).run Tryz.prog w = .ok (.int .u64 ((a + b : Nat) : Int)) w := by
  have e : ((a + b : Nat) : Int) = IntKind.u64.wrap ((a : Int) + (b : Int)) := by rw [IntKind.wrap_u64]; omega
  rw [e]
  simp [go_sem]
set_option maxRecDepth 100000 in
set_option maxHeartbeats 4000000 in
theorem rvread_any (l : List UInt8) (w : World) (A : Option Addr) (n c : Nat) (h : BytesAt w A n c l) : Calls Tryz.prog 164 #[.slice A n c] w (Ret w (.tuple #[.int .u64 ((vread l).1 : Int), .int .i64 ((vread l).2.1 : Int), .int .i64 ((vread l).2.2 : Int)])) := by
  have H := Lib.hid h
  have hnm : n ≤ maxLen := Nat.le_trans h.cap h.big
  unfold maxLen at hnm
  have hl := h.len
  clear h
  go_enter Tryz.func164, Tryz.ntmps164
  go_wp2_with fail
  go_loop [5] (fun i => ∃ k : Nat, k ≤ n ∧ k < 10 ∧ i = .int .i64 (k : Int) ∧ Hid (vgo k (hv (l.take k)) (l.drop k) = vread l) ∧ Hid (∀ j y, j < k → l[j]? = some y → 128 ≤ y.toNat)) (fun i => n - (intOf i).toNat)
  case atStart => exact ⟨0, by omega, by omega, rfl, by rw [Hid, List.drop_zero]; rfl, fun j y hj => absurd hj (by omega)⟩
  case round =>
    obtain ⟨k, hk, hk10, rfl, HV, HB⟩ := hrel
    have hk0 : (0 : Int) ≤ (k : Int) := by omega
    by_cases hlt : k < n
    · have hki : (k : Int) < (n : Int) := by omega
      have hke : ((k : Int) == (n : Int)) = false := by rw [beq_eq_false_iff_ne]; omega
      obtain ⟨b, o, x, rfl, hb, hx, hc⟩ := H.out.at_ hlt
      have EV : Hid (l.drop k = x :: l.drop (k + 1)) := drop_cons hx
      have hxl := x.toNat_lt
      by_cases hge : 128 ≤ x.toNat
      · have hgi : (128 : Int) ≤ ((x.toNat : Nat) : Int) := by omega
        by_cases h9 : k = 9
        · have z9 : ((k : Int) + 1 == 10) = true := by rw [beq_iff_eq]; omega
          have ER : Hid (vread l = (0, 0, 4)) := by rw [Hid, ← HV.out, EV.out, vgo_more (by omega) (by omega)]; exact vgo_end _ _ _ (by omega)
          replace h9 := Lib.hid h9
          clear EV HV
          go_wp2
          refine bodyPost_ret (v := .tuple #[.int .u64 0, .int .i64 0, .int .i64 4]) ?_ rfl ⟨by rw [ER.out]; rfl, rfl⟩
          simp [results, Tryz.results164, go_sem]
        · have z9 : ((k : Int) + 1 == 10) = false := by rw [beq_eq_false_iff_ne]; omega
          have EN : Hid (vgo (k + 1) (hv (l.take (k + 1))) (l.drop (k + 1)) = vread l) := by
            rw [Hid, ← HV.out, EV.out, vgo_more (by omega) (by omega), hv_take hx]
          have EB : Hid (∀ j y, j < k + 1 → l[j]? = some y → 128 ≤ y.toNat) := fun j y hj hy => by
            rcases Nat.lt_or_ge j k with h1 | h1
            · exact HB.out j y h1 hy
            · have : j = k := by omega
              subst this
              rw [hx] at hy
              cases hy
              exact hge
          clear EV HV HB
          go_wp2_with fail
          go_round
          case rel => exact ⟨k + 1, by omega, by omega, by go_num, EN.out, EB.out⟩
          case measure => simp [intOf]; omega
      · have hgi : ¬ (128 : Int) ≤ ((x.toNat : Nat) : Int) := by omega
        by_cases h0 : x.toNat = 0
        · have z0 : (((x.toNat : Nat) : Int) == 0) = true := by rw [beq_iff_eq]; omega
          replace h0 := Lib.hid h0
          by_cases hk9 : 0 < k
          · have hki0 : (0 : Int) < (k : Int) := by omega
            have HK : Hid (x.toNat = 0) := h0.out
            have ER : Hid (vread l = (0, 0, 4)) := by rw [Hid, ← HV.out, EV.out]; exact vgo_bad (by omega) (by omega) (by have := HK.out; omega)
            go_wp2
            refine bodyPost_ret (v := .tuple #[.int .u64 0, .int .i64 0, .int .i64 4]) ?_ rfl ⟨by rw [ER.out]; rfl, rfl⟩
            simp [results, Tryz.results164, go_sem]
          · have hki0 : ¬ (0 : Int) < (k : Int) := by omega
            have h9 : ((k : Int) == 9) = false := by rw [beq_eq_false_iff_ne]; omega
            have HK : Hid (k = 0) := by rw [Hid]; omega
            replace hk9 := Lib.hid hk9
            have hc0 : w.cell? ⟨b, o, none⟩ = some (.int .u8 ((x.toNat : Nat) : Int)) := by
              rw [show o + k = o by have := HK.out; omega] at hc
              exact hc
            have ER : Hid (vread l = (x.toNat, 1, 0)) := by
              have e : k = 0 := HK.out
              rw [Hid, ← HV.out, EV.out, vgo_last (by omega) (by omega) (by omega), e, List.take_zero]
              show (0 + x.toNat * 128 ^ 0, 0 + 1, 0) = _
              rw [Nat.pow_zero, Nat.mul_one, Nat.zero_add]
            have RX := fun u => up8_run x.toNat u
            clear EV HV HB
            go_wp2_with (first | (refine wpList_convB rfl (RX _) ?_))
            go_loop [7, 6] (fun i v => i = .int .i64 (-1) ∧ v = .int .u64 ((x.toNat : Nat) : Int)) (fun _ _ => 0)
            case atStart => exact ⟨rfl, rfl⟩
            case round =>
              obtain ⟨rfl, rfl⟩ := hrel
              go_wp2
              refine bodyPost_ret (v := .tuple #[.int .u64 ((x.toNat : Nat) : Int), .int .i64 1, .int .i64 0]) ?_ rfl ⟨by rw [ER.out]; rfl, rfl⟩
              simp [results, Tryz.results164, go_sem]
        · have z0 : (((x.toNat : Nat) : Int) == 0) = false := by rw [beq_eq_false_iff_ne]; omega
          replace h0 := Lib.hid h0
          by_cases hk9 : k = 9
          · have h9 : ((k : Int) == 9) = true := by rw [beq_iff_eq]; omega
            have HK : Hid (k = 9 ∧ x.toNat ≠ 0) := ⟨hk9, h0.out⟩
            replace hk9 := Lib.hid hk9
            by_cases h1 : 1 < x.toNat
            · have h1i : (1 : Int) < ((x.toNat : Nat) : Int) := by omega
              have ER : Hid (vread l = (0, 0, 4)) := by rw [Hid, ← HV.out, EV.out]; exact vgo_bad (by omega) (by omega) (by have := HK.out; omega)
              go_wp2
              refine bodyPost_ret (v := .tuple #[.int .u64 0, .int .i64 0, .int .i64 4]) ?_ rfl ⟨by rw [ER.out]; rfl, rfl⟩
              simp [results, Tryz.results164, go_sem]
            · have h1i : ¬ (1 : Int) < ((x.toNat : Nat) : Int) := by omega
              have h1n := Lib.hid h1
              have ER : Hid (vread l = (hv (l.take (k + 1)), k + 1, 0)) := by
                rw [Hid, ← HV.out, EV.out, vgo_last (by omega) (by omega) (by have := HK.out; omega), hv_take hx, Nat.mod_eq_of_lt (show x.toNat < 128 by omega)]
              have LT : hv (l.take (k + 1)) < 18446744073709551616 := by
                have := vread_lt l
                rw [ER.out] at this
                exact this
              have DX : Hid ((l.take (k + 1)).drop k = [x]) := drop_take_one hx
              have RX := fun u => up8_run x.toNat u
              have LN : Hid ((l.take (k + 1)).length = k + 1) := by rw [Hid, List.length_take]; omega
              have LG : Hid (∀ j y, j < k + 1 → l[j]? = some y → (l.take (k + 1))[j]? = some y) := fun j y hj hy => by rw [List.getElem?_take_of_lt hj]; exact hy
              generalize l.take (k + 1) = L at *
              clear EV HV
              go_wp2_with (first | (refine wpList_convB rfl (RX _) ?_))
              go_loop [7, 6] (fun i v => ∃ j acc : Nat, j ≤ k ∧ i = .int .i64 ((j : Int) - 1) ∧ v = .int .u64 (acc : Int) ∧ Hid (hv (L.drop j) = acc)) (fun i _ => (intOf i + 1).toNat)
              case atStart => exact ⟨k, x.toNat, Nat.le_refl _, by go_num, rfl, by rw [Hid, DX.out]; show x.toNat % 128 + 128 * 0 = _; omega⟩
              case round =>
                obtain ⟨j, acc, hj, rfl, rfl, EA⟩ := hrel
                by_cases hj0 : 0 < j
                · have hji : (0 : Int) ≤ (j : Int) - 1 := by omega
                  obtain ⟨j', rfl⟩ : ∃ j', j = j' + 1 := ⟨j - 1, by omega⟩
                  have hjc : ((j' + 1 : Nat) : Int) - 1 = (j' : Int) := by omega
                  have hjp : (0 : Int) ≤ (j' : Int) := by omega
                  have hjn : (j' : Int) < (n : Int) := by omega
                  rw [hjc]
                  obtain ⟨b', o', y, e', _, hy, hc'⟩ := H.out.at_ (show j' < n by omega)
                  injection e' with e'
                  injection e' with e1 e2
                  subst e1 e2
                  have hyb := HB.out j' y (by omega) hy
                  have hyl := y.toNat_lt
                  have ED : Hid (hv (L.drop j') = y.toNat % 128 + 128 * acc) := by
                    rw [Hid, drop_cons (LG.out j' y (by omega) hy)]
                    show _ + 128 * hv (L.drop (j' + 1)) = _
                    rw [EA.out]
                  have hle := hv_drop L j'
                  have RS := fun u => sub128_run (q := y.toNat) hyb hyl u
                  have RC := fun u => up8_run (y.toNat % 128) u
                  have RM := fun u => mul128_run (m := acc) (by rw [ED.out] at hle; omega) u
                  have RA := fun u => addU_run (a := acc * 128) (b := y.toNat % 128) (by rw [ED.out] at hle; omega) u
                  obtain ⟨N, hN⟩ : ∃ N, N = acc * 128 + y.toNat % 128 := ⟨_, rfl⟩
                  have EN : Hid (hv (L.drop j') = N) := by rw [Hid, ED.out]; omega
                  rw [← hN] at RA
                  replace hN := Lib.hid hN
                  clear hle EA ED hj0 hji hjc
                  generalize y.toNat % 128 = z at *
                  generalize acc * 128 = a128 at *
                  go_wp2_with (first
                    | ((with_reducible refine wpList_binB (op := .sub) ?_ ?_ ?_ (RS _) ?_); rfl; rfl; simp [eqGuard])
                    | ((with_reducible refine wpList_binB (op := .mul) ?_ ?_ ?_ (RM _) ?_); rfl; rfl; simp [eqGuard])
                    | ((with_reducible refine wpList_binB (op := .add) ?_ ?_ ?_ (RA _) ?_); rfl; rfl; simp [eqGuard])
                    | ((with_reducible refine wpList_convB ?_ (RC _) ?_); rfl))
                  go_round
                  case rel => exact ⟨j', N, by omega, by go_num, rfl, EN.out⟩
                  case measure => simp [intOf]; try omega
                · have hji : ¬ (0 : Int) ≤ (j : Int) - 1 := by omega
                  have E0 : j = 0 := by omega
                  subst E0
                  have ER2 : Hid (vread l = (acc, k + 1, 0)) := by
                    have h1 := EA.out
                    rw [List.drop_zero] at h1
                    rw [Hid, ER.out, h1]
                  clear ER EA
                  go_wp2
                  refine bodyPost_ret (v := .tuple #[.int .u64 (acc : Int), .int .i64 ((k + 1 : Nat) : Int), .int .i64 0]) ?_ rfl ⟨by rw [ER2.out]; rfl, rfl⟩
                  simp [results, Tryz.results164, go_sem]
          · have h9 : ((k : Int) == 9) = false := by rw [beq_eq_false_iff_ne]; omega
            have HK : Hid (x.toNat ≠ 0 ∧ k ≠ 9) := ⟨h0.out, hk9⟩
            replace hk9 := Lib.hid hk9
            have ER : Hid (vread l = (hv (l.take (k + 1)), k + 1, 0)) := by
              rw [Hid, ← HV.out, EV.out, vgo_last (by omega) (by omega) (by have := HK.out; omega), hv_take hx, Nat.mod_eq_of_lt (show x.toNat < 128 by omega)]
            have LT : hv (l.take (k + 1)) < 18446744073709551616 := by
              have := vread_lt l
              rw [ER.out] at this
              exact this
            have DX : Hid ((l.take (k + 1)).drop k = [x]) := drop_take_one hx
            have RX := fun u => up8_run x.toNat u
            have LN : Hid ((l.take (k + 1)).length = k + 1) := by rw [Hid, List.length_take]; omega
            have LG : Hid (∀ j y, j < k + 1 → l[j]? = some y → (l.take (k + 1))[j]? = some y) := fun j y hj hy => by rw [List.getElem?_take_of_lt hj]; exact hy
            generalize l.take (k + 1) = L at *
            clear EV HV
            go_wp2_with (first | (refine wpList_convB rfl (RX _) ?_))
            go_loop [7, 6] (fun i v => ∃ j acc : Nat, j ≤ k ∧ i = .int .i64 ((j : Int) - 1) ∧ v = .int .u64 (acc : Int) ∧ Hid (hv (L.drop j) = acc)) (fun i _ => (intOf i + 1).toNat)
            case atStart => exact ⟨k, x.toNat, Nat.le_refl _, by go_num, rfl, by rw [Hid, DX.out]; show x.toNat % 128 + 128 * 0 = _; omega⟩
            case round =>
              obtain ⟨j, acc, hj, rfl, rfl, EA⟩ := hrel
              by_cases hj0 : 0 < j
              · have hji : (0 : Int) ≤ (j : Int) - 1 := by omega
                obtain ⟨j', rfl⟩ : ∃ j', j = j' + 1 := ⟨j - 1, by omega⟩
                have hjc : ((j' + 1 : Nat) : Int) - 1 = (j' : Int) := by omega
                have hjp : (0 : Int) ≤ (j' : Int) := by omega
                have hjn : (j' : Int) < (n : Int) := by omega
                rw [hjc]
                obtain ⟨b', o', y, e', _, hy, hc'⟩ := H.out.at_ (show j' < n by omega)
                injection e' with e'
                injection e' with e1 e2
                subst e1 e2
                have hyb := HB.out j' y (by omega) hy
                have hyl := y.toNat_lt
                have ED : Hid (hv (L.drop j') = y.toNat % 128 + 128 * acc) := by
                  rw [Hid, drop_cons (LG.out j' y (by omega) hy)]
                  show _ + 128 * hv (L.drop (j' + 1)) = _
                  rw [EA.out]
                have hle := hv_drop L j'
                have RS := fun u => sub128_run (q := y.toNat) hyb hyl u
                have RC := fun u => up8_run (y.toNat % 128) u
                have RM := fun u => mul128_run (m := acc) (by rw [ED.out] at hle; omega) u
                have RA := fun u => addU_run (a := acc * 128) (b := y.toNat % 128) (by rw [ED.out] at hle; omega) u
                obtain ⟨N, hN⟩ : ∃ N, N = acc * 128 + y.toNat % 128 := ⟨_, rfl⟩
                have EN : Hid (hv (L.drop j') = N) := by rw [Hid, ED.out]; omega
                rw [← hN] at RA
                replace hN := Lib.hid hN
                clear hle EA ED hj0 hji hjc
                generalize y.toNat % 128 = z at *
                generalize acc * 128 = a128 at *
                go_wp2_with (first
                  | ((with_reducible refine wpList_binB (op := .sub) ?_ ?_ ?_ (RS _) ?_); rfl; rfl; simp [eqGuard])
                  | ((with_reducible refine wpList_binB (op := .mul) ?_ ?_ ?_ (RM _) ?_); rfl; rfl; simp [eqGuard])
                  | ((with_reducible refine wpList_binB (op := .add) ?_ ?_ ?_ (RA _) ?_); rfl; rfl; simp [eqGuard])
                  | ((with_reducible refine wpList_convB ?_ (RC _) ?_); rfl))
                go_round
                case rel => exact ⟨j', N, by omega, by go_num, rfl, EN.out⟩
                case measure => simp [intOf]; try omega
              · have hji : ¬ (0 : Int) ≤ (j : Int) - 1 := by omega
                have E0 : j = 0 := by omega
                subst E0
                have ER2 : Hid (vread l = (acc, k + 1, 0)) := by
                  have h1 := EA.out
                  rw [List.drop_zero] at h1
                  rw [Hid, ER.out, h1]
                clear ER EA
                go_wp2
                refine bodyPost_ret (v := .tuple #[.int .u64 (acc : Int), .int .i64 ((k + 1 : Nat) : Int), .int .i64 0]) ?_ rfl ⟨by rw [ER2.out]; rfl, rfl⟩
                simp [results, Tryz.results164, go_sem]
    · have hki : ¬ (k : Int) < (n : Int) := by omega
      have hke : ((k : Int) == (n : Int)) = true := by rw [beq_iff_eq]; omega
      have ER : Hid (vread l = (0, 0, 2)) := by
        rw [Hid, ← HV.out, List.drop_of_length_le (by omega)]; exact vgo_nil (by omega)
      clear HV
      go_wp2
      refine bodyPost_ret (v := .tuple #[.int .u64 0, .int .i64 0, .int .i64 2]) ?_ rfl ⟨by rw [ER.out]; rfl, rfl⟩
      simp [results, Tryz.results164, go_sem]
end Go.Proofs.YtdafiipedlglpaaGreatDoor
