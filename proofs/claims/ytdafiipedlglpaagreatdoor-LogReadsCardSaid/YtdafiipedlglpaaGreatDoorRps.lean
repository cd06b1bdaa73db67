/- Texts of general use, one behind another. -/
import Derived.Test.YtdafiipedlglpaaGreatDoorBufs

/- The reference's numbers as bytes: walked. -/
namespace Go.Proofs.YtdafiipedlglpaaGreatDoor
open Go.RowKit

theorem rem128_run (m : Nat) (w : World) : (binOp .rem 25 (.int .u64 (m : Int)) (.int .u64 128)).run Tryz.prog w = .ok (.int .u64 ((m % 128 : Nat) : Int)) w := by
  have e : ((m % 128 : Nat) : Int) = Int.tmod (m : Int) 128 := by rw [Int.tmod_eq_emod_of_nonneg (by omega)]; omega
  rw [e]
  simp [go_sem]
theorem quo128_run (m : Nat) (h : m < 18446744073709551616) (w : World) : (binOp .quo 25 (.int .u64 (m : Int)) (.int .u64 128)).run Tryz.prog w = .ok (.int .u64 ((m / 128 : Nat) : Int)) w := by
  have e : ((m / 128 : Nat) : Int) = IntKind.u64.wrap ((m : Int) / 128) := by rw [IntKind.wrap_u64]; omega
  rw [e]
  simp [go_sem]
theorem add128_run {q : Nat} (h : q < 128) (w : World) : (binOp .add 5 (.int .u8 (q : Int)) (.int .u8 128)).run Tryz.prog w = .ok (.int .u8 ((q + 128 : Nat) : Int)) w := by
  have e : ((q + 128 : Nat) : Int) = IntKind.u8.wrap ((q : Int) + 128) := by rw [IntKind.wrap_u8]; omega
  rw [e]
  simp [go_sem]
set_option maxRecDepth 100000 in
set_option maxHeartbeats 2000000 in
theorem rvbytes_any (n : Nat) (hn : n < 18446744073709551616) (w : World) : Calls Tryz.prog 155 #[.int .u64 (n : Int)] w (OwnedRet w 5 1 (vbytes n).length (encB (vbytes n))) := by
  have LB : Hid ((vbytes n).length ≤ 10) := by
    have := vbytes_len 9 n (by omega)
    exact this
  go_enter Tryz.func155, Tryz.ntmps155
  go_wp2_with fail
  go_loopw [0, 3] (fun v s wr => ∃ (m : Nat) (out : List UInt8), v = .int .u64 (m : Int) ∧ m < 18446744073709551616 ∧ Hid (out ++ vbytes m = vbytes n) ∧ Hid (wr.ownsRow w.heap.size 5 1 s out.length (encB out)) ∧ Hid (Below w.heap.size w wr)) (fun v _ _ => (intOf v).toNat)
  case atStart => exact ⟨n, [], rfl, hn, rfl, ⟨rfl, .inl ⟨rfl, rfl⟩⟩, Below.refl _ _⟩
  case round =>
    obtain ⟨m, out, rfl, hm, EQ, O, B⟩ := hrel
    have hm0 : (0 : Int) ≤ (m : Int) := by omega
    have hlen : out.length + (vbytes m).length ≤ 10 := by
      have h1 := congrArg List.length EQ.out
      rw [List.length_append] at h1
      have := LB.out
      omega
    have hp := vbytes_pos m
    have hol : out.length + 1 ≤ 10 := by omega
    clear hlen hp
    obtain ⟨A', c', rfl, _, _⟩ := Sl.of_own O.out
    have hbs := B.out.size
    by_cases hge : 128 ≤ m
    · have hgi : (128 : Int) ≤ (m : Int) := by omega
      have RM := fun u => rem128_run m u
      have RQ := fun u => quo128_run m hm u
      have RA := fun u => add128_run (q := m % 128) (by omega) u
      have RC := fun u => low8_run (m % 128) u
      rw [show m % 128 % 256 = m % 128 by omega] at RC
      have EN : Hid ((out ++ [UInt8.ofNat (m % 128 + 128)]) ++ vbytes (m / 128) = vbytes n) := by
        rw [Hid, List.append_assoc, ← EQ.out, vbytes_high (n := m) (by omega)]
        rfl
      clear EQ
      obtain ⟨x, hx⟩ : ∃ x, x = m % 128 + 128 := ⟨_, rfl⟩
      obtain ⟨y, hy⟩ : ∃ y, y = m / 128 := ⟨_, rfl⟩
      rw [← hx] at RA EN
      rw [← hy] at RQ EN
      have hx2 : x < 256 := by omega
      have hy2 : y < 18446744073709551616 := by omega
      have hy3 : y < m := by omega
      replace hx := Lib.hid hx
      replace hy := Lib.hid hy
      generalize m % 128 = z at *
      go_wp2_with (first
        | ((with_reducible refine wpList_binB (op := .rem) ?_ ?_ ?_ (RM _) ?_); rfl; rfl; simp [eqGuard])
        | ((with_reducible refine wpList_binB (op := .quo) ?_ ?_ ?_ (RQ _) ?_); rfl; rfl; simp [eqGuard])
        | ((with_reducible refine wpList_binB (op := .add) ?_ ?_ ?_ (RA _) ?_); rfl; rfl; simp [eqGuard])
        | (refine wpList_convB rfl (RC _) ?_)
        | (at_builtin; refine wpList_push byteSl O.out [.int .u8 (x : Int)] rfl (by simp [Value.oneCell']) hbs (by omega) (by unfold maxLen; omega) (by rfl) (by rfl) (by rfl) ?_; intro v1 w6 own1 bel1))
      have B5 := Lib.hid (B.out.trans bel1)
      have O5 : Hid (w6.ownsRow w.heap.size 5 1 v1 (out ++ [UInt8.ofNat x]).length (encB (out ++ [UInt8.ofNat x]))) := by
        rw [Hid, encB_append, List.length_append]
        have e : encB [UInt8.ofNat x] = [.int .u8 (x : Int)] := by
          show enc1 _ ++ [] = _
          rw [enc1_nat hx2, List.append_nil]
        rw [e]; exact own1
      clear own1 bel1 O B
      go_roundw
      case rel => exact ⟨y, _, rfl, hy2, EN.out, O5.out, B5.out⟩
      case measure => simp [intOf]; omega
    · have hgi : ¬ (128 : Int) ≤ (m : Int) := by omega
      have RC := fun u => low8_run m u
      have E1 : m % 256 = m := by omega
      rw [E1] at RC
      have EN : Hid (out ++ [UInt8.ofNat m] = vbytes n) := by rw [Hid, ← EQ.out, vbytes_low (by omega)]
      clear EQ E1
      go_wp2_with (first
        | (refine wpList_convB rfl (RC _) ?_)
        | (at_builtin; refine wpList_push byteSl O.out [.int .u8 (m : Int)] rfl (by simp [Value.oneCell']) hbs (by omega) (by unfold maxLen; omega) (by rfl) (by rfl) (by rfl) ?_; intro v1 w6 own1 bel1))
      have O5 : Hid (w6.ownsRow w.heap.size 5 1 v1 (vbytes n).length (encB (vbytes n))) := by
        rw [Hid, ← EN.out, encB_append, List.length_append]
        have e : encB [UInt8.ofNat m] = [.int .u8 (m : Int)] := by
          show enc1 _ ++ [] = _
          rw [enc1_nat (by omega), List.append_nil]
        rw [e]; exact own1
      have B5 := Lib.hid (B.out.trans bel1)
      clear own1 bel1 O B
      go_wp2
      go_ret
      exact ⟨_, rfl, O5.out, B5.out⟩
end Go.Proofs.YtdafiipedlglpaaGreatDoor

/- The reference's reading of a number: walked. -/
namespace Go.Proofs.YtdafiipedlglpaaGreatDoor
open Go.RowKit

/-- the number of its groups of seven bits -/
def hv : List UInt8 → Nat
  | [] => 0
  | x :: t => x.toNat % 128 + 128 * hv t
theorem hv_snoc (x : UInt8) : ∀ l : List UInt8, hv (l ++ [x]) = hv l + x.toNat % 128 * 128 ^ l.length
  | [] => by simp [hv]
  | y :: t => by
    show y.toNat % 128 + 128 * hv (t ++ [x]) = y.toNat % 128 + 128 * hv t + x.toNat % 128 * 128 ^ (t.length + 1)
    rw [hv_snoc x t, Nat.mul_add, Nat.pow_succ]
    have : 128 * (x.toNat % 128 * 128 ^ t.length) = x.toNat % 128 * (128 ^ t.length * 128) := by rw [Nat.mul_comm (128 ^ t.length) 128, Nat.mul_left_comm]
    omega
theorem hv_take {l : List UInt8} {k : Nat} {x : UInt8} (h : l[k]? = some x) : hv (l.take (k + 1)) = hv (l.take k) + x.toNat % 128 * 128 ^ k := by
  have hk := (List.getElem?_eq_some_iff.1 h).1
  rw [take_snoc' h, hv_snoc, List.length_take, Nat.min_eq_left (by omega)]
theorem hv_drop : ∀ (l : List UInt8) (j : Nat), hv (l.drop j) ≤ hv l
  | [], j => by simp
  | _ :: _, 0 => Nat.le_refl _
  | x :: t, j + 1 => by
    have := hv_drop t j
    show hv (t.drop j) ≤ x.toNat % 128 + 128 * hv t
    omega
theorem drop_cons {l : List UInt8} {k : Nat} {x : UInt8} (h : l[k]? = some x) : l.drop k = x :: l.drop (k + 1) := by
  obtain ⟨h1, h2⟩ := List.getElem?_eq_some_iff.1 h
  rw [List.drop_eq_getElem_cons h1, h2]
theorem drop_take_one {l : List UInt8} {k : Nat} {x : UInt8} (h : l[k]? = some x) : (l.take (k + 1)).drop k = [x] := by
  have hk := (List.getElem?_eq_some_iff.1 h).1
  rw [take_snoc' h, List.drop_append, List.drop_of_length_le (by rw [List.length_take]; omega), List.length_take, Nat.min_eq_left (by omega), Nat.sub_self]
  rfl
theorem up8_run (q : Nat) (w : World) (h : q < 256 := by omega) : (convert 5 25 (.int .u8 (q : Int))).run Tryz.prog w = .ok (.int .u64 (q : Int)) w := by
  have e : (q : Int) = IntKind.u64.wrap (q : Int) := by rw [IntKind.wrap_u64]; omega
  conv => rhs; rw [e]
  simp [go_sem]
theorem sub128_run {q : Nat} (h : 128 ≤ q) (h2 : q < 256) (w : World) : (binOp .sub 5 (.int .u8 (q : Int)) (.int .u8 128)).run Tryz.prog w = .ok (.int .u8 ((q % 128 : Nat) : Int)) w := by
  have e : ((q % 128 : Nat) : Int) = IntKind.u8.wrap ((q : Int) - 128) := by rw [IntKind.wrap_u8]; omega
  rw [e]
  simp [go_sem]
theorem mul128_run {m : Nat} (h : m * 128 < 18446744073709551616) (w : World) : (binOp .mul 25 (.int .u64 (m : Int)) (.int .u64 128)).run Tryz.prog w = .ok (.int .u64 ((m * 128 : Nat) : Int)) w := by
  have e : ((m * 128 : Nat) : Int) = IntKind.u64.wrap ((m : Int) * 128) := by rw [IntKind.wrap_u64]; omega
  rw [e]
  simp [go_sem]
theorem addU_run {a b : Nat} (h : a + b < 18446744073709551616) (w : World) : (binOp .add 25 (.int .u64 (a : Int)) (.int .u64 (b : Int))).run Tryz.prog w = .ok (.int .u64 ((a + b : Nat) : Int)) w := by
  have e : ((a + b : Nat) : Int) = IntKind.u64.wrap ((a : Int) + (b : Int)) := by rw [IntKind.wrap_u64]; omega
  rw [e]
  simp [go_sem]
set_option maxRecDepth 100000 in
set_option maxHeartbeats 4000000 in
theorem rvread_any (l : List UInt8) (w : World) (A : Option Addr) (n c : Nat) (h : BytesAt w A n c l) : Calls Tryz.prog 164 #[.slice A n c] w (Ret w (.tuple #[.int .u64 ((vread l).1 : Int), .int .i64 ((vread l).2.1 : Int), .int .i64 ((vread l).2.2 : Int)])) := by
  have H := Lib.hid h
  have hnm : n ≤ maxLen := Nat.le_trans h.cap h.big
  unfold maxLen at hnm
  have hl := h.len
  clear h
  go_enter Tryz.func164, Tryz.ntmps164
  go_wp2_with fail
  go_loop [5] (fun i => ∃ k : Nat, k ≤ n ∧ k < 10 ∧ i = .int .i64 (k : Int) ∧ Hid (vgo k (hv (l.take k)) (l.drop k) = vread l) ∧ Hid (∀ j y, j < k → l[j]? = some y → 128 ≤ y.toNat)) (fun i => n - (intOf i).toNat)
  case atStart => exact ⟨0, by omega, by omega, rfl, by rw [Hid, List.drop_zero]; rfl, fun j y hj => absurd hj (by omega)⟩
  case round =>
    obtain ⟨k, hk, hk10, rfl, HV, HB⟩ := hrel
    have hk0 : (0 : Int) ≤ (k : Int) := by omega
    by_cases hlt : k < n
    · have hki : (k : Int) < (n : Int) := by omega
      have hke : ((k : Int) == (n : Int)) = false := by rw [beq_eq_false_iff_ne]; omega
      obtain ⟨b, o, x, rfl, hb, hx, hc⟩ := H.out.at_ hlt
      have EV : Hid (l.drop k = x :: l.drop (k + 1)) := drop_cons hx
      have hxl := x.toNat_lt
      by_cases hge : 128 ≤ x.toNat
      · have hgi : (128 : Int) ≤ ((x.toNat : Nat) : Int) := by omega
        by_cases h9 : k = 9
        · have z9 : ((k : Int) + 1 == 10) = true := by rw [beq_iff_eq]; omega
          have ER : Hid (vread l = (0, 0, 4)) := by rw [Hid, ← HV.out, EV.out, vgo_more (by omega) (by omega)]; exact vgo_end _ _ _ (by omega)
          replace h9 := Lib.hid h9
          clear EV HV
          go_wp2
          refine bodyPost_ret (v := .tuple #[.int .u64 0, .int .i64 0, .int .i64 4]) ?_ rfl ⟨by rw [ER.out]; rfl, rfl⟩
          simp [results, Tryz.results164, go_sem]
        · have z9 : ((k : Int) + 1 == 10) = false := by rw [beq_eq_false_iff_ne]; omega
          have EN : Hid (vgo (k + 1) (hv (l.take (k + 1))) (l.drop (k + 1)) = vread l) := by
            rw [Hid, ← HV.out, EV.out, vgo_more (by omega) (by omega), hv_take hx]
          have EB : Hid (∀ j y, j < k + 1 → l[j]? = some y → 128 ≤ y.toNat) := fun j y hj hy => by
            rcases Nat.lt_or_ge j k with h1 | h1
            · exact HB.out j y h1 hy
            · have : j = k := by omega
              subst this
              rw [hx] at hy
              cases hy
              exact hge
          clear EV HV HB
          go_wp2_with fail
          go_round
          case rel => exact ⟨k + 1, by omega, by omega, by go_num, EN.out, EB.out⟩
          case measure => simp [intOf]; omega
      · have hgi : ¬ (128 : Int) ≤ ((x.toNat : Nat) : Int) := by omega
        by_cases h0 : x.toNat = 0
        · have z0 : (((x.toNat : Nat) : Int) == 0) = true := by rw [beq_iff_eq]; omega
          replace h0 := Lib.hid h0
          by_cases hk9 : 0 < k
          · have hki0 : (0 : Int) < (k : Int) := by omega
            have HK : Hid (x.toNat = 0) := h0.out
            have ER : Hid (vread l = (0, 0, 4)) := by rw [Hid, ← HV.out, EV.out]; exact vgo_bad (by omega) (by omega) (by have := HK.out; omega)
            go_wp2
            refine bodyPost_ret (v := .tuple #[.int .u64 0, .int .i64 0, .int .i64 4]) ?_ rfl ⟨by rw [ER.out]; rfl, rfl⟩
            simp [results, Tryz.results164, go_sem]
          · have hki0 : ¬ (0 : Int) < (k : Int) := by omega
            have h9 : ((k : Int) == 9) = false := by rw [beq_eq_false_iff_ne]; omega
            have HK : Hid (k = 0) := by rw [Hid]; omega
            replace hk9 := Lib.hid hk9
            have hc0 : w.cell? ⟨b, o, none⟩ = some (.int .u8 ((x.toNat : Nat) : Int)) := by
              rw [show o + k = o by have := HK.out; omega] at hc
              exact hc
            have ER : Hid (vread l = (x.toNat, 1, 0)) := by
              have e : k = 0 := HK.out
              rw [Hid, ← HV.out, EV.out, vgo_last (by omega) (by omega) (by omega), e, List.take_zero]
              show (0 + x.toNat * 128 ^ 0, 0 + 1, 0) = _
              rw [Nat.pow_zero, Nat.mul_one, Nat.zero_add]
            have RX := fun u => up8_run x.toNat u
            clear EV HV HB
            go_wp2_with (first | (refine wpList_convB rfl (RX _) ?_))
            go_loop [7, 6] (fun i v => i = .int .i64 (-1) ∧ v = .int .u64 ((x.toNat : Nat) : Int)) (fun _ _ => 0)
            case atStart => exact ⟨rfl, rfl⟩
            case round =>
              obtain ⟨rfl, rfl⟩ := hrel
              go_wp2
              refine bodyPost_ret (v := .tuple #[.int .u64 ((x.toNat : Nat) : Int), .int .i64 1, .int .i64 0]) ?_ rfl ⟨by rw [ER.out]; rfl, rfl⟩
              simp [results, Tryz.results164, go_sem]
        · have z0 : (((x.toNat : Nat) : Int) == 0) = false := by rw [beq_eq_false_iff_ne]; omega
          replace h0 := Lib.hid h0
          by_cases hk9 : k = 9
          · have h9 : ((k : Int) == 9) = true := by rw [beq_iff_eq]; omega
            have HK : Hid (k = 9 ∧ x.toNat ≠ 0) := ⟨hk9, h0.out⟩
            replace hk9 := Lib.hid hk9
            by_cases h1 : 1 < x.toNat
            · have h1i : (1 : Int) < ((x.toNat : Nat) : Int) := by omega
              have ER : Hid (vread l = (0, 0, 4)) := by rw [Hid, ← HV.out, EV.out]; exact vgo_bad (by omega) (by omega) (by have := HK.out; omega)
              go_wp2
              refine bodyPost_ret (v := .tuple #[.int .u64 0, .int .i64 0, .int .i64 4]) ?_ rfl ⟨by rw [ER.out]; rfl, rfl⟩
              simp [results, Tryz.results164, go_sem]
            · have h1i : ¬ (1 : Int) < ((x.toNat : Nat) : Int) := by omega
              have h1n := Lib.hid h1
              have ER : Hid (vread l = (hv (l.take (k + 1)), k + 1, 0)) := by
                rw [Hid, ← HV.out, EV.out, vgo_last (by omega) (by omega) (by have := HK.out; omega), hv_take hx, Nat.mod_eq_of_lt (show x.toNat < 128 by omega)]
              have LT : hv (l.take (k + 1)) < 18446744073709551616 := by
                have := vread_lt l
                rw [ER.out] at this
                exact this
              have DX : Hid ((l.take (k + 1)).drop k = [x]) := drop_take_one hx
              have RX := fun u => up8_run x.toNat u
              have LN : Hid ((l.take (k + 1)).length = k + 1) := by rw [Hid, List.length_take]; omega
              have LG : Hid (∀ j y, j < k + 1 → l[j]? = some y → (l.take (k + 1))[j]? = some y) := fun j y hj hy => by rw [List.getElem?_take_of_lt hj]; exact hy
              generalize l.take (k + 1) = L at *
              clear EV HV
              go_wp2_with (first | (refine wpList_convB rfl (RX _) ?_))
              go_loop [7, 6] (fun i v => ∃ j acc : Nat, j ≤ k ∧ i = .int .i64 ((j : Int) - 1) ∧ v = .int .u64 (acc : Int) ∧ Hid (hv (L.drop j) = acc)) (fun i _ => (intOf i + 1).toNat)
              case atStart => exact ⟨k, x.toNat, Nat.le_refl _, by go_num, rfl, by rw [Hid, DX.out]; show x.toNat % 128 + 128 * 0 = _; omega⟩
              case round =>
                obtain ⟨j, acc, hj, rfl, rfl, EA⟩ := hrel
                by_cases hj0 : 0 < j
                · have hji : (0 : Int) ≤ (j : Int) - 1 := by omega
                  obtain ⟨j', rfl⟩ : ∃ j', j = j' + 1 := ⟨j - 1, by omega⟩
                  have hjc : ((j' + 1 : Nat) : Int) - 1 = (j' : Int) := by omega
                  have hjp : (0 : Int) ≤ (j' : Int) := by omega
                  have hjn : (j' : Int) < (n : Int) := by omega
                  rw [hjc]
                  obtain ⟨b', o', y, e', _, hy, hc'⟩ := H.out.at_ (show j' < n by omega)
                  injection e' with e'
                  injection e' with e1 e2
                  subst e1 e2
                  have hyb := HB.out j' y (by omega) hy
                  have hyl := y.toNat_lt
                  have ED : Hid (hv (L.drop j') = y.toNat % 128 + 128 * acc) := by
                    rw [Hid, drop_cons (LG.out j' y (by omega) hy)]
                    show _ + 128 * hv (L.drop (j' + 1)) = _
                    rw [EA.out]
                  have hle := hv_drop L j'
                  have RS := fun u => sub128_run (q := y.toNat) hyb hyl u
                  have RC := fun u => up8_run (y.toNat % 128) u
                  have RM := fun u => mul128_run (m := acc) (by rw [ED.out] at hle; omega) u
                  have RA := fun u => addU_run (a := acc * 128) (b := y.toNat % 128) (by rw [ED.out] at hle; omega) u
                  obtain ⟨N, hN⟩ : ∃ N, N = acc * 128 + y.toNat % 128 := ⟨_, rfl⟩
                  have EN : Hid (hv (L.drop j') = N) := by rw [Hid, ED.out]; omega
                  rw [← hN] at RA
                  replace hN := Lib.hid hN
                  clear hle EA ED hj0 hji hjc
                  generalize y.toNat % 128 = z at *
                  generalize acc * 128 = a128 at *
                  go_wp2_with (first
                    | ((with_reducible refine wpList_binB (op := .sub) ?_ ?_ ?_ (RS _) ?_); rfl; rfl; simp [eqGuard])
                    | ((with_reducible refine wpList_binB (op := .mul) ?_ ?_ ?_ (RM _) ?_); rfl; rfl; simp [eqGuard])
                    | ((with_reducible refine wpList_binB (op := .add) ?_ ?_ ?_ (RA _) ?_); rfl; rfl; simp [eqGuard])
                    | ((with_reducible refine wpList_convB ?_ (RC _) ?_); rfl))
                  go_round
                  case rel => exact ⟨j', N, by omega, by go_num, rfl, EN.out⟩
                  case measure => simp [intOf]; try omega
                · have hji : ¬ (0 : Int) ≤ (j : Int) - 1 := by omega
                  have E0 : j = 0 := by omega
                  subst E0
                  have ER2 : Hid (vread l = (acc, k + 1, 0)) := by
                    have h1 := EA.out
                    rw [List.drop_zero] at h1
                    rw [Hid, ER.out, h1]
                  clear ER EA
                  go_wp2
                  refine bodyPost_ret (v := .tuple #[.int .u64 (acc : Int), .int .i64 ((k + 1 : Nat) : Int), .int .i64 0]) ?_ rfl ⟨by rw [ER2.out]; rfl, rfl⟩
                  simp [results, Tryz.results164, go_sem]
          · have h9 : ((k : Int) == 9) = false := by rw [beq_eq_false_iff_ne]; omega
            have HK : Hid (x.toNat ≠ 0 ∧ k ≠ 9) := ⟨h0.out, hk9⟩
            replace hk9 := Lib.hid hk9
            have ER : Hid (vread l = (hv (l.take (k + 1)), k + 1, 0)) := by
              rw [Hid, ← HV.out, EV.out, vgo_last (by omega) (by omega) (by have := HK.out; omega), hv_take hx, Nat.mod_eq_of_lt (show x.toNat < 128 by omega)]
            have LT : hv (l.take (k + 1)) < 18446744073709551616 := by
              have := vread_lt l
              rw [ER.out] at this
              exact this
            have DX : Hid ((l.take (k + 1)).drop k = [x]) := drop_take_one hx
            have RX := fun u => up8_run x.toNat u
            have LN : Hid ((l.take (k + 1)).length = k + 1) := by rw [Hid, List.length_take]; omega
            have LG : Hid (∀ j y, j < k + 1 → l[j]? = some y → (l.take (k + 1))[j]? = some y) := fun j y hj hy => by rw [List.getElem?_take_of_lt hj]; exact hy
            generalize l.take (k + 1) = L at *
            clear EV HV
            go_wp2_with (first | (refine wpList_convB rfl (RX _) ?_))
            go_loop [7, 6] (fun i v => ∃ j acc : Nat, j ≤ k ∧ i = .int .i64 ((j : Int) - 1) ∧ v = .int .u64 (acc : Int) ∧ Hid (hv (L.drop j) = acc)) (fun i _ => (intOf i + 1).toNat)
            case atStart => exact ⟨k, x.toNat, Nat.le_refl _, by go_num, rfl, by rw [Hid, DX.out]; show x.toNat % 128 + 128 * 0 = _; omega⟩
            case round =>
              obtain ⟨j, acc, hj, rfl, rfl, EA⟩ := hrel
              by_cases hj0 : 0 < j
              · have hji : (0 : Int) ≤ (j : Int) - 1 := by omega
                obtain ⟨j', rfl⟩ : ∃ j', j = j' + 1 := ⟨j - 1, by omega⟩
                have hjc : ((j' + 1 : Nat) : Int) - 1 = (j' : Int) := by omega
                have hjp : (0 : Int) ≤ (j' : Int) := by omega
                have hjn : (j' : Int) < (n : Int) := by omega
                rw [hjc]
                obtain ⟨b', o', y, e', _, hy, hc'⟩ := H.out.at_ (show j' < n by omega)
                injection e' with e'
                injection e' with e1 e2
                subst e1 e2
                have hyb := HB.out j' y (by omega) hy
                have hyl := y.toNat_lt
                have ED : Hid (hv (L.drop j') = y.toNat % 128 + 128 * acc) := by
                  rw [Hid, drop_cons (LG.out j' y (by omega) hy)]
                  show _ + 128 * hv (L.drop (j' + 1)) = _
                  rw [EA.out]
                have hle := hv_drop L j'
                have RS := fun u => sub128_run (q := y.toNat) hyb hyl u
                have RC := fun u => up8_run (y.toNat % 128) u
                have RM := fun u => mul128_run (m := acc) (by rw [ED.out] at hle; omega) u
                have RA := fun u => addU_run (a := acc * 128) (b := y.toNat % 128) (by rw [ED.out] at hle; omega) u
                obtain ⟨N, hN⟩ : ∃ N, N = acc * 128 + y.toNat % 128 := ⟨_, rfl⟩
                have EN : Hid (hv (L.drop j') = N) := by rw [Hid, ED.out]; omega
                rw [← hN] at RA
                replace hN := Lib.hid hN
                clear hle EA ED hj0 hji hjc
                generalize y.toNat % 128 = z at *
                generalize acc * 128 = a128 at *
                go_wp2_with (first
                  | ((with_reducible refine wpList_binB (op := .sub) ?_ ?_ ?_ (RS _) ?_); rfl; rfl; simp [eqGuard])
                  | ((with_reducible refine wpList_binB (op := .mul) ?_ ?_ ?_ (RM _) ?_); rfl; rfl; simp [eqGuard])
                  | ((with_reducible refine wpList_binB (op := .add) ?_ ?_ ?_ (RA _) ?_); rfl; rfl; simp [eqGuard])
                  | ((with_reducible refine wpList_convB ?_ (RC _) ?_); rfl))
                go_round
                case rel => exact ⟨j', N, by omega, by go_num, rfl, EN.out⟩
                case measure => simp [intOf]; try omega
              · have hji : ¬ (0 : Int) ≤ (j : Int) - 1 := by omega
                have E0 : j = 0 := by omega
                subst E0
                have ER2 : Hid (vread l = (acc, k + 1, 0)) := by
                  have h1 := EA.out
                  rw [List.drop_zero] at h1
                  rw [Hid, ER.out, h1]
                clear ER EA
                go_wp2
                refine bodyPost_ret (v := .tuple #[.int .u64 (acc : Int), .int .i64 ((k + 1 : Nat) : Int), .int .i64 0]) ?_ rfl ⟨by rw [ER2.out]; rfl, rfl⟩
                simp [results, Tryz.results164, go_sem]
    · have hki : ¬ (k : Int) < (n : Int) := by omega
      have hke : ((k : Int) == (n : Int)) = true := by rw [beq_iff_eq]; omega
      have ER : Hid (vread l = (0, 0, 2)) := by
        rw [Hid, ← HV.out, List.drop_of_length_le (by omega)]; exact vgo_nil (by omega)
      clear HV
      go_wp2
      refine bodyPost_ret (v := .tuple #[.int .u64 0, .int .i64 0, .int .i64 2]) ?_ rfl ⟨by rw [ER.out]; rfl, rfl⟩
      simp [results, Tryz.results164, go_sem]
end Go.Proofs.YtdafiipedlglpaaGreatDoor

/- The reference's reader: a byte, a number, the end: walked. -/
namespace Go.Proofs.YtdafiipedlglpaaGreatDoor
open Go.RowKit

/-- the reference's reader: what was not read, and what was wrong; the bytes lie below block B -/
structure RrAt (w : World) (B g : Nat) (l : List UInt8) (e : Nat) : Prop where
  ge : B ≤ g
  ex : ∃ A c, Blk w g 146 #[.slice A l.length c, .int .i64 (e : Int)] ∧ l.length ≤ c ∧ c ≤ maxLen ∧ Sl w B 1 A l.length (encB l)
theorem RrAt.ext {w w' : World} {B g e : Nat} {l : List UInt8} (h : RrAt w B g l e) (hb : Below w.heap.size w w') : RrAt w' B g l e := by
  obtain ⟨A, c, h1, h2, h3, h4⟩ := h.ex
  exact ⟨h.ge, A, c, h1.ext hb, h2, h3, h4.below hb (by have := h1.lt; have := h.ge; omega)⟩
def RrRet (w : World) (B g : Nat) (v : Value) (l : List UInt8) (e : Nat) (en : Ending) (w' : World) : Prop := en = .returned v ∧ Kept (fun k => k = g) w w' ∧ RrAt w' B g l e
theorem rr_fail {w : World} {B g e : Nat} {l : List UInt8} {A : Option Addr} {c : Nat} (ge : B ≤ g) (K : Blk w g 146 #[.slice A l.length c, .int .i64 (e : Int)]) (h2 : l.length ≤ c) (h3 : c ≤ maxLen) (S : Sl w B 1 A l.length (encB l)) (e2 : Nat) :
    Kept (fun k => k = g) w (w.setCell ⟨g, 1, none⟩ (.int .i64 (e2 : Int))) ∧ RrAt (w.setCell ⟨g, 1, none⟩ (.int .i64 (e2 : Int))) B g l e2 := by
  have kp : Kept (fun k => k = g) w (w.setCell ⟨g, 1, none⟩ (.int .i64 (e2 : Int))) := (Kept.refl (fun k => k = g) w).setCell (p := ⟨g, 1, none⟩) (.inl rfl) _
  refine ⟨kp, ge, A, c, ?_, h2, h3, ?_⟩
  · have := K.set_ 1 (.int .i64 (e2 : Int))
    simpa using this
  · exact S.below (kp.below (B := B) (fun k e => e ▸ ge) (by have := K.lt; omega)) (Nat.le_refl _)
theorem rr_skip {w : World} {B g e : Nat} {l : List UInt8} {A : Option Addr} {c : Nat} (ge : B ≤ g) (K : Blk w g 146 #[.slice A l.length c, .int .i64 (e : Int)]) (h2 : l.length ≤ c) (h3 : c ≤ maxLen) (S : Sl w B 1 A l.length (encB l)) {k : Nat} (hk : k ≤ l.length) :
    Kept (fun k => k = g) w (w.setCell ⟨g, 0, none⟩ (.slice (cutAddr A c k 1) (l.length - k) (c - k))) ∧ RrAt (w.setCell ⟨g, 0, none⟩ (.slice (cutAddr A c k 1) (l.length - k) (c - k))) B g (l.drop k) e := by
  have SL := Sl.cutLow (k := k) (c := c) (l := l) (enc := enc1) S rfl enc1_len hk h2
  generalize cutAddr A c k 1 = A2 at *
  have kp : Kept (fun k => k = g) w (w.setCell ⟨g, 0, none⟩ (.slice A2 (l.length - k) (c - k))) := (Kept.refl (fun k => k = g) w).setCell (p := ⟨g, 0, none⟩) (.inl rfl) _
  have bl := kp.below (B := B) (fun k e => e ▸ ge) (by have := K.lt; omega)
  refine ⟨kp, ge, A2, c - k, ?_, ?_, by omega, ?_⟩
  · have := K.set_ 0 (.slice A2 (l.length - k) (c - k))
    rw [List.length_drop]
    simpa using this
  · rw [List.length_drop]; omega
  · rw [List.length_drop]; exact SL.below bl (Nat.le_refl _)
set_option maxRecDepth 100000 in
set_option maxHeartbeats 2000000 in
theorem rrEnd_any {w : World} {B g e : Nat} {l : List UInt8} (h : RrAt w B g l e) : Calls Tryz.prog 96 #[.pointer (some ⟨g, 0, none⟩)] w (Ret w (.int .i64 (rEnd l e : Int))) := by
  obtain ⟨A, c, h1, _⟩ := h.ex
  have y0 : w.cell? ⟨g, 0, none⟩ = some (.slice A l.length c) := h1.cell 0
  have y1 : w.cell? ⟨g, 1, none⟩ = some (.int .i64 (e : Int)) := h1.cell 1
  clear h h1
  by_cases h0 : e = 0
  · subst h0
    by_cases hl : 0 < l.length
    · have hli : (0 : Int) < (l.length : Int) := by omega
      have E : Hid (rEnd l 0 = 4) := if_pos ⟨rfl, hl⟩
      go_enter Tryz.func96, Tryz.ntmps96
      go_wp2
      go_ret
      exact ⟨by rw [E.out]; rfl, rfl⟩
    · have hli : ¬ (0 : Int) < (l.length : Int) := by omega
      have E : Hid (rEnd l 0 = 0) := if_neg fun h => hl h.2
      go_enter Tryz.func96, Tryz.ntmps96
      go_wp2
      go_ret
      exact ⟨by rw [E.out]; rfl, rfl⟩
  · have h1 : (((e : Nat) : Int) == 0) = false := by rw [beq_eq_false_iff_ne]; omega
    have E : Hid (rEnd l e = e) := if_neg fun h => h0 h.1
    go_enter Tryz.func96, Tryz.ntmps96
    go_wp2
    go_ret
    exact ⟨by rw [E.out]; rfl, rfl⟩
set_option maxRecDepth 100000 in
set_option maxHeartbeats 2000000 in
theorem rrByte_any {w : World} {B g e : Nat} {l : List UInt8} (h : RrAt w B g l e) (most : Nat) :
    Calls Tryz.prog 92 #[.pointer (some ⟨g, 0, none⟩), .int .u8 (most : Int)] w (RrRet w B g (.int .u8 ((rByte most l e).1 : Int)) (rByte most l e).2.1 (rByte most l e).2.2) := by
  have H := Lib.hid h
  have KR := Lib.hid (Kept.refl (fun k => k = g) w)
  obtain ⟨A, c, h1, h2, h3, h4⟩ := h.ex
  have ge := h.ge
  have y0 : w.cell? ⟨g, 0, none⟩ = some (.slice A l.length c) := h1.cell 0
  have y1 : w.cell? ⟨g, 1, none⟩ = some (.int .i64 (e : Int)) := h1.cell 1
  have f0 : w.frozen? ⟨g, 0, none⟩ = false := h1.fr 0
  have f1 : w.frozen? ⟨g, 1, none⟩ = false := h1.fr 1
  by_cases h0 : e = 0
  · subst h0
    cases l with
    | nil =>
      have HF := Lib.hid (rr_fail ge h1 h2 h3 h4 2)
      simp only [List.length_nil] at y0
      rw [rByte_nil]
      clear h h1 h2 h3 h4 H KR
      go_enter Tryz.func92, Tryz.ntmps92
      go_wp2
      go_ret
      exact ⟨rfl, HF.out.1, HF.out.2⟩
    | cons x t =>
      obtain ⟨b, o, u, rfl, hb, hu, hc⟩ := h4.at_ (k := 0) (by simp)
      have hx : w.cell? ⟨b, o, none⟩ = some (.int .u8 ((x.toNat : Nat) : Int)) := by
        rw [Nat.add_zero] at hc
        rw [hc]; exact hu.symm
      have hl0 : ((((x :: t).length : Nat) : Int) == 0) = false := by rw [beq_eq_false_iff_ne, List.length_cons]; omega
      have hl1 : (0 : Int) < ((((x :: t).length : Nat) : Int)) := by rw [List.length_cons]; omega
      have HF := Lib.hid (rr_fail ge h1 h2 h3 h4 1)
      have HS := Lib.hid (rr_skip ge h1 h2 h3 h4 (k := 1) (by simp))
      have CL := Lib.hid (fun u => run_slice_low byteSl (A := some ⟨b, o, none⟩) (n := (x :: t).length) (c := c) (k := 1) (by simp) u)
      obtain ⟨n, hn⟩ : ∃ n, n = (x :: t).length := ⟨_, rfl⟩
      rw [← hn] at hl0 hl1 y0 HS CL
      clear h h1 h2 h3 hc hu h4 H KR
      generalize cutAddr (some ⟨b, o, none⟩) c 1 1 = A2 at *
      by_cases hmx : most < x.toNat
      · have hmi : (most : Int) < ((x.toNat : Nat) : Int) := by omega
        rw [rByte_more hmx]
        clear hn
        go_enter Tryz.func92, Tryz.ntmps92
        go_wp2
        go_ret
        exact ⟨rfl, HF.out.1, HF.out.2⟩
      · have hmi : ¬ (most : Int) < ((x.toNat : Nat) : Int) := by omega
        rw [rByte_yes hmx]
        clear hn
        go_enter Tryz.func92, Tryz.ntmps92
        go_wp2_with (refine wpList_slB rfl rfl rfl rfl (CL.out _) ?_)
        go_ret
        exact ⟨rfl, HS.out.1, HS.out.2⟩
  · have z1 : (((e : Nat) : Int) != 0) = true := by rw [bne_iff_ne]; omega
    rw [rByte_err h0]
    clear h h1 h2 h3 h4
    go_enter Tryz.func92, Tryz.ntmps92
    go_wp2
    go_ret
    exact ⟨rfl, KR.out, H.out⟩
set_option maxRecDepth 100000 in
set_option maxHeartbeats 2000000 in
theorem rrNum_any {w : World} {B g e : Nat} {l : List UInt8} (h : RrAt w B g l e) (most : Nat) :
    Calls Tryz.prog 93 #[.pointer (some ⟨g, 0, none⟩), .int .u64 (most : Int)] w (RrRet w B g (.int .u64 ((rNum most l e).1 : Int)) (rNum most l e).2.1 (rNum most l e).2.2) := by
  have H := Lib.hid h
  have KR := Lib.hid (Kept.refl (fun k => k = g) w)
  obtain ⟨A, c, h1, h2, h3, h4⟩ := h.ex
  have ge := h.ge
  have y0 : w.cell? ⟨g, 0, none⟩ = some (.slice A l.length c) := h1.cell 0
  have y1 : w.cell? ⟨g, 1, none⟩ = some (.int .i64 (e : Int)) := h1.cell 1
  have f0 : w.frozen? ⟨g, 0, none⟩ = false := h1.fr 0
  have f1 : w.frozen? ⟨g, 1, none⟩ = false := h1.fr 1
  by_cases h0 : e = 0
  · subst h0
    have HV := Lib.hid (rvread_any l w A l.length c ⟨rfl, h2, h3, h4.more (by have := h1.lt; omega)⟩)
    have hle := Lib.hid (fun n k he => vread_len (l := l) (n := n) (k := k) he)
    have hn64 := vread_lt l
    obtain ⟨n, k, e1, hv⟩ : ∃ n k e1, vread l = (n, k, e1) := ⟨_, _, _, rfl⟩
    have ER : Hid (rNum most l 0 = if e1 ≠ 0 then (0, l, e1) else if most < n then (0, l, 1) else (n, l.drop k, 0)) := by
      rw [Hid]; unfold rNum; rw [if_neg (by simp), hv]
    rw [hv] at HV hle hn64
    clear hv
    by_cases he : e1 = 0
    · subst he
      have hk := hle.out n k rfl
      by_cases hm : most < n
      · have hmi : (most : Int) < (n : Int) := by omega
        have HF := Lib.hid (rr_fail ge h1 h2 h3 h4 1)
        have E : rNum most l 0 = (0, l, 1) := by rw [ER.out, if_neg (by simp), if_pos hm]
        rw [E]
        clear h h1 h2 h3 h4 H KR ER E hle
        go_enter Tryz.func93, Tryz.ntmps93
        go_wp2_with fail
        refine HV.out.mono ?_
        rintro e _ ⟨rfl, rfl⟩
        go_wp2
        go_ret
        exact ⟨rfl, HF.out.1, HF.out.2⟩
      · have hmi : ¬ (most : Int) < (n : Int) := by omega
        have HS := Lib.hid (rr_skip ge h1 h2 h3 h4 (k := k) hk)
        have CL := Lib.hid (fun u => run_slice_low byteSl (A := A) (n := l.length) (c := c) (k := k) hk u)
        have E : rNum most l 0 = (n, l.drop k, 0) := by rw [ER.out, if_neg (by simp), if_neg hm]
        rw [E]
        clear h h1 h2 h3 h4 H KR ER E hle
        generalize cutAddr A c k 1 = A2 at *
        go_enter Tryz.func93, Tryz.ntmps93
        go_wp2_with fail
        refine HV.out.mono ?_
        rintro e _ ⟨rfl, rfl⟩
        go_wp2_with (refine wpList_slB rfl rfl rfl rfl (CL.out _) ?_)
        go_ret
        exact ⟨rfl, HS.out.1, HS.out.2⟩
    · have z0 : (((e1 : Nat) : Int) == 0) = false := by rw [beq_eq_false_iff_ne]; omega
      have z1 : (((e1 : Nat) : Int) != 0) = true := by rw [bne_iff_ne]; omega
      have HF := Lib.hid (rr_fail ge h1 h2 h3 h4 e1)
      have E : rNum most l 0 = (0, l, e1) := by rw [ER.out, if_pos he]
      rw [E]
      replace he := Lib.hid he
      clear h h1 h2 h3 h4 H KR ER E hle
      go_enter Tryz.func93, Tryz.ntmps93
      go_wp2_with fail
      refine HV.out.mono ?_
      rintro e _ ⟨rfl, rfl⟩
      go_wp2
      go_ret
      exact ⟨rfl, HF.out.1, HF.out.2⟩
  · have z1 : (((e : Nat) : Int) != 0) = true := by rw [bne_iff_ne]; omega
    rw [show rNum most l e = (0, l, e) by unfold rNum; rw [if_pos h0]]
    clear h h1 h2 h3 h4
    go_enter Tryz.func93, Tryz.ntmps93
    go_wp2
    go_ret
    exact ⟨rfl, KR.out, H.out⟩
end Go.Proofs.YtdafiipedlglpaaGreatDoor

/- The reference's reader: a text: walked. -/
namespace Go.Proofs.YtdafiipedlglpaaGreatDoor
open Go.RowKit

theorem run_slice_mid {P : Program} {t e : TypeId} {size bytes : Nat} (T : SlT P t e size bytes) {A : Option Addr} {n c lo hi : Nat} (h1 : lo ≤ hi) (h2 : hi ≤ c) (w : World) :
    (Instr.sliceAt t (.slice A n c) (some (.int .i64 lo)) (some (.int .i64 hi)) none).run P w = .ok (.slice (cutAddr A c lo size) (hi - lo) (c - lo)) w := by
  obtain ⟨i, z, hi', hz, hsz, hby, hzs⟩ := T.hi
  simp [Instr.sliceAt, Instr.slice, run_underlying T.ht, Instr.sliceBounds, Instr.sliceBound, asIntOf, sizeOf, typeInfo, hi', hsz, cutAddr]
  rw [if_pos h2, if_pos h1]
theorem Sl.less {w : World} {B n k : Nat} {A : Option Addr} {l : List UInt8} (h : Sl w B 1 A n (encB l)) (hn : l.length = n) (hk : k ≤ n) : Sl w B 1 A k (encB (l.take k)) := by
  have hl : (l.take k).length = k := by rw [List.length_take]; omega
  refine ⟨by rw [encB_len, hl, Nat.mul_one], fun hp => ?_⟩
  obtain ⟨b, o, rfl, hb, hcell⟩ := h.2 (by omega)
  refine ⟨b, o, rfl, hb, fun j hj => ?_⟩
  rw [hcell _ (by omega), encB_at, encB_at, List.getElem?_take_of_lt (by omega)]
set_option maxRecDepth 100000 in
set_option maxHeartbeats 4000000 in
theorem rrText_any {w : World} {B g e : Nat} {l : List UInt8} (h : RrAt w B g l e) (most : Nat) (hmost : most ≤ 100000) :
    Calls Tryz.prog 94 #[.pointer (some ⟨g, 0, none⟩), .int .i64 (most : Int)] w (RrRet w B g (.string (bytesOf (rText most l e).1)) (rText most l e).2.1 (rText most l e).2.2) := by
  have H := Lib.hid h
  have KR := Lib.hid (Kept.refl (fun k => k = g) w)
  obtain ⟨A, c, h1, h2, h3, h4⟩ := h.ex
  have ge := h.ge
  have y0 : w.cell? ⟨g, 0, none⟩ = some (.slice A l.length c) := h1.cell 0
  have y1 : w.cell? ⟨g, 1, none⟩ = some (.int .i64 (e : Int)) := h1.cell 1
  have f0 : w.frozen? ⟨g, 0, none⟩ = false := h1.fr 0
  have f1 : w.frozen? ⟨g, 1, none⟩ = false := h1.fr 1
  have hm0 : ¬ (most : Int) < 0 := by omega
  have hmw : IntKind.u64.wrap (most : Int) = (most : Int) := by rw [IntKind.wrap_u64]; omega
  have hlm : l.length ≤ maxLen := Nat.le_trans h2 h3
  unfold maxLen at hlm
  by_cases h0 : e = 0
  · subst h0
    have HV := Lib.hid (rvread_any l w A l.length c ⟨rfl, h2, h3, h4.more (by have := h1.lt; omega)⟩)
    have hle := Lib.hid (fun n k he => vread_len (l := l) (n := n) (k := k) he)
    have hn64 := vread_lt l
    obtain ⟨n, k, e1, hv⟩ : ∃ n k e1, vread l = (n, k, e1) := ⟨_, _, _, rfl⟩
    have ER : Hid (rText most l 0 = if e1 ≠ 0 then ([], l, e1) else if most < n then ([], l, 3) else if l.length - k < n then ([], l, 2) else ((l.drop k).take n, (l.drop k).drop n, 0)) := by
      rw [Hid]; unfold rText; rw [if_neg (by simp), hv]
    rw [hv] at HV hle hn64
    clear hv
    by_cases he : e1 = 0
    · subst he
      have hk := hle.out n k rfl
      by_cases hm : most < n
      · have hmi : (most : Int) < (n : Int) := by omega
        have HF := Lib.hid (rr_fail ge h1 h2 h3 h4 3)
        have E : rText most l 0 = ([], l, 3) := by rw [ER.out, if_neg (by simp), if_pos hm]
        rw [E]
        clear h h1 h2 h3 h4 H KR ER E hle
        go_enter Tryz.func94, Tryz.ntmps94
        go_wp2_with fail
        refine HV.out.mono ?_
        rintro e _ ⟨rfl, rfl⟩
        go_wp2
        go_ret
        exact ⟨rfl, HF.out.1, HF.out.2⟩
      · have hmi : ¬ (most : Int) < (n : Int) := by omega
        obtain ⟨r, hr⟩ : ∃ r, r = l.length - k := ⟨_, rfl⟩
        have hri : ((l.length : Nat) : Int) - (k : Int) = (r : Int) := by omega
        have hrw : IntKind.u64.wrap (((l.length : Nat) : Int) - (k : Int)) = (r : Int) := by rw [hri, IntKind.wrap_u64]; omega
        have hrw2 : IntKind.u64.wrap (r : Int) = (r : Int) := by rw [IntKind.wrap_u64]; omega
        rw [← hr] at ER
        by_cases hrn : r < n
        · have hrni : (r : Int) < (n : Int) := by omega
          have HF := Lib.hid (rr_fail ge h1 h2 h3 h4 2)
          have E : rText most l 0 = ([], l, 2) := by rw [ER.out, if_neg (by simp), if_neg hm, if_pos hrn]
          rw [E]
          replace hr := Lib.hid hr
          clear h h1 h2 h3 h4 H KR ER E hle
          go_enter Tryz.func94, Tryz.ntmps94
          go_wp2_with fail
          refine HV.out.mono ?_
          rintro e _ ⟨rfl, rfl⟩
          go_wp2
          go_ret
          exact ⟨rfl, HF.out.1, HF.out.2⟩
        · have hrni : ¬ (r : Int) < (n : Int) := by omega
          obtain ⟨s, hs⟩ : ∃ s, s = k + n := ⟨_, rfl⟩
          have hsi : (k : Int) + (n : Int) = (s : Int) := by omega
          have hnw : IntKind.i64.wrap (n : Int) = (n : Int) := by rw [IntKind.wrap_i64]; omega
          have HS := Lib.hid (rr_skip ge h1 h2 h3 h4 (k := s) (by omega))
          have CL := Lib.hid (fun u => run_slice_low byteSl (A := A) (n := l.length) (c := c) (k := s) (by omega) u)
          have CM := fun u => run_slice_mid byteSl (A := A) (n := l.length) (c := c) (lo := k) (hi := s) (by omega) (by omega) u
          rw [show s - k = n by omega] at CM
          replace CM := Lib.hid CM
          have SL := Sl.cutLow (k := k) (c := c) (l := l) (enc := enc1) h4 rfl enc1_len hk h2
          have SM := Sl.less SL (by rw [List.length_drop]) (k := n) (by omega)
          have CV : Hid ((convert 35 9 (.slice (cutAddr A c k 1) n (c - k))).run Tryz.prog w = .ok (.string (bytesOf ((l.drop k).take n))) w) := strB_run SM (by rw [List.length_take, List.length_drop]; omega)
          have E : rText most l 0 = ((l.drop k).take n, l.drop s, 0) := by rw [ER.out, if_neg (by simp), if_neg hm, if_neg hrn, List.drop_drop, hs]
          rw [E]
          replace hr := Lib.hid hr
          replace hs := Lib.hid hs
          clear h h1 h2 h3 h4 H KR ER E hle SL SM
          generalize cutAddr A c s 1 = A2 at *
          generalize cutAddr A c k 1 = A3 at *
          generalize (l.drop k).take n = tx at *
          go_enter Tryz.func94, Tryz.ntmps94
          go_wp2_with fail
          refine HV.out.mono ?_
          rintro e _ ⟨rfl, rfl⟩
          go_wp2_with (first
            | (refine wpList_slB rfl rfl rfl rfl (CM.out _) ?_)
            | (refine wpList_slB rfl rfl rfl rfl (CL.out _) ?_)
            | (refine wpList_convB rfl CV.out ?_))
          go_ret
          exact ⟨rfl, HS.out.1, HS.out.2⟩
    · have z0 : (((e1 : Nat) : Int) == 0) = false := by rw [beq_eq_false_iff_ne]; omega
      have z1 : (((e1 : Nat) : Int) != 0) = true := by rw [bne_iff_ne]; omega
      have HF := Lib.hid (rr_fail ge h1 h2 h3 h4 e1)
      have E : rText most l 0 = ([], l, e1) := by rw [ER.out, if_pos he]
      rw [E]
      replace he := Lib.hid he
      clear h h1 h2 h3 h4 H KR ER E hle
      go_enter Tryz.func94, Tryz.ntmps94
      go_wp2_with fail
      refine HV.out.mono ?_
      rintro e _ ⟨rfl, rfl⟩
      go_wp2
      go_ret
      exact ⟨rfl, HF.out.1, HF.out.2⟩
  · have z1 : (((e : Nat) : Int) != 0) = true := by rw [bne_iff_ne]; omega
    rw [show rText most l e = ([], l, e) by unfold rText; rw [if_pos h0]]
    clear h h1 h2 h3 h4
    go_enter Tryz.func94, Tryz.ntmps94
    go_wp2
    go_ret
    exact ⟨rfl, KR.out, H.out⟩
end Go.Proofs.YtdafiipedlglpaaGreatDoor
