/- The document's sum of bytes, bit by bit: walked. -/
import Derived.Test.YtdafiipedlglpaaGreatDoorCrcw
namespace Go.Proofs.YtdafiipedlglpaaGreatDoor
open Go.RowKit

def u8V (r : B8) : Value := .int .u8 ((r.toNat : Nat) : Int)
theorem geq32 (r : B32) (w : World) : (binOp .geq 47 (u32V r) (.int .u32 2147483648)).run Tryz.prog w = .ok (.bool r.msb) w := by
  have e : decide ((2147483648 : Int) ≤ ((r.toNat : Nat) : Int)) = r.msb := by
    rw [BitVec.msb_eq_decide]
    show decide _ = decide (2147483648 ≤ r.toNat)
    apply decide_eq_decide.2
    omega
  unfold u32V
  rw [← e]
  simp [go_sem]
theorem geq8 (r : B8) (w : World) : (binOp .geq 5 (u8V r) (.int .u8 128)).run Tryz.prog w = .ok (.bool r.msb) w := by
  have e : decide ((128 : Int) ≤ ((r.toNat : Nat) : Int)) = r.msb := by
    rw [BitVec.msb_eq_decide]
    show decide _ = decide (128 ≤ r.toNat)
    apply decide_eq_decide.2
    omega
  unfold u8V
  rw [← e]
  simp [go_sem]
theorem mul32 (a : B32) (w : World) : (binOp .mul 47 (u32V a) (.int .u32 2)).run Tryz.prog w = .ok (u32V (a <<< 1)) w := by
  have e2 : IntKind.u32.wrap (((a.toNat : Nat) : Int) * 2) = (((a <<< 1).toNat : Nat) : Int) := by
    rw [BitVec.toNat_shiftLeft, Nat.shiftLeft_eq]
    simp [IntKind.wrap, IntKind.signed, IntKind.bits]
  unfold u32V
  rw [← e2]
  simp [go_sem]
theorem mul8 (a : B8) (w : World) : (binOp .mul 5 (u8V a) (.int .u8 2)).run Tryz.prog w = .ok (u8V (a <<< 1)) w := by
  have e2 : IntKind.u8.wrap (((a.toNat : Nat) : Int) * 2) = (((a <<< 1).toNat : Nat) : Int) := by
    rw [BitVec.toNat_shiftLeft, Nat.shiftLeft_eq]
    simp [IntKind.wrap, IntKind.signed, IntKind.bits]
  unfold u8V
  rw [← e2]
  simp [go_sem]
theorem xorP (a : B32) (w : World) : (binOp .xor 47 (u32V a) (.int .u32 79764919)).run Tryz.prog w = .ok (u32V (a ^^^ polyC)) w := xor32 a polyC w
theorem bits_snoc (x : B8) {j : Nat} (h : j < 8) : (bitsB x).take (j + 1) = (bitsB x).take j ++ [(x <<< j).msb] := by
  have e : (bitsB x)[j]? = some ((x <<< j).msb) := by
    rw [bitsB_get x h, BitVec.msb_eq_getLsbD_last, BitVec.getLsbD_shiftLeft]
    have h1 : ¬ (8 - 1 < j) := by omega
    simp [h1]
  rw [List.take_add_one, e]; rfl
theorem crcBits_snoc (r : B32) (l : List Bool) (b : Bool) : crcBits r (l ++ [b]) = (crcBits r l <<< 1) ^^^ (if (crcBits r l).msb != b then polyC else 0#32) := by
  rw [crcBits_append, ← crcT_ref]; rfl
theorem shl_one (x : B8) (j : Nat) : x <<< j <<< 1 = x <<< (j + 1) := by rw [← BitVec.shiftLeft_add]
set_option maxRecDepth 100000 in
set_option maxHeartbeats 2000000 in
theorem rmore02_any (l : List UInt8) (s : B32) (w : World) (A : Option Addr) (n c : Nat) (h : BytesAt w A n c l) :
    Calls Tryz.prog 83 #[u32V s, .slice A n c] w (Ret w (u32V (moreC s (toB8 l)))) := by
  have hnm : n ≤ maxLen := Nat.le_trans h.cap h.big
  unfold maxLen at hnm
  have H := Lib.hid h.sl
  have E : Hid (moreC s (toB8 l) = ~~~ (crcL (~~~s) (toB8 l))) := rfl
  have hn := Lib.hid h.len
  have N0 := Lib.hid (fun u => not32s s u)
  clear h
  obtain ⟨t, ht⟩ : ∃ t, t = ~~~s := ⟨_, rfl⟩
  rw [← ht] at E N0
  rw [E.out]
  clear E ht
  generalize u32V s = sv at *
  go_enter Tryz.func83, Tryz.ntmps83
  go_wp2_with ((with_reducible refine wpList_comp ?_ ?_ ?_ (N0.out _) ?_); rfl; rfl; rfl)
  go_loop [5, 6] (fun r i => ∃ k : Nat, k ≤ n ∧ r = u32V (crcL t (toB8 (l.take k))) ∧ i = .int .i64 (k : Int)) (fun _ i => n - (intOf i).toNat)
  case atStart => exact ⟨0, by omega, rfl, rfl⟩
  case round =>
    obtain ⟨k, hk, rfl, rfl⟩ := hrel
    have hk0 : (0 : Int) ≤ (k : Int) := by omega
    by_cases hlt : k < n
    · have hlk : (k : Int) < (n : Int) := by omega
      obtain ⟨b, o, x, rfl, hb, hx, hc⟩ := byte_at H.out hlt
      have EN : Hid (crcL t (toB8 (l.take (k + 1))) = crcBits (crcL t (toB8 (l.take k))) (bitsB x.toBitVec)) := by
        rw [Hid, toB8_snoc hx, crcL_snoc, crcB_bits]
      replace hc : w.cell? ⟨b, o + k, none⟩ = some (u8V x.toBitVec) := hc
      clear hx hb
      generalize crcL t (toB8 (l.take k)) = r0 at *
      generalize x.toBitVec = y at *
      go_wp2_with fail
      go_loop [5, 7, 8] (fun r x i => ∃ j : Nat, j ≤ 8 ∧ r = u32V (crcBits r0 ((bitsB y).take j)) ∧ x = u8V (y <<< j) ∧ i = .int .i64 (j : Int)) (fun _ _ i => 8 - (intOf i).toNat)
      case atStart => exact ⟨0, by omega, rfl, by rw [BitVec.shiftLeft_zero], rfl⟩
      case round =>
        obtain ⟨j, hj, rfl, rfl, rfl⟩ := hrel
        have hj0 : (0 : Int) ≤ (j : Int) := by omega
        by_cases hj8 : j < 8
        · have hji : (j : Int) < 8 := by omega
          have EB : Hid (crcBits r0 ((bitsB y).take (j + 1)) = (crcBits r0 ((bitsB y).take j) <<< 1) ^^^ (if (crcBits r0 ((bitsB y).take j)).msb != (y <<< j).msb then polyC else 0#32)) := by
            rw [Hid, bits_snoc y hj8, crcBits_snoc]
          have EY : Hid (y <<< (j + 1) = y <<< j <<< 1) := (shl_one y j).symm
          generalize crcBits r0 ((bitsB y).take j) = r at *
          generalize y <<< j = z at *
          have G1 := Lib.hid (fun u => geq32 r u)
          have G2 := Lib.hid (fun u => geq8 z u)
          have M1 := Lib.hid (fun u => mul32 r u)
          have M2 := Lib.hid (fun u => mul8 z u)
          have X1 := Lib.hid (fun u => xorP (r <<< 1) u)
          generalize r <<< 1 = r1 at *
          generalize z <<< 1 = z1 at *
          generalize r.msb = b1 at *
          generalize z.msb = b2 at *
          cases b1 <;> cases b2
          · have EB2 : Hid (crcBits r0 ((bitsB y).take (j + 1)) = r1) := by rw [Hid, EB.out]; simp
            clear EB
            go_wp2_with (first
              | ((with_reducible refine wpList_comp ?_ ?_ ?_ (G1.out _) ?_); rfl; rfl; rfl)
              | ((with_reducible refine wpList_comp ?_ ?_ ?_ (G2.out _) ?_); rfl; rfl; rfl)
              | ((with_reducible refine wpList_comp ?_ ?_ ?_ (M1.out _) ?_); rfl; rfl; rfl)
              | ((with_reducible refine wpList_comp ?_ ?_ ?_ (M2.out _) ?_); rfl; rfl; rfl))
            go_round
            case rel => exact ⟨j + 1, by omega, by rw [EB2.out], by rw [EY.out], by go_num⟩
            case measure => simp [intOf]; omega
          · have EB2 : Hid (crcBits r0 ((bitsB y).take (j + 1)) = r1 ^^^ polyC) := by rw [Hid, EB.out]; simp
            clear EB
            generalize r1 ^^^ polyC = r2 at *
            go_wp2_with (first
              | ((with_reducible refine wpList_comp ?_ ?_ ?_ (G1.out _) ?_); rfl; rfl; rfl)
              | ((with_reducible refine wpList_comp ?_ ?_ ?_ (G2.out _) ?_); rfl; rfl; rfl)
              | ((with_reducible refine wpList_comp ?_ ?_ ?_ (M1.out _) ?_); rfl; rfl; rfl)
              | ((with_reducible refine wpList_comp ?_ ?_ ?_ (M2.out _) ?_); rfl; rfl; rfl)
              | ((with_reducible refine wpList_comp ?_ ?_ ?_ (X1.out _) ?_); rfl; rfl; rfl))
            go_round
            case rel => exact ⟨j + 1, by omega, by rw [EB2.out], by rw [EY.out], by go_num⟩
            case measure => simp [intOf]; omega
          · have EB2 : Hid (crcBits r0 ((bitsB y).take (j + 1)) = r1 ^^^ polyC) := by rw [Hid, EB.out]; simp
            clear EB
            generalize r1 ^^^ polyC = r2 at *
            go_wp2_with (first
              | ((with_reducible refine wpList_comp ?_ ?_ ?_ (G1.out _) ?_); rfl; rfl; rfl)
              | ((with_reducible refine wpList_comp ?_ ?_ ?_ (G2.out _) ?_); rfl; rfl; rfl)
              | ((with_reducible refine wpList_comp ?_ ?_ ?_ (M1.out _) ?_); rfl; rfl; rfl)
              | ((with_reducible refine wpList_comp ?_ ?_ ?_ (M2.out _) ?_); rfl; rfl; rfl)
              | ((with_reducible refine wpList_comp ?_ ?_ ?_ (X1.out _) ?_); rfl; rfl; rfl))
            go_round
            case rel => exact ⟨j + 1, by omega, by rw [EB2.out], by rw [EY.out], by go_num⟩
            case measure => simp [intOf]; omega
          · have EB2 : Hid (crcBits r0 ((bitsB y).take (j + 1)) = r1) := by rw [Hid, EB.out]; simp
            clear EB
            go_wp2_with (first
              | ((with_reducible refine wpList_comp ?_ ?_ ?_ (G1.out _) ?_); rfl; rfl; rfl)
              | ((with_reducible refine wpList_comp ?_ ?_ ?_ (G2.out _) ?_); rfl; rfl; rfl)
              | ((with_reducible refine wpList_comp ?_ ?_ ?_ (M1.out _) ?_); rfl; rfl; rfl)
              | ((with_reducible refine wpList_comp ?_ ?_ ?_ (M2.out _) ?_); rfl; rfl; rfl))
            go_round
            case rel => exact ⟨j + 1, by omega, by rw [EB2.out], by rw [EY.out], by go_num⟩
            case measure => simp [intOf]; omega
        · have hji : ¬ (j : Int) < 8 := by omega
          have EE : Hid (crcL t (toB8 (l.take (k + 1))) = crcBits r0 ((bitsB y).take j)) := by
            rw [Hid, EN.out, List.take_of_length_le (by show 8 ≤ j; omega)]
          go_wp2_with fail
          go_round
          case rel => exact ⟨k + 1, by omega, by rw [EE.out], by go_num⟩
          case measure => simp [intOf]; omega
    · have hlk : ¬ (k : Int) < (n : Int) := by omega
      rw [List.take_of_length_le (by rw [hn.out]; omega)]
      have N1 := Lib.hid (fun u => not32s (crcL t (toB8 l)) u)
      generalize crcL t (toB8 l) = r at *
      generalize ~~~r = r2 at *
      go_wp2_with ((with_reducible refine wpList_comp ?_ ?_ ?_ (N1.out _) ?_); rfl; rfl; rfl)
      go_ret
      exact ⟨rfl, rfl⟩
end Go.Proofs.YtdafiipedlglpaaGreatDoor
