/- Texts of general use, one behind another. -/
import Derived.Test.YtdafiipedlglpaaGreatDoorBufs

/- The reference's numbers as bytes: walked. -/
namespace Go.Proofs.YtdafiipedlglpaaGreatDoor
open Go.RowKit

theorem rem128_run (m : Nat) (w : World) : (binOp .rem 25 (.int .u64 (m : Int)) (.int .u64 128)).run Tryz.prog w = .ok (.int .u64 ((m % 128 : Nat) : Int)) w := by
  have e : ((m % 128 : Nat) : Int) = Int.tmod (m : Int) 128 := by rw [Int.tmod_eq_emod_of_nonneg (by omega)]; omega
  rw [e]
  simp [go_sem]
theorem quo128_run (m : Nat) (h : m < 18446744073709551616) (w : World) : (binOp .quo 25 (.int .u64 (m : Int)) (.int .u64 128)).run Tryz.prog w = .ok (.int .u64 ((m / 128 : Nat) : Int)) w := by
  have e : ((m / 128 : Nat) : Int) = IntKind.u64.wrap ((m : Int) / 128) := by rw [IntKind.wrap_u64]; omega
  rw [e]
  simp [go_sem]
theorem add128_run {q : Nat} (h : q < 128) (w : World) : (binOp .add 5 (.int .u8 (q : Int)) (.int .u8 128)).run Tryz.prog w = .ok (.int .u8 ((q + 128 : Nat) : Int)) w := by
  have e : ((q + 128 : Nat) : Int) = IntKind.u8.wrap ((q : Int) + 128) := by rw [IntKind.wrap_u8]; omega
  rw [e]
  simp [go_sem]
set_option maxRecDepth 100000 in
set_option maxHeartbeats 2000000 in
theorem rvbytes_any (n : Nat) (hn : n < 18446744073709551616) (w : World) : Calls Tryz.prog 155 #[.int .u64 (n : Int)] w (OwnedRet w 5 1 (vbytes n).length (encB (vbytes n))) := by
  have LB : Hid ((vbytes n).length ≤ 10) := by
    have := vbytes_len 9 n (by omega)
    exact this
  go_enter Tryz.func155, Tryz.ntmps155
  go_wp2_with fail
  go_loopw [0, 3] (fun v s wr => ∃ (m : Nat) (out : List UInt8), v = .int .u64 (m : Int) ∧ m < 18446744073709551616 ∧ Hid (out ++ vbytes m = vbytes n) ∧ Hid (wr.ownsRow w.heap.size 5 1 s out.length (encB out)) ∧ Hid (Below w.heap.size w wr)) (fun v _ _ => (intOf v).toNat)
  case atStart => exact ⟨n, [], rfl, hn, rfl, ⟨rfl, .inl ⟨rfl, rfl⟩⟩, Below.refl _ _⟩
  case round =>
    obtain ⟨m, out, rfl, hm, EQ, O, B⟩ := hrel
    have hm0 : (0 : Int) ≤ (m : Int) := by omega
    have hlen : out.length + (vbytes m).length ≤ 10 := by
      have h1 := congrArg List.length EQ.out
      rw [List.length_append] at h1
      have := LB.out
      omega
    have hp := vbytes_pos m
    have hol : out.length + 1 ≤ 10 := by omega
    clear hlen hp
    obtain ⟨A', c', rfl, _, _⟩ := Sl.of_own O.out
    have hbs := B.out.size
    by_cases hge : 128 ≤ m
    · have hgi : (128 : Int) ≤ (m : Int) := by omega
      have RM := fun u => rem128_run m u
      have RQ := fun u => quo128_run m hm u
      have RA := fun u => add128_run (q := m % 128) (by omega) u
      have RC := fun u => low8_run (m % 128) u
      rw [show m % 128 % 256 = m % 128 by omega] at RC
      have EN : Hid ((out ++ [UInt8.ofNat (m % 128 + 128)]) ++ vbytes (m / 128) = vbytes n) := by
        rw [Hid, List.append_assoc, ← EQ.out, vbytes_high (n := m) (by omega)]
        rfl
      clear EQ
      obtain ⟨x, hx⟩ : ∃ x, x = m % 128 + 128 := ⟨_, rfl⟩
      obtain ⟨y, hy⟩ : ∃ y, y = m / 128 := ⟨_, rfl⟩
      rw [← hx] at RA EN
      rw [← hy] at RQ EN
      have hx2 : x < 256 := by omega
      have hy2 : y < 18446744073709551616 := by omega
      have hy3 : y < m := by omega
      replace hx := Lib.hid hx
      replace hy := Lib.hid hy
      generalize m % 128 = z at *
      go_wp2_with (first
        | ((with_reducible refine wpList_binB (op := .rem) ?_ ?_ ?_ (RM _) ?_); rfl; rfl; simp [eqGuard])
        | ((with_reducible refine wpList_binB (op := .quo) ?_ ?_ ?_ (RQ _) ?_); rfl; rfl; simp [eqGuard])
        | ((with_reducible refine wpList_binB (op := .add) ?_ ?_ ?_ (RA _) ?_); rfl; rfl; simp [eqGuard])
        | (refine wpList_convB rfl (RC _) ?_)
        | (at_builtin; refine wpList_push byteSl O.out [.int .u8 (x : Int)] rfl (by simp [Value.oneCell']) hbs (by omega) (by unfold maxLen; omega) (by rfl) (by rfl) (by rfl) ?_; intro v1 w6 own1 bel1))
      have B5 := Lib.hid (B.out.trans bel1)
      have O5 : Hid (w6.ownsRow w.heap.size 5 1 v1 (out ++ [UInt8.ofNat x]).length (encB (out ++ [UInt8.ofNat x]))) := by
        rw [Hid, encB_append, List.length_append]
        have e : encB [UInt8.ofNat x] = [.int .u8 (x : Int)] := by
          show enc1 _ ++ [] = _
          rw [enc1_nat hx2, List.append_nil]
        rw [e]; exact own1
      clear own1 bel1 O B
      go_roundw
      case rel => exact ⟨y, _, rfl, hy2, EN.out, O5.out, B5.out⟩
      case measure => simp [intOf]; omega
    · have hgi : ¬ (128 : Int) ≤ (m : Int) := by omega
      have RC := fun u => low8_run m u
      have E1 : m % 256 = m := by omega
      rw [E1] at RC
      have EN : Hid (out ++ [UInt8.ofNat m] = vbytes n) := by rw [Hid, ← EQ.out, vbytes_low (by omega)]
      clear EQ E1
      go_wp2_with (first
        | (refine wpList_convB rfl (RC _) ?_)
        | (at_builtin; refine wpList_push byteSl O.out [.int .u8 (m : Int)] rfl (by simp [Value.oneCell']) hbs (by omega) (by unfold maxLen; omega) (by rfl) (by rfl) (by rfl) ?_; intro v1 w6 own1 bel1))
      have O5 : Hid (w6.ownsRow w.heap.size 5 1 v1 (vbytes n).length (encB (vbytes n))) := by
        rw [Hid, ← EN.out, encB_append, List.length_append]
        have e : encB [UInt8.ofNat m] = [.int .u8 (m : Int)] := by
          show enc1 _ ++ [] = _
          rw [enc1_nat (by omega), List.append_nil]
        rw [e]; exact own1
      have B5 := Lib.hid (B.out.trans bel1)
      clear own1 bel1 O B
      go_wp2
      go_ret
      exact ⟨_, rfl, O5.out, B5.out⟩
end Go.Proofs.YtdafiipedlglpaaGreatDoor

/- The reference's reading of a number: walked. -/
namespace Go.Proofs.YtdafiipedlglpaaGreatDoor
open Go.RowKit

/-- the number of its groups of seven bits -/
def hv : List UInt8 → Nat
  | [] => 0
  | x :: t => x.toNat % 128 + 128 * hv t
theorem up8_run (q : Nat) (w : World) (h : q < 256 := by omega) : (convert 5 25 (.int .u8 (q : Int))).run Tryz.prog w = .ok (.int .u64 (q : Int)) w := by
  have e : (q : Int) = IntKind.u64.wrap (q : Int) := by rw [IntKind.wrap_u64]; omega
  conv => rhs; rw [e]
  simp [go_sem]
theorem addU_run {a b : Nat} (h : a + b < 18446744073709551616) (w : World) : (binOp .add 25 (.int .u64 (a : Int)) (.int .u64 (b : Int))).run Tryz.prog w = .ok (.int .u64 ((a + b : Nat) : Int)) w := by
  have e : ((a + b : Nat) : Int) = IntKind.u64.wrap ((a : Int) + (b : Int)) := by rw [IntKind.wrap_u64]; omega
  rw [e]
  simp [go_sem]
end Go.Proofs.YtdafiipedlglpaaGreatDoor

/- The reference's reader: a byte, a number, the end: walked. -/
namespace Go.Proofs.YtdafiipedlglpaaGreatDoor
open Go.RowKit

/-- the reference's reader: what was not read, and what was wrong; the bytes lie below block B -/
structure RrAt (w : World) (B g : Nat) (l : List UInt8) (e : Nat) : Prop where
  ge : B ≤ g
  ex : ∃ A c, Blk w g 146 #[.slice A l.length c, .int .i64 (e : Int)] ∧ l.length ≤ c ∧ c ≤ maxLen ∧ Sl w B 1 A l.length (encB l)
theorem RrAt.ext {w w' : World} {B g e : Nat} {l : List UInt8} (h : RrAt w B g l e) (hb : Below w.heap.size w w') : RrAt w' B g l e := by
  obtain ⟨A, c, h1, h2, h3, h4⟩ := h.ex
  exact ⟨h.ge, A, c, h1.ext hb, h2, h3, h4.below hb (by have := h1.lt; have := h.ge; omega)⟩
end Go.Proofs.YtdafiipedlglpaaGreatDoor

/- The reference's reader: a text: walked. -/
namespace Go.Proofs.YtdafiipedlglpaaGreatDoor
open Go.RowKit

end Go.Proofs.YtdafiipedlglpaaGreatDoor
