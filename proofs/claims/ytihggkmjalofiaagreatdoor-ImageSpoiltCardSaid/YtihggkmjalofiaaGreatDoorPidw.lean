/- Names of patches: packed, unpacked, held against each other. -/
import Derived.Test.YtihggkmjalofiaaGreatDoorGen
import Derived.Laws.StructEq
import Derived.IntWalk
namespace Go.Proofs.YtihggkmjalofiaaGreatDoor
open Go.RowKit

def packV (a s : Int) : Int := a * 65536 + s
theorem bits_pack (a s : Int) (ha : 0 ≤ a ∧ a < 256) (hs : 0 ≤ s ∧ s < 65536) : bits .or .u32 (a * 65536) s = packV a s := by
  obtain ⟨a, rfl⟩ := Int.eq_ofNat_of_zero_le ha.1
  obtain ⟨s, rfl⟩ := Int.eq_ofNat_of_zero_le hs.1
  have h1 : a < 256 := by omega
  have h2 : s < 65536 := by omega
  have e : (BitVec.ofInt 32 ((a : Int) * 65536) ||| BitVec.ofInt 32 (s : Int)).toNat = a * 65536 + s := by
    rw [BitVec.toNat_or, BitVec.toNat_ofInt, BitVec.toNat_ofInt]
    have e1 : ((a : Int) * 65536 % ((2 ^ 32 : Nat) : Int)).toNat = a <<< 16 := by rw [Nat.shiftLeft_eq]; omega
    have e2 : ((s : Int) % ((2 ^ 32 : Nat) : Int)).toNat = s := by omega
    rw [e1, e2, ← Nat.shiftLeft_add_eq_or_of_lt (by omega : s < 2 ^ 16), Nat.shiftLeft_eq]
  show IntKind.u32.wrap (((BitVec.ofInt 32 ((a : Int) * 65536) ||| BitVec.ofInt 32 (s : Int)).toNat : Nat) : Int) = _
  rw [e]
  unfold packV
  rw [IntWalk.u32_in _ (by omega)]
  omega

set_option maxRecDepth 100000 in
set_option maxHeartbeats 1000000 in
theorem unpack_yes (x : Int) (hx : 0 ≤ x ∧ x < 16777216) (w : World) : Calls Tryz.prog 367 #[.int .u32 x] w (RetB w (.tuple #[.agg #[.int .u8 (x / 65536), .int .u16 (x % 65536)], .bool true])) := by
  have d : (x / 16777216 != 0) = false := by simp; omega
  have F : Hid (IntKind.u16.wrap x = x % 65536) := by simp [Hid, IntKind.wrap, IntKind.bits, IntKind.signed]
  obtain ⟨x0, x1⟩ := hx
  go_enter Tryz.func367, Tryz.ntmps367
  go_wp2
  refine bodyPost_ret (v := .tuple #[.agg #[.int .u8 (x / 65536), .int .u16 (IntKind.u16.wrap x)], .bool true]) (by simp [results, Tryz.results367, go_sem]) rfl ⟨by rw [F.out], ?_⟩
  exact (Below.refl _ _).alloc (Nat.le_refl _) _
/-- how two numbers stand -/
def signV (x y : Int) : Int := if x < y then -1 else if y < x then 1 else 0
theorem signV_lt {x y : Int} (h : x < y) : signV x y = -1 := if_pos h
theorem signV_gt {x y : Int} (h : y < x) : signV x y = 1 := by unfold signV; rw [if_neg (by omega), if_pos h]
theorem signV_eq {x y : Int} (h : x = y) : signV x y = 0 := by unfold signV; rw [if_neg (by omega), if_neg (by omega)]
set_option maxHeartbeats 1000000 in
theorem isnan_any (x : Int) (w : World) : Calls Tryz.prog 350 #[.int .u32 x] w (Ret w (.bool false)) := by
  have d : (x != x) = false := by simp
  go_enter Tryz.func350, Tryz.ntmps350
  go_wp2
  go_ret
  exact ⟨rfl, rfl⟩
set_option maxHeartbeats 1000000 in
theorem compare_any (x y : Int) (w : World) : Calls Tryz.prog 297 #[.int .u32 x, .int .u32 y] w (Ret w (.int .i64 (signV x y))) := by
  by_cases h1 : x < y
  · have F := Lib.hid (signV_lt h1)
    go_enter Tryz.func297, Tryz.ntmps297
    go_wp2_with ((with_reducible refine (isnan_any _ _).mono ?_); rintro e w' ⟨rfl, rfl⟩)
    go_ret
    exact ⟨ret_int F.out.symm, rfl⟩
  · by_cases h2 : y < x
    · have F := Lib.hid (signV_gt h2)
      go_enter Tryz.func297, Tryz.ntmps297
      go_wp2_with ((with_reducible refine (isnan_any _ _).mono ?_); rintro e w' ⟨rfl, rfl⟩)
      go_ret
      exact ⟨ret_int F.out.symm, rfl⟩
    · have F := Lib.hid (signV_eq (show x = y by omega))
      go_enter Tryz.func297, Tryz.ntmps297
      go_wp2_with ((with_reducible refine (isnan_any _ _).mono ?_); rintro e w' ⟨rfl, rfl⟩)
      go_ret
      exact ⟨ret_int F.out.symm, rfl⟩
theorem underPid : Tryz.prog.underlying 27 = some (.struct (Tryz.prog.fieldsOf 27)) := by kernel_rfl
theorem infoPid : (Tryz.prog.info? 27).map (·.size) = some 2 := by kernel_rfl

theorem eql_pid (a b c d : Int) (w : World) : (binOp .eql 27 (.agg #[.int .u8 a, .int .u16 b]) (.agg #[.int .u8 c, .int .u16 d])).run Tryz.prog w = .ok (.bool (decide (a = c) && decide (b = d))) w := by
  simp [go_sem]
  by_cases h1 : a = c <;> by_cases h2 : b = d <;> simp [h1, h2]
theorem neq_pid (a b c d : Int) (w : World) : (binOp .neq 27 (.agg #[.int .u8 a, .int .u16 b]) (.agg #[.int .u8 c, .int .u16 d])).run Tryz.prog w = .ok (.bool (!(decide (a = c) && decide (b = d)))) w := by
  simp [go_sem]
  by_cases h1 : a = c <;> by_cases h2 : b = d <;> simp [h1, h2]

end Go.Proofs.YtihggkmjalofiaaGreatDoor
