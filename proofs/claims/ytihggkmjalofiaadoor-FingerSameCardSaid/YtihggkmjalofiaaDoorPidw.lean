/- Names of patches: packed, unpacked, held against each other. -/
import Derived.Test.YtihggkmjalofiaaDoorGen
import Derived.Laws.StructEq
import Derived.IntWalk
namespace Go.Proofs.YtihggkmjalofiaaDoor
open Go.RowKit

def packV (a s : Int) : Int := a * 65536 + s
theorem bits_pack (a s : Int) (ha : 0 ≤ a ∧ a < 256) (hs : 0 ≤ s ∧ s < 65536) : bits .or .u32 (a * 65536) s = packV a s := by
  obtain ⟨a, rfl⟩ := Int.eq_ofNat_of_zero_le ha.1
  obtain ⟨s, rfl⟩ := Int.eq_ofNat_of_zero_le hs.1
  have h1 : a < 256 := by omega
  have h2 : s < 65536 := by omega
  have e : (BitVec.ofInt 32 ((a : Int) * 65536) ||| BitVec.ofInt 32 (s : Int)).toNat = a * 65536 + s := by
    rw [BitVec.toNat_or, BitVec.toNat_ofInt, BitVec.toNat_ofInt]
    have e1 : ((a : Int) * 65536 % ((2 ^ 32 : Nat) : Int)).toNat = a <<< 16 := by rw [Nat.shiftLeft_eq]; omega
    have e2 : ((s : Int) % ((2 ^ 32 : Nat) : Int)).toNat = s := by omega
    rw [e1, e2, ← Nat.shiftLeft_add_eq_or_of_lt (by omega : s < 2 ^ 16), Nat.shiftLeft_eq]
  show IntKind.u32.wrap (((BitVec.ofInt 32 ((a : Int) * 65536) ||| BitVec.ofInt 32 (s : Int)).toNat : Nat) : Int) = _
  rw [e]
  unfold packV
  rw [IntWalk.u32_in _ (by omega)]
  omega

/-- how two numbers stand -/
def signV (x y : Int) : Int := if x < y then -1 else if y < x then 1 else 0
theorem signV_lt {x y : Int} (h : x < y) : signV x y = -1 := if_pos h
theorem signV_gt {x y : Int} (h : y < x) : signV x y = 1 := by unfold signV; rw [if_neg (by omega), if_pos h]
theorem signV_eq {x y : Int} (h : x = y) : signV x y = 0 := by unfold signV; rw [if_neg (by omega), if_neg (by omega)]
set_option maxHeartbeats 1000000 in
theorem isnan_any (x : Int) (w : World) : Calls Tryd.prog 82 #[.int .u32 x] w (Ret w (.bool false)) := by
  have d : (x != x) = false := by simp
  go_enter Tryd.func82, Tryd.ntmps82
  go_wp2
  go_ret
  exact ⟨rfl, rfl⟩
set_option maxHeartbeats 1000000 in
theorem compare_any (x y : Int) (w : World) : Calls Tryd.prog 70 #[.int .u32 x, .int .u32 y] w (Ret w (.int .i64 (signV x y))) := by
  by_cases h1 : x < y
  · have F := Lib.hid (signV_lt h1)
    go_enter Tryd.func70, Tryd.ntmps70
    go_wp2_with ((with_reducible refine (isnan_any _ _).mono ?_); rintro e w' ⟨rfl, rfl⟩)
    go_ret
    exact ⟨ret_int F.out.symm, rfl⟩
  · by_cases h2 : y < x
    · have F := Lib.hid (signV_gt h2)
      go_enter Tryd.func70, Tryd.ntmps70
      go_wp2_with ((with_reducible refine (isnan_any _ _).mono ?_); rintro e w' ⟨rfl, rfl⟩)
      go_ret
      exact ⟨ret_int F.out.symm, rfl⟩
    · have F := Lib.hid (signV_eq (show x = y by omega))
      go_enter Tryd.func70, Tryd.ntmps70
      go_wp2_with ((with_reducible refine (isnan_any _ _).mono ?_); rintro e w' ⟨rfl, rfl⟩)
      go_ret
      exact ⟨ret_int F.out.symm, rfl⟩
set_option maxHeartbeats 1000000 in
theorem sign_any (x y : Int) (w : World) : Calls Tryd.prog 66 #[.int .i64 x, .int .i64 y] w (Ret w (.int .i64 (signV x y))) := by
  by_cases h1 : x < y
  · have F := Lib.hid (signV_lt h1)
    go_enter Tryd.func66, Tryd.ntmps66
    go_wp2
    go_ret
    exact ⟨ret_int F.out.symm, rfl⟩
  · by_cases h2 : y < x
    · have F := Lib.hid (signV_gt h2)
      go_enter Tryd.func66, Tryd.ntmps66
      go_wp2
      go_ret
      exact ⟨ret_int F.out.symm, rfl⟩
    · have F := Lib.hid (signV_eq (show x = y by omega))
      go_enter Tryd.func66, Tryd.ntmps66
      go_wp2
      go_ret
      exact ⟨ret_int F.out.symm, rfl⟩

/-- how two names stand: by author; by number -/
def cmpV (a s b t : Int) : Int := signV (packV a s) (packV b t)
theorem cmpV_ne {a s b t : Int} (hs : 0 ≤ s ∧ s < 65536) (ht : 0 ≤ t ∧ t < 65536) (h : a ≠ b) : cmpV a s b t = signV a b := by
  unfold cmpV signV packV; split <;> (try split) <;> (try split) <;> (try split) <;> omega
theorem cmpV_eq {a s b t : Int} (h : a = b) : cmpV a s b t = signV s t := by
  unfold cmpV signV packV; split <;> (try split) <;> (try split) <;> (try split) <;> omega
theorem two_box (w : World) (x y : Obj) : Below w.heap.size w ((w.alloc x).alloc y) := ((Below.refl _ _).alloc (Nat.le_refl _) _).alloc (by simp) _
theorem underPid : Tryd.prog.underlying 29 = some (.struct (Tryd.prog.fieldsOf 29)) := by kernel_rfl
theorem infoPid : (Tryd.prog.info? 29).map (·.size) = some 2 := by kernel_rfl

set_option maxRecDepth 100000 in
set_option maxHeartbeats 1000000 in
theorem rcmp_any (a s b t : Int) (ha : 0 ≤ a ∧ a < 256) (hs : 0 ≤ s ∧ s < 65536) (hb : 0 ≤ b ∧ b < 256) (ht : 0 ≤ t ∧ t < 65536) (w : World) :
    Calls Tryd.prog 55 #[.agg #[.int .u8 a, .int .u16 s], .agg #[.int .u8 b, .int .u16 t]] w (RetB w (.int .i64 (cmpV a s b t))) := by
  obtain ⟨a0, a1⟩ := ha
  obtain ⟨b0, b1⟩ := hb
  by_cases h : a = b
  · have F := Lib.hid (cmpV_eq (s := s) (t := t) h)
    subst h
    obtain ⟨s0, s1⟩ := hs
    obtain ⟨t0, t1⟩ := ht
    go_enter Tryd.func55, Tryd.ntmps55
    go_wp2_with fail
    refine (sign_any _ _ _).mono ?_
    rintro e w1 ⟨rfl, rfl⟩
    go_wp2
    go_ret
    exact ⟨ret_int F.out.symm, two_box _ _ _⟩
  · have F := Lib.hid (cmpV_ne hs ht h)
    obtain ⟨s0, s1⟩ := hs
    obtain ⟨t0, t1⟩ := ht
    have d : (a != b) = true := by simpa using h
    clear h
    go_enter Tryd.func55, Tryd.ntmps55
    go_wp2_with fail
    refine (sign_any _ _ _).mono ?_
    rintro e w1 ⟨rfl, rfl⟩
    go_wp2
    go_ret
    exact ⟨ret_int F.out.symm, two_box _ _ _⟩
theorem eql_pid (a b c d : Int) (w : World) : (binOp .eql 29 (.agg #[.int .u8 a, .int .u16 b]) (.agg #[.int .u8 c, .int .u16 d])).run Tryd.prog w = .ok (.bool (decide (a = c) && decide (b = d))) w := by
  simp [go_sem]
  by_cases h1 : a = c <;> by_cases h2 : b = d <;> simp [h1, h2]
theorem neq_pid (a b c d : Int) (w : World) : (binOp .neq 29 (.agg #[.int .u8 a, .int .u16 b]) (.agg #[.int .u8 c, .int .u16 d])).run Tryd.prog w = .ok (.bool (!(decide (a = c) && decide (b = d)))) w := by
  simp [go_sem]
  by_cases h1 : a = c <;> by_cases h2 : b = d <;> simp [h1, h2]

end Go.Proofs.YtihggkmjalofiaaDoor
