/- Names of patches: packed, unpacked, held against each other. -/
import Derived.Test.YtmfdggolnfoniaaDoorQuiet
import Derived.Laws.StructEq
import Derived.IntWalk
namespace Go.Proofs.YtmfdggolnfoniaaDoor
open Go.RowKit

def packV (a s : Int) : Int := a * 65536 + s
theorem bits_pack (a s : Int) (ha : 0 ≤ a ∧ a < 256) (hs : 0 ≤ s ∧ s < 65536) : bits .or .u32 (a * 65536) s = packV a s := by
  obtain ⟨a, rfl⟩ := Int.eq_ofNat_of_zero_le ha.1
  obtain ⟨s, rfl⟩ := Int.eq_ofNat_of_zero_le hs.1
  have h1 : a < 256 := by omega
  have h2 : s < 65536 := by omega
  have e : (BitVec.ofInt 32 ((a : Int) * 65536) ||| BitVec.ofInt 32 (s : Int)).toNat = a * 65536 + s := by
    rw [BitVec.toNat_or, BitVec.toNat_ofInt, BitVec.toNat_ofInt]
    have e1 : ((a : Int) * 65536 % ((2 ^ 32 : Nat) : Int)).toNat = a <<< 16 := by rw [Nat.shiftLeft_eq]; omega
    have e2 : ((s : Int) % ((2 ^ 32 : Nat) : Int)).toNat = s := by omega
    rw [e1, e2, ← Nat.shiftLeft_add_eq_or_of_lt (by omega : s < 2 ^ 16), Nat.shiftLeft_eq]
  show IntKind.u32.wrap (((BitVec.ofInt 32 ((a : Int) * 65536) ||| BitVec.ofInt 32 (s : Int)).toNat : Nat) : Int) = _
  rw [e]
  unfold packV
  rw [IntWalk.u32_in _ (by omega)]
  omega

set_option maxRecDepth 100000 in
set_option maxHeartbeats 1000000 in
theorem pack_any (a s : Int) (ha : 0 ≤ a ∧ a < 256) (hs : 0 ≤ s ∧ s < 65536) (w : World) : Calls Tryd.prog 35 #[.agg #[.int .u8 a, .int .u16 s]] w (RetB w (.int .u32 (packV a s))) := by
  have B0 : Hid (Below w.heap.size w (w.alloc (.cells #[.int .u8 a, .int .u16 s] 24))) := (Below.refl _ _).alloc (Nat.le_refl _) _
  have E := Lib.hid (bits_pack a s ha hs)
  obtain ⟨a0, a1⟩ := ha
  obtain ⟨s0, s1⟩ := hs
  go_enter Tryd.func35, Tryd.ntmps35
  go_wp2
  go_ret
  exact ⟨ret_int E.out, B0.out⟩

set_option maxRecDepth 100000 in
set_option maxHeartbeats 1000000 in
theorem unpack_yes (x : Int) (hx : 0 ≤ x ∧ x < 16777216) (w : World) : Calls Tryd.prog 34 #[.int .u32 x] w (RetB w (.tuple #[.agg #[.int .u8 (x / 65536), .int .u16 (x % 65536)], .bool true])) := by
  have d : (x / 16777216 != 0) = false := by simp; omega
  have F : Hid (IntKind.u16.wrap x = x % 65536) := by simp [Hid, IntKind.wrap, IntKind.bits, IntKind.signed]
  obtain ⟨x0, x1⟩ := hx
  go_enter Tryd.func34, Tryd.ntmps34
  go_wp2
  refine bodyPost_ret (v := .tuple #[.agg #[.int .u8 (x / 65536), .int .u16 (IntKind.u16.wrap x)], .bool true]) (by simp [results, Tryd.results34, go_sem]) rfl ⟨by rw [F.out], ?_⟩
  exact (Below.refl _ _).alloc (Nat.le_refl _) _
set_option maxRecDepth 100000 in
set_option maxHeartbeats 1000000 in
theorem unpack_no (x : Int) (hx : 16777216 ≤ x ∧ x < 4294967296) (w : World) : Calls Tryd.prog 34 #[.int .u32 x] w (RetB w (.tuple #[.agg #[.int .u8 0, .int .u16 0], .bool false])) := by
  have d : (x / 16777216 != 0) = true := by simp; omega
  obtain ⟨x0, x1⟩ := hx
  have x2 : 0 ≤ x := by omega
  go_enter Tryd.func34, Tryd.ntmps34
  go_wp2
  refine bodyPost_ret (v := .tuple #[.agg #[.int .u8 0, .int .u16 0], .bool false]) (by simp [results, Tryd.results34, go_sem]) rfl ⟨rfl, ?_⟩
  exact (Below.refl _ _).alloc (Nat.le_refl _) _

/-- how two numbers stand -/
def signV (x y : Int) : Int := if x < y then -1 else if y < x then 1 else 0
theorem signV_lt {x y : Int} (h : x < y) : signV x y = -1 := if_pos h
theorem signV_gt {x y : Int} (h : y < x) : signV x y = 1 := by unfold signV; rw [if_neg (by omega), if_pos h]
theorem signV_eq {x y : Int} (h : x = y) : signV x y = 0 := by unfold signV; rw [if_neg (by omega), if_neg (by omega)]
theorem signV_bd (x y : Int) : -1 ≤ signV x y ∧ signV x y ≤ 1 := by unfold signV; split <;> (try split) <;> omega
theorem signV_neg (x y : Int) : signV x y = - signV y x := by unfold signV; split <;> (try split) <;> (try split) <;> omega

set_option maxHeartbeats 1000000 in
theorem isnan_any (x : Int) (w : World) : Calls Tryd.prog 65 #[.int .u32 x] w (Ret w (.bool false)) := by
  have d : (x != x) = false := by simp
  go_enter Tryd.func65, Tryd.ntmps65
  go_wp2
  go_ret
  exact ⟨rfl, rfl⟩
set_option maxHeartbeats 1000000 in
theorem compare_any (x y : Int) (w : World) : Calls Tryd.prog 48 #[.int .u32 x, .int .u32 y] w (Ret w (.int .i64 (signV x y))) := by
  by_cases h1 : x < y
  · have F := Lib.hid (signV_lt h1)
    go_enter Tryd.func48, Tryd.ntmps48
    go_wp2_with ((with_reducible refine (isnan_any _ _).mono ?_); rintro e w' ⟨rfl, rfl⟩)
    go_ret
    exact ⟨ret_int F.out.symm, rfl⟩
  · by_cases h2 : y < x
    · have F := Lib.hid (signV_gt h2)
      go_enter Tryd.func48, Tryd.ntmps48
      go_wp2_with ((with_reducible refine (isnan_any _ _).mono ?_); rintro e w' ⟨rfl, rfl⟩)
      go_ret
      exact ⟨ret_int F.out.symm, rfl⟩
    · have F := Lib.hid (signV_eq (show x = y by omega))
      go_enter Tryd.func48, Tryd.ntmps48
      go_wp2_with ((with_reducible refine (isnan_any _ _).mono ?_); rintro e w' ⟨rfl, rfl⟩)
      go_ret
      exact ⟨ret_int F.out.symm, rfl⟩
set_option maxHeartbeats 1000000 in
theorem sign_any (x y : Int) (w : World) : Calls Tryd.prog 63 #[.int .i64 x, .int .i64 y] w (Ret w (.int .i64 (signV x y))) := by
  by_cases h1 : x < y
  · have F := Lib.hid (signV_lt h1)
    go_enter Tryd.func63, Tryd.ntmps63
    go_wp2
    go_ret
    exact ⟨ret_int F.out.symm, rfl⟩
  · by_cases h2 : y < x
    · have F := Lib.hid (signV_gt h2)
      go_enter Tryd.func63, Tryd.ntmps63
      go_wp2
      go_ret
      exact ⟨ret_int F.out.symm, rfl⟩
    · have F := Lib.hid (signV_eq (show x = y by omega))
      go_enter Tryd.func63, Tryd.ntmps63
      go_wp2
      go_ret
      exact ⟨ret_int F.out.symm, rfl⟩

/-- how two names stand: by author; by number -/
def cmpV (a s b t : Int) : Int := signV (packV a s) (packV b t)
def latV (a s b t : Int) : Int := signV (packV s a) (packV t b)
theorem cmpV_ne {a s b t : Int} (hs : 0 ≤ s ∧ s < 65536) (ht : 0 ≤ t ∧ t < 65536) (h : a ≠ b) : cmpV a s b t = signV a b := by
  unfold cmpV signV packV; split <;> (try split) <;> (try split) <;> (try split) <;> omega
theorem cmpV_eq {a s b t : Int} (h : a = b) : cmpV a s b t = signV s t := by
  unfold cmpV signV packV; split <;> (try split) <;> (try split) <;> (try split) <;> omega
theorem latV_ne {a s b t : Int} (ha : 0 ≤ a ∧ a < 256) (hb : 0 ≤ b ∧ b < 256) (h : s ≠ t) : latV a s b t = signV s t := by
  unfold latV signV packV; split <;> (try split) <;> (try split) <;> (try split) <;> omega
theorem latV_eq {a s b t : Int} (h : s = t) : latV a s b t = signV a b := by
  unfold latV signV packV; split <;> (try split) <;> (try split) <;> (try split) <;> omega

theorem two_box (w : World) (x y : Obj) : Below w.heap.size w ((w.alloc x).alloc y) := ((Below.refl _ _).alloc (Nat.le_refl _) _).alloc (by simp) _
theorem mixedP : Tryd.prog.follows .mixedOrders = true := by kernel_rfl
theorem underPid : Tryd.prog.underlying 24 = some (.struct (Tryd.prog.fieldsOf 24)) := by kernel_rfl
theorem infoPid : (Tryd.prog.info? 24).map (·.size) = some 2 := by kernel_rfl

set_option maxRecDepth 100000 in
set_option maxHeartbeats 1000000 in
theorem cmp_any (a s b t : Int) (ha : 0 ≤ a ∧ a < 256) (hs : 0 ≤ s ∧ s < 65536) (hb : 0 ≤ b ∧ b < 256) (ht : 0 ≤ t ∧ t < 65536) (w : World) :
    Calls Tryd.prog 44 #[.agg #[.int .u8 a, .int .u16 s], .agg #[.int .u8 b, .int .u16 t]] w (RetB w (.int .i64 (cmpV a s b t))) := by
  have HA := Lib.hid (fun w0 => pack_any a s ha hs w0)
  have HB := Lib.hid (fun w0 => pack_any b t hb ht w0)
  have B0 : Hid (Below w.heap.size w ((w.alloc (.cells #[.int .u8 a, .int .u16 s] 24)).alloc (.cells #[.int .u8 b, .int .u16 t] 24))) := two_box _ _ _
  have K1 : Hid (Blk ((w.alloc (.cells #[.int .u8 a, .int .u16 s] 24)).alloc (.cells #[.int .u8 b, .int .u16 t] 24)) w.heap.size 24 #[.int .u8 a, .int .u16 s]) := (Blk.new _ _ _).alloc _
  have K2 : Hid (Blk ((w.alloc (.cells #[.int .u8 a, .int .u16 s] 24)).alloc (.cells #[.int .u8 b, .int .u16 t] 24)) (w.heap.size + 1) 24 #[.int .u8 b, .int .u16 t]) := Blk.newAt (by simp) _ _
  clear ha hs hb ht
  unfold cmpV
  generalize packV a s = x at *
  generalize packV b t = y at *
  go_enter Tryd.func44, Tryd.ntmps44
  go_wp2_with fail
  generalize ((w.alloc (.cells #[.int .u8 a, .int .u16 s] 24)).alloc (.cells #[.int .u8 b, .int .u16 t] 24)) = w0 at *
  refine wp_region_ext mixedP (by kernel_rfl) ?_
  repeat (first
    | (refine wpQuiet_load_row K1.out underPid rfl infoPid rfl rfl ?_; simp only [List.set_cons_succ, List.set_cons_zero])
    | (refine wpQuiet_load_row K2.out underPid rfl infoPid rfl rfl ?_; simp only [List.set_cons_succ, List.set_cons_zero])
    | go_big_quiet_step ((first | (go_at_call 35; with_reducible exact ext_call (HA.out _)) | (go_at_call 35; with_reducible exact ext_call (HB.out _)) | (go_at_call 48; with_reducible exact ext_ret (compare_any _ _ _)))))
  refine wpQuiet_nil ?_
  rintro _ ⟨z, rfl⟩
  go_wp2
  go_ret
  exact ⟨rfl, B0.out.trans (z.h.mono B0.out.size)⟩

set_option maxRecDepth 100000 in
set_option maxHeartbeats 1000000 in
theorem rcmp_any (a s b t : Int) (ha : 0 ≤ a ∧ a < 256) (hs : 0 ≤ s ∧ s < 65536) (hb : 0 ≤ b ∧ b < 256) (ht : 0 ≤ t ∧ t < 65536) (w : World) :
    Calls Tryd.prog 46 #[.agg #[.int .u8 a, .int .u16 s], .agg #[.int .u8 b, .int .u16 t]] w (RetB w (.int .i64 (cmpV a s b t))) := by
  obtain ⟨a0, a1⟩ := ha
  obtain ⟨b0, b1⟩ := hb
  by_cases h : a = b
  · have F := Lib.hid (cmpV_eq (s := s) (t := t) h)
    subst h
    obtain ⟨s0, s1⟩ := hs
    obtain ⟨t0, t1⟩ := ht
    go_enter Tryd.func46, Tryd.ntmps46
    go_wp2_with fail
    refine (sign_any _ _ _).mono ?_
    rintro e w1 ⟨rfl, rfl⟩
    go_wp2
    go_ret
    exact ⟨ret_int F.out.symm, two_box _ _ _⟩
  · have F := Lib.hid (cmpV_ne hs ht h)
    obtain ⟨s0, s1⟩ := hs
    obtain ⟨t0, t1⟩ := ht
    have d : (a != b) = true := by simpa using h
    clear h
    go_enter Tryd.func46, Tryd.ntmps46
    go_wp2_with fail
    refine (sign_any _ _ _).mono ?_
    rintro e w1 ⟨rfl, rfl⟩
    go_wp2
    go_ret
    exact ⟨ret_int F.out.symm, two_box _ _ _⟩
set_option maxRecDepth 100000 in
set_option maxHeartbeats 1000000 in
theorem rlater_any (a s b t : Int) (ha : 0 ≤ a ∧ a < 256) (hs : 0 ≤ s ∧ s < 65536) (hb : 0 ≤ b ∧ b < 256) (ht : 0 ≤ t ∧ t < 65536) (w : World) :
    Calls Tryd.prog 53 #[.agg #[.int .u8 a, .int .u16 s], .agg #[.int .u8 b, .int .u16 t]] w (RetB w (.int .i64 (latV a s b t))) := by
  obtain ⟨s0, s1⟩ := hs
  obtain ⟨t0, t1⟩ := ht
  by_cases h : s = t
  · have F := Lib.hid (latV_eq (a := a) (b := b) h)
    subst h
    obtain ⟨a0, a1⟩ := ha
    obtain ⟨b0, b1⟩ := hb
    go_enter Tryd.func53, Tryd.ntmps53
    go_wp2_with fail
    refine (sign_any _ _ _).mono ?_
    rintro e w1 ⟨rfl, rfl⟩
    go_wp2
    go_ret
    exact ⟨ret_int F.out.symm, two_box _ _ _⟩
  · have F := Lib.hid (latV_ne ha hb h)
    obtain ⟨a0, a1⟩ := ha
    obtain ⟨b0, b1⟩ := hb
    have d : (s != t) = true := by simpa using h
    clear h
    go_enter Tryd.func53, Tryd.ntmps53
    go_wp2_with fail
    refine (sign_any _ _ _).mono ?_
    rintro e w1 ⟨rfl, rfl⟩
    go_wp2
    go_ret
    exact ⟨ret_int F.out.symm, two_box _ _ _⟩

theorem eql_pid (a b c d : Int) (w : World) : (binOp .eql 24 (.agg #[.int .u8 a, .int .u16 b]) (.agg #[.int .u8 c, .int .u16 d])).run Tryd.prog w = .ok (.bool (decide (a = c) && decide (b = d))) w := by
  simp [go_sem]
  by_cases h1 : a = c <;> by_cases h2 : b = d <;> simp [h1, h2]
theorem neq_pid (a b c d : Int) (w : World) : (binOp .neq 24 (.agg #[.int .u8 a, .int .u16 b]) (.agg #[.int .u8 c, .int .u16 d])).run Tryd.prog w = .ok (.bool (!(decide (a = c) && decide (b = d)))) w := by
  simp [go_sem]
  by_cases h1 : a = c <;> by_cases h2 : b = d <;> simp [h1, h2]

set_option maxRecDepth 100000 in
set_option maxHeartbeats 1000000 in
theorem later_any (a s b t : Int) (ha : 0 ≤ a ∧ a < 256) (hs : 0 ≤ s ∧ s < 65536) (hb : 0 ≤ b ∧ b < 256) (ht : 0 ≤ t ∧ t < 65536) (w : World) :
    Calls Tryd.prog 51 #[.agg #[.int .u8 a, .int .u16 s], .agg #[.int .u8 b, .int .u16 t]] w (RetB w (.int .i64 (latV a s b t))) := by
  have FN := Lib.hid (fun h => latV_ne (s := s) (t := t) ha hb h)
  have FE := Lib.hid (fun h => latV_eq (a := a) (b := b) (s := s) (t := t) h)
  obtain ⟨s0, s1⟩ := hs
  obtain ⟨t0, t1⟩ := ht
  obtain ⟨a0, a1⟩ := ha
  obtain ⟨b0, b1⟩ := hb
  by_cases h1 : s < t
  · have F : Hid (latV a s b t = -1) := (FN.out (by omega)).trans (signV_lt h1)
    have d : decide (s = t) = false := decide_eq_false (by omega)
    have d1 : ¬ s = t := by omega
    have d2 : decide (s < t) = true := decide_eq_true h1
    clear FN FE
    go_enter Tryd.func51, Tryd.ntmps51
    go_wp2
    go_ret
    exact ⟨ret_int F.out.symm, two_box _ _ _⟩
  · by_cases h2 : t < s
    · have F : Hid (latV a s b t = 1) := (FN.out (by omega)).trans (signV_gt h2)
      have d1 : ¬ s = t := by omega
      have d2 : decide (s < t) = false := decide_eq_false h1
      have d3 : (s == t) = false := by simpa using d1
      clear FN FE
      go_enter Tryd.func51, Tryd.ntmps51
      go_wp2
      go_ret
      exact ⟨ret_int F.out.symm, two_box _ _ _⟩
    · have h3 : s = t := by omega
      subst h3
      by_cases h4 : a < b
      · have F : Hid (latV a s b s = -1) := (FE.out rfl).trans (signV_lt h4)
        have d1 : ¬ a = b := by omega
        have d2 : decide (a < b) = true := decide_eq_true h4
        clear FN FE h1 h2
        have d3 : decide (s < s) = false := by simp
        go_enter Tryd.func51, Tryd.ntmps51
        go_wp2
        go_ret
        exact ⟨ret_int F.out.symm, two_box _ _ _⟩
      · by_cases h5 : b < a
        · have F : Hid (latV a s b s = 1) := (FE.out rfl).trans (signV_gt h5)
          have d1 : ¬ a = b := by omega
          have d2 : decide (a < b) = false := decide_eq_false h4
          clear FN FE h1 h2
          have d3 : decide (s < s) = false := by simp
          go_enter Tryd.func51, Tryd.ntmps51
          go_wp2
          go_ret
          exact ⟨ret_int F.out.symm, two_box _ _ _⟩
        · have h6 : a = b := by omega
          subst h6
          have F : Hid (latV a s a s = 0) := (FE.out rfl).trans (signV_eq rfl)
          clear FN FE h1 h2
          go_enter Tryd.func51, Tryd.ntmps51
          go_wp2
          go_ret
          exact ⟨ret_int F.out.symm, two_box _ _ _⟩
end Go.Proofs.YtmfdggolnfoniaaDoor
