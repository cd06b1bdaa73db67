/- Names of vertices: unpacked; how they stand by number. -/
import Derived.Test.YtmfdggolnfoniaaDoorVidb
import Derived.Test.YtmfdggolnfoniaaDoorTail
import Derived.Test.YtmfdggolnfoniaaDoorLit
namespace Go.Proofs.YtmfdggolnfoniaaDoor
open Go.RowKit

theorem eqlV_any (a b c d m n : Int) (w : World) : (binOp .eql 36 (.agg #[.int .u8 a, .int .u16 b, .int .u8 m]) (.agg #[.int .u8 c, .int .u16 d, .int .u8 n])).run Tryd.prog w = .ok (.bool (decide (a = c) && decide (b = d) && decide (m = n))) w := by
  simp [go_sem]
  by_cases h1 : a = c <;> by_cases h2 : b = d <;> by_cases h3 : m = n <;> simp [h1, h2, h3]
theorem neqV_any (a b c d m n : Int) (w : World) : (binOp .neq 36 (.agg #[.int .u8 a, .int .u16 b, .int .u8 m]) (.agg #[.int .u8 c, .int .u16 d, .int .u8 n])).run Tryd.prog w = .ok (.bool (!(decide (a = c) && decide (b = d) && decide (m = n)))) w := by
  simp [go_sem]
  by_cases h1 : a = c <;> by_cases h2 : b = d <;> by_cases h3 : m = n <;> simp [h1, h2, h3]
theorem vidV_eq (x y : VidV) : (decide (((x.1.1.val : Nat) : Int) = ((y.1.1.val : Nat) : Int)) && decide (((x.1.2.val : Nat) : Int) = ((y.1.2.val : Nat) : Int)) && decide (((x.2.val : Nat) : Int) = ((y.2.val : Nat) : Int))) = decide (x = y) := by
  rw [pidV_eq, Bool.eq_iff_iff]
  simp only [Bool.and_eq_true, decide_eq_true_eq]
  constructor
  · rintro ⟨h1, h2⟩; exact Prod.ext h1 (Fin.ext (by omega))
  · rintro rfl; exact ⟨rfl, rfl⟩
theorem eqlV (x y : VidV) (w : World) : (binOp .eql 36 (.agg (encV x).toArray) (.agg (encV y).toArray)).run Tryd.prog w = .ok (.bool (decide (x = y))) w := by
  rw [← vidV_eq]; exact eqlV_any _ _ _ _ _ _ w
theorem neqV (x y : VidV) (w : World) : (binOp .neq 36 (.agg (encV x).toArray) (.agg (encV y).toArray)).run Tryd.prog w = .ok (.bool (!decide (x = y))) w := by
  rw [← vidV_eq]; exact neqV_any _ _ _ _ _ _ w
set_option maxRecDepth 100000 in
set_option maxHeartbeats 1000000 in
theorem vunpack_any (x : Int) (hx : 0 ≤ x ∧ x < 4294967296) (w : World) : Calls Tryd.prog 22 #[.int .u32 x] w (RetB w (.agg #[.int .u8 (x / 256 / 65536), .int .u16 (x / 256 % 65536), .int .u8 (x % 256)])) := by
  have HU := Lib.hid (fun w0 => unpack_yes (x / 256) (by omega) w0)
  have B0 : Hid (Below w.heap.size w (w.alloc (.cells #[.int .u8 0, .int .u16 0, .int .u8 0] 36))) := below_new _ _
  have K0 : Hid (Blk (w.alloc (.cells #[.int .u8 0, .int .u16 0, .int .u8 0] 36)) w.heap.size 36 #[.int .u8 0, .int .u16 0, .int .u8 0]) := Blk.new _ _ _
  obtain ⟨x0, x1⟩ := hx
  go_enter Tryd.func22, Tryd.ntmps22
  go_wp2_with fail
  generalize w.alloc (.cells #[.int .u8 0, .int .u16 0, .int .u8 0] 36) = w0 at *
  refine (HU.out w0).mono ?_
  rintro e w1 ⟨rfl, b1⟩
  have B1 : Hid (Below w.heap.size w (w1.alloc (.cells #[.int .u8 (x / 256 / 65536), .int .u16 (x / 256 % 65536)] 24))) := (B0.out.trans (b1.mono B0.out.size)).trans ((below_new w1 _).mono (Nat.le_trans B0.out.size b1.size))
  have K1 := Lib.hid ((K0.out.ext b1).alloc (.cells #[.int .u8 (x / 256 / 65536), .int .u16 (x / 256 % 65536)] 24))
  have z0 : (w1.alloc (.cells #[.int .u8 (x / 256 / 65536), .int .u16 (x / 256 % 65536)] 24)).cell? ⟨w.heap.size, 0, none⟩ = some (.int .u8 0) := K1.out.cell 0
  have z1 : (w1.alloc (.cells #[.int .u8 (x / 256 / 65536), .int .u16 (x / 256 % 65536)] 24)).cell? ⟨w.heap.size, 1, none⟩ = some (.int .u16 0) := K1.out.cell 1
  have z2 : (w1.alloc (.cells #[.int .u8 (x / 256 / 65536), .int .u16 (x / 256 % 65536)] 24)).cell? ⟨w.heap.size, 2, none⟩ = some (.int .u8 0) := K1.out.cell 2
  have f0 := K1.out.fr 0
  have f1 := K1.out.fr 1
  have f2 := K1.out.fr 2
  clear b1 B0 K0 HU
  go_wp2_with fail
  have y0 := (K1.out.set_ 0 (.int .u8 (x / 256 / 65536))).cell 0
  have y1 := ((K1.out.set_ 0 (.int .u8 (x / 256 / 65536))).set_ 1 (.int .u16 (x / 256 % 65536))).cell 1
  have y2 := (((K1.out.set_ 0 (.int .u8 (x / 256 / 65536))).set_ 1 (.int .u16 (x / 256 % 65536))).set_ 2 (.int .u8 (x % 256))).cell 2
  refine bodyPost_ret (v := .agg #[.int .u8 (x / 256 / 65536), .int .u16 (x / 256 % 65536), .int .u8 (x % 256)]) ?_ rfl ⟨rfl, below_setCell (below_setCell (below_setCell B1.out (Nat.le_refl _)) (Nat.le_refl _)) (Nat.le_refl _)⟩
  simp [results, Tryd.results22, go_sem, y0, y1, y2]
def orV (x y : Int) : Int := if x = 0 then y else x
set_option maxHeartbeats 1000000 in
theorem isnan8_any (x : Int) (w : World) : Calls Tryd.prog 66 #[.int .u8 x] w (Ret w (.bool false)) := by
  go_enter Tryd.func66, Tryd.ntmps66
  go_wp2
  go_ret
  exact ⟨rfl, rfl⟩
set_option maxRecDepth 100000 in
set_option maxHeartbeats 1000000 in
theorem compare8_any (x y : Int) (w : World) : Calls Tryd.prog 52 #[.int .u8 x, .int .u8 y] w (Ret w (.int .i64 (signV x y))) := by
  rcases Int.lt_trichotomy x y with h | h | h
  · have F := Lib.hid (signV_lt h)
    have d1 : decide (x < y) = true := decide_eq_true h
    go_enter Tryd.func52, Tryd.ntmps52
    go_wp2_with ((with_reducible refine (isnan8_any _ _).mono ?_); rintro e w' ⟨rfl, rfl⟩)
    go_ret
    exact ⟨ret_int F.out.symm, rfl⟩
  · have F := Lib.hid (signV_eq h)
    have d1 : decide (x < y) = false := decide_eq_false (by omega)
    have d2 : decide (y < x) = false := decide_eq_false (by omega)
    clear h
    go_enter Tryd.func52, Tryd.ntmps52
    go_wp2_with ((with_reducible refine (isnan8_any _ _).mono ?_); rintro e w' ⟨rfl, rfl⟩)
    go_ret
    exact ⟨ret_int F.out.symm, rfl⟩
  · have F := Lib.hid (signV_gt h)
    have d1 : decide (x < y) = false := decide_eq_false (by omega)
    have d2 : decide (y < x) = true := decide_eq_true h
    go_enter Tryd.func52, Tryd.ntmps52
    go_wp2_with ((with_reducible refine (isnan8_any _ _).mono ?_); rintro e w' ⟨rfl, rfl⟩)
    go_ret
    exact ⟨ret_int F.out.symm, rfl⟩
set_option maxRecDepth 100000 in
set_option maxHeartbeats 1000000 in
theorem or_any (x y : Int) (w : World) (g c : Nat) (h0 : w.cell? ⟨g, 0, none⟩ = some (.int .i64 x)) (h1 : w.cell? ⟨g, 1, none⟩ = some (.int .i64 y)) : Calls Tryd.prog 50 #[.slice (some ⟨g, 0, none⟩) 2 c] w (Ret w (.int .i64 (orV x y))) := by
  by_cases hx : x = 0
  · have F := Lib.hid (show orV x y = y from if_pos hx)
    have b0 : (x != 0) = false := by simp [hx]
    by_cases hy : y = 0
    · have F2 : Hid (orV x y = 0) := by rw [Hid, F.out, hy]
      have b1 : (y != 0) = false := by simp [hy]
      clear hx hy F
      go_enter Tryd.func50, Tryd.ntmps50
      go_wp2
      go_loop [8] (fun i => ∃ k : Nat, k ≤ 2 ∧ i = .int .i64 k) (fun i => 2 - (intOf i).toNat)
      case atStart => exact ⟨0, by omega, rfl⟩
      case round =>
        obtain ⟨k, hk, rfl⟩ := hrel
        match k, hk with
        | 0, _ =>
          go_wp2
          go_round
          case rel => exact ⟨1, by omega, rfl⟩
          case measure => simp [intOf]
        | 1, _ =>
          go_wp2
          go_round
          case rel => exact ⟨2, by omega, rfl⟩
          case measure => simp [intOf]
        | 2, _ => (go_wp2; go_ret; exact ⟨ret_int F2.out.symm, rfl⟩)
    · have b1 : (y != 0) = true := by simp [hy]
      clear hx hy
      go_enter Tryd.func50, Tryd.ntmps50
      go_wp2
      go_loop [8] (fun i => ∃ k : Nat, k ≤ 1 ∧ i = .int .i64 k) (fun i => 2 - (intOf i).toNat)
      case atStart => exact ⟨0, by omega, rfl⟩
      case round =>
        obtain ⟨k, hk, rfl⟩ := hrel
        match k, hk with
        | 0, _ =>
          go_wp2
          go_round
          case rel => exact ⟨1, by omega, rfl⟩
          case measure => simp [intOf]
        | 1, _ => (go_wp2; go_ret; exact ⟨ret_int F.out.symm, rfl⟩)
  · have F := Lib.hid (show orV x y = x from if_neg hx)
    have b0 : (x != 0) = true := by simp [hx]
    clear hx
    go_enter Tryd.func50, Tryd.ntmps50
    go_wp2
    go_loop [8] (fun i => i = .int .i64 0) (fun i => 2 - (intOf i).toNat)
    case atStart => exact rfl
    case round =>
      obtain rfl := hrel
      go_wp2
      go_ret
      exact ⟨ret_int F.out.symm, rfl⟩
end Go.Proofs.YtmfdggolnfoniaaDoor
