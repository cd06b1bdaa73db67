/- Names of vertices: unpacked; how they stand by number. -/
import Derived.Test.YtmfdggolnfoniaaVidb
import Derived.Test.YtmfdggolnfoniaaGen
namespace Go.Proofs.Ytmfdggolnfoniaa
open Go.RowKit

theorem eqlV_any (a b c d m n : Int) (w : World) : (binOp .eql 49 (.agg #[.int .u8 a, .int .u16 b, .int .u8 m]) (.agg #[.int .u8 c, .int .u16 d, .int .u8 n])).run Try.prog w = .ok (.bool (decide (a = c) && decide (b = d) && decide (m = n))) w := by
  simp [go_sem]
  by_cases h1 : a = c <;> by_cases h2 : b = d <;> by_cases h3 : m = n <;> simp [h1, h2, h3]
theorem neqV_any (a b c d m n : Int) (w : World) : (binOp .neq 49 (.agg #[.int .u8 a, .int .u16 b, .int .u8 m]) (.agg #[.int .u8 c, .int .u16 d, .int .u8 n])).run Try.prog w = .ok (.bool (!(decide (a = c) && decide (b = d) && decide (m = n)))) w := by
  simp [go_sem]
  by_cases h1 : a = c <;> by_cases h2 : b = d <;> by_cases h3 : m = n <;> simp [h1, h2, h3]
theorem vidV_eq (x y : VidV) : (decide (((x.1.1.val : Nat) : Int) = ((y.1.1.val : Nat) : Int)) && decide (((x.1.2.val : Nat) : Int) = ((y.1.2.val : Nat) : Int)) && decide (((x.2.val : Nat) : Int) = ((y.2.val : Nat) : Int))) = decide (x = y) := by
  rw [pidV_eq, Bool.eq_iff_iff]
  simp only [Bool.and_eq_true, decide_eq_true_eq]
  constructor
  · rintro ⟨h1, h2⟩; exact Prod.ext h1 (Fin.ext (by omega))
  · rintro rfl; exact ⟨rfl, rfl⟩
theorem eqlV (x y : VidV) (w : World) : (binOp .eql 49 (.agg (encV x).toArray) (.agg (encV y).toArray)).run Try.prog w = .ok (.bool (decide (x = y))) w := by
  rw [← vidV_eq]; exact eqlV_any _ _ _ _ _ _ w
theorem neqV (x y : VidV) (w : World) : (binOp .neq 49 (.agg (encV x).toArray) (.agg (encV y).toArray)).run Try.prog w = .ok (.bool (!decide (x = y))) w := by
  rw [← vidV_eq]; exact neqV_any _ _ _ _ _ _ w
def orV (x y : Int) : Int := if x = 0 then y else x
end Go.Proofs.Ytmfdggolnfoniaa
