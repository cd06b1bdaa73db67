/- The reference's reading of an operation: walked. -/
import Derived.Test.YtdafiipedlglpaaGreatDoorRps
import Derived.Test.YtdafiipedlglpaaGreatDoorPcds
namespace Go.Proofs.YtdafiipedlglpaaGreatDoor
open Go.RowKit

theorem mulU_run {a b : Nat} (h : a * b < 18446744073709551616) (w : World) : (binOp .mul 25 (.int .u64 (a : Int)) (.int .u64 (b : Int))).run Tryz.prog w = .ok (.int .u64 ((a * b : Nat) : Int)) w := by
  have e : ((a * b : Nat) : Int) = IntKind.u64.wrap ((a : Int) * (b : Int)) := by
    rw [← Int.natCast_mul, IntKind.wrap_u64]; omega
  rw [e]
  simp [go_sem]
theorem up16_run (q : Nat) (h : q < 65536) (w : World) : (convert 22 25 (.int .u16 (q : Int))).run Tryz.prog w = .ok (.int .u64 (q : Int)) w := by
  have e : (q : Int) = IntKind.u64.wrap (q : Int) := by rw [IntKind.wrap_u64]; omega
  conv => rhs; rw [e]
  simp [go_sem]
set_option maxRecDepth 100000 in
set_option maxHeartbeats 2000000 in
theorem rpack19 (v : VidV) (w : World) : Calls Tryz.prog 171 #[.agg (encV v).toArray] w (RetB w (.int .u64 ((packN v : Nat) : Int))) := by
  have K : Hid (Blk (w.alloc (.cells (encV v).toArray 98)) w.heap.size 98 (encV v).toArray) := Blk.new _ _ _
  have B0 : Hid (Below w.heap.size w (w.alloc (.cells (encV v).toArray 98))) := below_new _ _
  obtain ⟨a, ha⟩ : ∃ a, a = v.1.1.val := ⟨_, rfl⟩
  obtain ⟨s, hs⟩ : ∃ s, s = v.1.2.val := ⟨_, rfl⟩
  obtain ⟨n, hn⟩ : ∃ n, n = v.2.val := ⟨_, rfl⟩
  have ba := v.1.1.isLt
  have bs := v.1.2.isLt
  have bn := v.2.isLt
  rw [← ha] at ba
  rw [← hs] at bs
  rw [← hn] at bn
  have E : Hid (packN v = a * 16777216 + s * 256 + n) := by rw [Hid, ha, hs, hn]; rfl
  go_enter Tryz.func171, Tryz.ntmps171
  go_upto_region 1 with fail
  generalize (w.alloc (.cells (encV v).toArray 98)) = w2 at *
  have y0 : w2.cell? ⟨w.heap.size, 0, none⟩ = some (.int .u8 (a : Int)) := by rw [ha]; exact K.out.cell 0
  have y1 : w2.cell? ⟨w.heap.size, 1, none⟩ = some (.int .u16 (s : Int)) := by rw [hs]; exact K.out.cell 1
  have y2 : w2.cell? ⟨w.heap.size, 2, none⟩ = some (.int .u8 (n : Int)) := by rw [hn]; exact K.out.cell 2
  clear ha hs hn K
  have CA := fun u => up8_run a u (by omega)
  have CS := fun u => up16_run s bs u
  have CN := fun u => up8_run n u (by omega)
  have M1 := fun u => mulU_run (a := a) (b := 16777216) (by omega) u
  have M2 := fun u => mulU_run (a := s) (b := 256) (by omega) u
  have A1 := fun u => addU_run (a := a * 16777216) (b := s * 256) (by omega) u
  have A2 := fun u => addU_run (a := a * 16777216 + s * 256) (b := n) (by omega) u
  rw [← E.out] at A2
  clear E ba bs bn
  generalize packN v = P at *
  generalize a * 16777216 + s * 256 = z3 at *
  generalize a * 16777216 = z1 at *
  generalize s * 256 = z2 at *
  go_wp2_with (first
    | ((with_reducible refine wpList_convB ?_ (CA _) ?_); rfl)
    | ((with_reducible refine wpList_convB ?_ (CS _) ?_); rfl)
    | ((with_reducible refine wpList_convB ?_ (CN _) ?_); rfl)
    | ((with_reducible refine wpList_binB (op := .mul) ?_ ?_ ?_ (M1 _) ?_); rfl; rfl; simp [eqGuard])
    | ((with_reducible refine wpList_binB (op := .mul) ?_ ?_ ?_ (M2 _) ?_); rfl; rfl; simp [eqGuard])
    | ((with_reducible refine wpList_binB (op := .add) ?_ ?_ ?_ (A1 _) ?_); rfl; rfl; simp [eqGuard])
    | ((with_reducible refine wpList_binB (op := .add) ?_ ?_ ?_ (A2 _) ?_); rfl; rfl; simp [eqGuard]))
  go_ret
  exact ⟨rfl, B0.out⟩
end Go.Proofs.YtdafiipedlglpaaGreatDoor
