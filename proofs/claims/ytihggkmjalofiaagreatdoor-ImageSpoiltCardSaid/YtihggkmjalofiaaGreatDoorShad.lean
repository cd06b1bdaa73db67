/- The sum of bytes: steps of 32-bit numbers; turning round, walked. -/
import Derived.Test.YtihggkmjalofiaaGreatDoorCrcp
import Derived.Test.YtihggkmjalofiaaGreatDoorBufs
import Derived.Test.YtihggkmjalofiaaGreatDoorPools
import Derived.Test.YtihggkmjalofiaaGreatDoorGen
import Derived.Test.YtihggkmjalofiaaGreatDoorIdxw
import Derived.Lib.LaidTab
import Derived.Laws.BitsAllLaws
namespace Go.Proofs.YtihggkmjalofiaaGreatDoor
open Go.RowKit

def u32S (r : W32) : Value := .int .u32 ((r.toNat : Nat) : Int)
theorem add_sh (a b : W32) (w : World) : (binOp .add 153 (u32S a) (u32S b)).run Tryz.prog w = .ok (u32S (a + b)) w := by
  have e : IntKind.u32.wrap (((a.toNat : Nat) : Int) + ((b.toNat : Nat) : Int)) = (((a + b).toNat : Nat) : Int) := by
    rw [BitVec.toNat_add]
    simp [IntKind.wrap, IntKind.signed, IntKind.bits]
  unfold u32S
  rw [← e]
  simp [go_sem]
theorem xor_sh (a b : W32) (w : World) : (binOp .xor 153 (u32S a) (u32S b)).run Tryz.prog w = .ok (u32S (a ^^^ b)) w := by
  unfold u32S
  rw [BitVec.toNat_xor, ← u32_xor_nat _ _ a.isLt b.isLt]
  simp [go_sem]
theorem or_sh (a b : W32) (w : World) : (binOp .or 153 (u32S a) (u32S b)).run Tryz.prog w = .ok (u32S (a ||| b)) w := by
  unfold u32S
  rw [BitVec.toNat_or, ← u32_or_nat _ _ a.isLt b.isLt]
  simp [go_sem]
theorem and_sh (a b : W32) (w : World) : (binOp .and 153 (u32S a) (u32S b)).run Tryz.prog w = .ok (u32S (a &&& b)) w := by
  unfold u32S
  rw [BitVec.toNat_and, ← u32_and_nat _ _ a.isLt b.isLt]
  simp [go_sem]
theorem shl_sh (a : W32) (k : Nat) (hk : k < 32) (w : World) : (binOp .shl 153 (u32S a) (.int .u64 (k : Int))).run Tryz.prog w = .ok (u32S (a <<< k)) w := by
  have e2 : IntKind.u32.wrap (((a.toNat : Nat) : Int) * 2 ^ k) = (((a <<< k).toNat : Nat) : Int) := by
    rw [BitVec.toNat_shiftLeft, Nat.shiftLeft_eq]
    simp [IntKind.wrap, IntKind.signed, IntKind.bits]
  unfold u32S
  rw [← e2]
  have h2 : ((k : Int)).toNat = k := by omega
  simp [go_sem, h2]
theorem shr_sh (a : W32) (k : Nat) (hk : k < 32) (w : World) : (binOp .shr 153 (u32S a) (.int .u64 (k : Int))).run Tryz.prog w = .ok (u32S (a >>> k)) w := by
  have e2 : ((a.toNat : Nat) : Int) / 2 ^ k = (((a >>> k).toNat : Nat) : Int) := by
    rw [BitVec.toNat_ushiftRight, Nat.shiftRight_eq_div_pow]
    norm_cast
  unfold u32S
  rw [← e2]
  have h2 : ((k : Int)).toNat = k := by omega
  simp [go_sem, h2]
theorem not_sh_ones (r : W32) : ~~~r = (~~~0#32) ^^^ r := by
  apply BitVec.eq_of_getLsbD_eq
  intro i hi
  rw [BitVec.getLsbD_xor, BitVec.getLsbD_not, BitVec.getLsbD_not, decide_eq_true hi]
  simp
theorem not_sh (r : W32) (w : World) : (Op.unary .xor (u32S r)).run Tryz.prog w = .ok (u32S (~~~r)) w := by
  have e : (((~~~r).toNat : Nat) : Int) = bits .xor .u32 4294967295 ((r.toNat : Nat) : Int) := by
    have := u32_xor_nat 4294967295 r.toNat (by omega) r.isLt
    rw [show ((4294967295 : Nat) : Int) = 4294967295 from rfl] at this
    rw [this, not_sh_ones, BitVec.toNat_xor]
    rfl
  unfold u32S
  rw [e]
  have m : IntKind.u32.max = 4294967295 := by decide
  simp [go_sem, IntKind.signed, m]
theorem conv_sh (x : UInt8) (w : World) : (convert 5 153 (.int .u8 ((x.toNat : Nat) : Int))).run Tryz.prog w = .ok (u32S (wideS x)) w := by
  have e2 : IntKind.u32.wrap ((x.toNat : Nat) : Int) = (((wideS x).toNat : Nat) : Int) := by
    rw [wideS_nat]
    have := x.toNat_lt
    exact IntWalk.u32_in _ (by omega)
  unfold u32S
  rw [← e2]
  simp [go_sem]
theorem cut_sh (r : W32) (w : World) : (convert 153 5 (u32S r)).run Tryz.prog w = .ok (.int .u8 (((UInt8.ofNat r.toNat).toNat : Nat) : Int)) w := by
  have e2 : IntKind.u8.wrap ((r.toNat : Nat) : Int) = (((UInt8.ofNat r.toNat).toNat : Nat) : Int) := by
    rw [UInt8.toNat_ofNat']
    simp [IntKind.wrap, IntKind.signed, IntKind.bits]
  unfold u32S
  rw [← e2]
  simp [go_sem]
theorem load_sh (g i : Nat) (v : W32) (w : World) (h : w.cell? ⟨g, i, none⟩ = some (u32S v)) : (Instr.loadAt 153 (.pointer (some ⟨g, i, none⟩))).run Tryz.prog w = .ok (u32S v) w := by
  unfold u32S at *
  simp [go_sem, h]
theorem store_sh (g i : Nat) (v : W32) (w : World) {u : Value} (h : w.cell? ⟨g, i, none⟩ = some u) (hf : w.frozen? ⟨g, i, none⟩ = false) : (Instr.storeAt 153 (.pointer (some ⟨g, i, none⟩)) (u32S v)).run Tryz.prog w = .ok () (w.setCell ⟨g, i, none⟩ (u32S v)) := by
  unfold u32S
  simp [go_sem, h, hf]
section
variable {P : Program} {ρ : Operand → Value} {d : Option Tmp} {ty s t : TypeId} {x : Operand} {pos : String} {after : Array Edge} {gd : Option (Nat × Bool)} {v xv : Value} {w : World}
theorem exConv_sh (hx : ρ x = xv) (hr : (convert s t xv).run P w = .ok v w) : (execOp ρ ⟨d, .convert s t x, ty, pos, after, gd⟩).run P w = .ok (.value v) w := by
  unfold execOp; simp only [hx, Sem.run_bind, hr, Result.andThen_ok, Sem.run_pure]
theorem exUn_sh {op : UnOp} (hx : ρ x = xv) (hr : (Op.unary op xv).run P w = .ok v w) : (execOp ρ ⟨d, .unOp op t x, ty, pos, after, gd⟩).run P w = .ok (.value v) w := by
  unfold execOp; simp only [hx, Sem.run_bind, hr, Result.andThen_ok, Sem.run_pure]
end
theorem nmul_sh (x y : Nat) (w : World) (h : x * y ≤ 1000000) : (binOp .mul 3 (.int .i64 ((x : Nat) : Int)) (.int .i64 ((y : Nat) : Int))).run Tryz.prog w = .ok (.int .i64 ((x * y : Nat) : Int)) w := by
  have e : IntKind.i64.wrap ((x : Int) * (y : Int)) = ((x * y : Nat) : Int) := by
    rw [show (x : Int) * (y : Int) = ((x * y : Nat) : Int) by push_cast; rfl, IntKind.wrap_i64] <;> omega
  simp [go_sem, e]
theorem nadd_sh (x y : Nat) (w : World) (h : x + y ≤ 1000000) : (binOp .add 3 (.int .i64 ((x : Nat) : Int)) (.int .i64 ((y : Nat) : Int))).run Tryz.prog w = .ok (.int .i64 ((x + y : Nat) : Int)) w := by
  have e : IntKind.i64.wrap ((x : Int) + (y : Int)) = ((x + y : Nat) : Int) := by rw [IntKind.wrap_i64] <;> omega
  simp [go_sem, e]
theorem nsub_sh (x y : Nat) (w : World) (h : y ≤ x) (hm : x ≤ 1000000) : (binOp .sub 3 (.int .i64 ((x : Nat) : Int)) (.int .i64 ((y : Nat) : Int))).run Tryz.prog w = .ok (.int .i64 ((x - y : Nat) : Int)) w := by
  have e : IntKind.i64.wrap ((x : Int) - (y : Int)) = ((x - y : Nat) : Int) := by rw [IntKind.wrap_i64] <;> omega
  simp [go_sem, e]
theorem loadB_sh (g i : Nat) (x : UInt8) (w : World) (h : w.cell? ⟨g, i, none⟩ = some (.int .u8 ((x.toNat : Nat) : Int))) : (Instr.loadAt 5 (.pointer (some ⟨g, i, none⟩))).run Tryz.prog w = .ok (.int .u8 ((x.toNat : Nat) : Int)) w := by
  simp [go_sem, h]
theorem indexB_sh (b o n c k : Nat) (hk : k < n) (w : World) : (Instr.indexAt 46 (.slice (some ⟨b, o, none⟩) n c) (.int .i64 ((k : Nat) : Int))).run Tryz.prog w = .ok (.pointer (some ⟨b, o + k, none⟩)) w := by
  have h1 : ((k : Nat) : Int) < (n : Int) := by omega
  simp [go_sem, h1]
theorem index64_sh (g k : Nat) (hk : k < 64) (w : World) : (Instr.indexAt 315 (.pointer (some ⟨g, 0, none⟩)) (.int .i64 ((k : Nat) : Int))).run Tryz.prog w = .ok (.pointer (some ⟨g, k, none⟩)) w := by
  have h1 : ((k : Nat) : Int) < 64 := by omega
  simp [go_sem, h1]
theorem index8_sh (g k : Nat) (hk : k < 8) (w : World) : (Instr.indexAt 236 (.pointer (some ⟨g, 0, none⟩)) (.int .i64 ((k : Nat) : Int))).run Tryz.prog w = .ok (.pointer (some ⟨g, k, none⟩)) w := by
  have h1 : ((k : Nat) : Int) < 8 := by omega
  simp [go_sem, h1]
set_option maxRecDepth 100000 in
set_option maxHeartbeats 1000000 in
theorem right_any (x : W32) (n : Nat) (h0 : 0 < n) (hn : n < 32) (w : World) : Calls Tryz.prog 227 #[u32S x, .int .u64 (n : Int)] w (Ret w (u32S (rotS x n))) := by
  have R1 := Lib.hid (fun u => shr_sh x n hn u)
  have R2 := Lib.hid (fun u => shl_sh x (32 - n) (by omega) u)
  have R3 := Lib.hid (fun u => or_sh (x >>> n) (x <<< (32 - n)) u)
  have R4 : Hid (∀ u : World, (binOp .sub 237 (.int .u64 32) (.int .u64 (n : Int))).run Tryz.prog u = .ok (.int .u64 ((32 - n : Nat) : Int)) u) := by
    intro u
    have e : IntKind.u64.wrap (32 - (n : Int)) = ((32 - n : Nat) : Int) := by
      simp [IntKind.wrap, IntKind.signed, IntKind.bits]
      omega
    simp [go_sem, e]
  unfold rotS
  generalize u32S x = xv at *
  go_enter Tryz.func227, Tryz.ntmps227
  go_wp2_with (first
    | ((with_reducible refine wpList_comp ?_ ?_ ?_ (R4.out _) ?_); rfl; rfl; rfl)
    | ((with_reducible refine wpList_comp ?_ ?_ ?_ (R1.out _) ?_); rfl; rfl; rfl)
    | ((with_reducible refine wpList_comp ?_ ?_ ?_ (R2.out _) ?_); rfl; rfl; rfl)
    | ((with_reducible refine wpList_comp ?_ ?_ ?_ (R3.out _) ?_); rfl; rfl; rfl))
  go_ret
  exact ⟨rfl, rfl⟩
end Go.Proofs.YtihggkmjalofiaaGreatDoor
