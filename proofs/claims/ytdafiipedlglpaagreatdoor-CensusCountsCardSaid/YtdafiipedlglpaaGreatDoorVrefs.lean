/- Vectors: the document's number of an author, the patch that comes next, whether a patch is had, one patch more. -/
import Derived.Test.YtdafiipedlglpaaGreatDoorVecs
import Derived.Test.YtdafiipedlglpaaGreatDoorIdxw
import Derived.Deep.DeepCutAuto
namespace Go.Proofs.YtdafiipedlglpaaGreatDoor
open Go.RowKit

set_option maxRecDepth 100000 in
set_option maxHeartbeats 1000000 in
theorem rof_any (a : List Int) (ha : VecOk a) (n : Nat) (w : World) : Calls Tryz.prog 242 #[.agg (vecA a), .int .u8 n] w (RetB w (.int .i64 (ofV a n))) := by
  have K1 : Hid (Blk (w.alloc (.cells (vecA a) 24)) w.heap.size 24 (vecA a)) := Blk.new _ _ _
  have B0 : Hid (Below w.heap.size w (w.alloc (.cells (vecA a) 24))) := (Below.refl _ _).alloc (Nat.le_refl _) _
  by_cases h1 : 1 ≤ n
  · by_cases h2 : n ≤ 64
    · have hi : inV n = true := decide_eq_true ⟨h1, h2⟩
      have F : Hid (ofV a n = a.getD (n - 1) 0) := if_pos hi
      have c1 := K1.out.cell (n - 1)
      rw [vecA_get _ _ (by rw [ha.len]; omega)] at c1
      have X := ha.get (n - 1) (by omega)
      obtain ⟨m, rfl⟩ : ∃ m, n = m + 1 := ⟨n - 1, by omega⟩
      rw [Nat.add_sub_cancel] at c1 F X
      obtain ⟨x0, x1⟩ := X
      have hb0 : ((m : Nat) : Int) < 64 := by omega
      have hb1 : (0 : Int) ≤ (m : Int) := by omega
      clear ha h1 h2 hi
      generalize a.getD m 0 = x at *
      go_enter Tryz.func242, Tryz.ntmps242
      go_wp2
      go_ret
      exact ⟨ret_int F.out.symm, B0.out⟩
    · have hi : inV n = false := decide_eq_false (by omega)
      have F : Hid (ofV a n = 0) := by unfold ofV; rw [hi]; rfl
      have hd : (64 : Int) < (n : Int) := by omega
      clear ha hi
      go_enter Tryz.func242, Tryz.ntmps242
      go_wp2
      go_ret
      exact ⟨ret_int F.out.symm, B0.out⟩
  · have hi : inV n = false := decide_eq_false (by omega)
    have F : Hid (ofV a n = 0) := by unfold ofV; rw [hi]; rfl
    have hd : (n : Int) < 1 := by omega
    clear ha hi h1
    go_enter Tryz.func242, Tryz.ntmps242
    go_wp2
    go_ret
    exact ⟨ret_int F.out.symm, B0.out⟩

set_option maxRecDepth 100000 in
set_option maxHeartbeats 1000000 in
theorem rnext_any (a : List Int) (ha : VecOk a) (n : Nat) (w : World) : Calls Tryz.prog 214 #[.agg (vecA a), .int .u8 n] w (RetB w (.agg #[.int .u8 (nextV a n).1, .int .u16 (nextV a n).2])) := by
  have HN := Lib.hid (fun w0 => rof_any a ha n w0)
  have hs1 : Hid ((vecA a).size = 64) := by rw [Hid, vecA_size]; exact ha.len
  obtain ⟨x0, x1⟩ := ofV_bd ha n
  have F : Hid (nextV a n = if inV n = true ∧ ofV a n < 60000 then ((n : Int), ofV a n + 1) else (0, 0)) := rfl
  clear ha
  generalize ofV a n = x at *
  have K1 : Hid (Blk ((w.alloc (.cells (vecA a) 24)).alloc (.cells #[.int .u8 0, .int .u16 0] 60)) w.heap.size 24 (vecA a)) := (Blk.new _ _ _).alloc _
  have B0 : Hid (Below w.heap.size w ((w.alloc (.cells (vecA a) 24)).alloc (.cells #[.int .u8 0, .int .u16 0] 60))) := ((Below.refl _ _).alloc (Nat.le_refl _) _).alloc (by simp) _
  have K2 : Hid (Blk ((w.alloc (.cells (vecA a) 24)).alloc (.cells #[.int .u8 0, .int .u16 0] 60)) (w.heap.size + 1) 60 #[.int .u8 0, .int .u16 0]) := Blk.newAt (by simp) _ _
  go_enter Tryz.func214, Tryz.ntmps214
  go_upto_region 1 with fail
  generalize ((w.alloc (.cells (vecA a) 24)).alloc (.cells #[.int .u8 0, .int .u16 0] 60)) = w0 at *
  by_cases hn1 : (n : Int) < 1
  · have G : Hid (nextV a n = (0, 0)) := by rw [Hid, F.out, if_neg (by unfold inV; simp; omega)]
    have p0 : w0.cell? ⟨w.heap.size + 1, 0, none⟩ = some (.int .u8 0) := K2.out.cell 0
    have p1 : w0.cell? ⟨w.heap.size + 1, 1, none⟩ = some (.int .u16 0) := K2.out.cell 1
    have f0 := K2.out.fr 0
    have f1 := K2.out.fr 1
    go_wp2
    refine bodyPost_ret (results_cell_row rfl _ _ (w.heap.size + 1) _ #[.int .u8 0, .int .u16 0] _ _ rfl ((K2.out.set_ 0 (.int .u8 0)).set_ 1 (.int .u16 0)) Tryz.underlying60 rfl (by kernel_rfl)) rfl ?_
    rw [G.out]
    exact ⟨rfl, (B0.out.setCell (p := ⟨w.heap.size + 1, 0, none⟩) (by simp) _).setCell (p := ⟨w.heap.size + 1, 1, none⟩) (by simp) _⟩
  · by_cases hn2 : (64 : Int) < (n : Int)
    · have G : Hid (nextV a n = (0, 0)) := by rw [Hid, F.out, if_neg (by unfold inV; simp; omega)]
      have p0 : w0.cell? ⟨w.heap.size + 1, 0, none⟩ = some (.int .u8 0) := K2.out.cell 0
      have p1 : w0.cell? ⟨w.heap.size + 1, 1, none⟩ = some (.int .u16 0) := K2.out.cell 1
      have f0 := K2.out.fr 0
      have f1 := K2.out.fr 1
      go_wp2
      refine bodyPost_ret (results_cell_row rfl _ _ (w.heap.size + 1) _ #[.int .u8 0, .int .u16 0] _ _ rfl ((K2.out.set_ 0 (.int .u8 0)).set_ 1 (.int .u16 0)) Tryz.underlying60 rfl (by kernel_rfl)) rfl ?_
      rw [G.out]
      exact ⟨rfl, (B0.out.setCell (p := ⟨w.heap.size + 1, 0, none⟩) (by simp) _).setCell (p := ⟨w.heap.size + 1, 1, none⟩) (by simp) _⟩
    · have hin : inV n = true := by unfold inV; simp; omega
      go_wp2_with (refine wpList_load_rowG (by rfl) 24 _ (by rfl) w.heap.size (by rfl) _ _ _ _ K1.out under64 rfl (by rw [hs1.out]; exact info64) ?_)
      refine (HN.out _).mono ?_
      rintro e w1 ⟨rfl, b1⟩
      have K3 := Lib.hid (K2.out.ext b1)
      have K4 := Lib.hid (K1.out.ext b1)
      have B1 := Lib.hid (B0.out.trans (b1.mono B0.out.size))
      have p0 : w1.cell? ⟨w.heap.size + 1, 0, none⟩ = some (.int .u8 0) := K3.out.cell 0
      have p1 : w1.cell? ⟨w.heap.size + 1, 1, none⟩ = some (.int .u16 0) := K3.out.cell 1
      have f0 := K3.out.fr 0
      have f1 := K3.out.fr 1
      clear b1
      by_cases hx : x < 60000
      · have G : Hid (nextV a n = ((n : Int), x + 1)) := by rw [Hid, F.out, if_pos ⟨hin, hx⟩]
        have hd : ¬ ((60000 : Int) ≤ x) := by omega
        have hd' : decide ((60000 : Int) ≤ x) = false := decide_eq_false hd
        go_wp2_with (refine wpList_load_row rfl 24 _ (by rfl) w.heap.size (by rfl) _ _ _ _ K4.out under64 rfl (by rw [hs1.out]; exact info64) ?_)
        refine (HN.out _).mono ?_
        rintro e w2 ⟨rfl, b2⟩
        have K5 := Lib.hid (K3.out.ext b2)
        have B2 := Lib.hid (B1.out.trans (b2.mono B1.out.size))
        have p0 : w2.cell? ⟨w.heap.size + 1, 0, none⟩ = some (.int .u8 0) := K5.out.cell 0
        have p1 : w2.cell? ⟨w.heap.size + 1, 1, none⟩ = some (.int .u16 0) := K5.out.cell 1
        have f0 := K5.out.fr 0
        have f1 := K5.out.fr 1
        clear b2 HN
        go_wp2
        refine bodyPost_ret (results_cell_row rfl _ _ (w.heap.size + 1) _ #[.int .u8 n, .int .u16 (x + 1)] _ _ rfl ((K5.out.set_ 0 (.int .u8 n)).set_ 1 (.int .u16 (x + 1))) Tryz.underlying60 rfl (by kernel_rfl)) rfl ?_
        rw [G.out]
        exact ⟨rfl, (B2.out.setCell (p := ⟨w.heap.size + 1, 0, none⟩) (by simp) _).setCell (p := ⟨w.heap.size + 1, 1, none⟩) (by simp) _⟩
      · have G : Hid (nextV a n = (0, 0)) := by rw [Hid, F.out, if_neg (by omega)]
        have hd : decide ((60000 : Int) ≤ x) = true := decide_eq_true (by omega)
        clear HN
        go_wp2
        refine bodyPost_ret (results_cell_row rfl _ _ (w.heap.size + 1) _ #[.int .u8 0, .int .u16 0] _ _ rfl ((K3.out.set_ 0 (.int .u8 0)).set_ 1 (.int .u16 0)) Tryz.underlying60 rfl (by kernel_rfl)) rfl ?_
        rw [G.out]
        exact ⟨rfl, (B1.out.setCell (p := ⟨w.heap.size + 1, 0, none⟩) (by simp) _).setCell (p := ⟨w.heap.size + 1, 1, none⟩) (by simp) _⟩
end Go.Proofs.YtdafiipedlglpaaGreatDoor
