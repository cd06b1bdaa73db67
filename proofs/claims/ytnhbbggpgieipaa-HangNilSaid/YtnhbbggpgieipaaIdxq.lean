/- Of a nil index there is nothing: walked. -/
import Derived.Test.YtnhbbggpgieipaaIdxj
namespace Go.Proofs.Ytnhbbggpgieipaa
open Go.RowKit

set_option maxRecDepth 100000 in
set_option maxHeartbeats 1000000 in
theorem len31_nil (w : World) : Calls Try.prog 21 #[.pointer none] w (RetB w (.int .i64 0)) := by
  go_enter Try.func21, Try.ntmps21
  go_wp2
  go_ret
  exact ⟨rfl, Below.refl _ _⟩
set_option maxRecDepth 100000 in
set_option maxHeartbeats 1000000 in
theorem vec31_nil (w : World) : Calls Try.prog 18 #[.pointer none] w (RetB w (.agg (vecA vec0))) := by
  have B0 : Hid (Below w.heap.size w (w.alloc (.cells (vecA vec0) 25))) := below_new _ _
  have K1 : Hid (Blk (w.alloc (.cells (vecA vec0) 25)) w.heap.size 25 (vecA vec0)) := Blk.new _ _ _
  have hs2 : Hid ((vecA vec0).size = 64) := by rw [Hid, vecA_size]; simp [vec0]
  have h1 := Lib.hid (vecA_one vec0)
  go_enter Try.func18, Try.ntmps18
  go_wp2_with (first
    | (refine wpList_alloced (alloc64 _) ?_)
    | (refine wpList_built (buildVec0 _) (by rfl) ?_)
    | (refine wpList_store_row rfl 25 _ _ (by rfl) w.heap.size (vecA vec0) (by rfl) (by rfl) _ _ K1.out (by rw [hs2.out]; exact info64) rfl h1.out ?_))
  refine bodyPost_ret (results_cell_row rfl _ _ w.heap.size _ (vecA vec0) _ _ rfl (K1.out.row _) under64 rfl (by rw [hs2.out]; exact info64)) rfl ?_
  exact ⟨rfl, below_setRow B0.out (Nat.le_refl _) _⟩
set_option maxRecDepth 100000 in
set_option maxHeartbeats 1000000 in
theorem put31_nil (cs : Array Value) (w : World) : Calls Try.prog 20 #[.pointer none, .agg cs] w (RetB w (.int .i64 1)) := by
  have B0 : Hid (Below w.heap.size w (w.alloc (.cells cs 45))) := below_new _ _
  go_enter Try.func20, Try.ntmps20
  go_wp2
  go_ret
  exact ⟨rfl, B0.out⟩
set_option maxRecDepth 100000 in
set_option maxHeartbeats 1000000 in
theorem get31_nil (d : PidV) (w : World) : Calls Try.prog 24 #[.pointer none, .agg (encP d).toArray] w (RetB w (.tuple #[.agg #[.int .u8 0, .int .u16 0, .slice none 0 0, .slice none 0 0], .bool false])) := by
  have K2 : Hid (Blk ((w.alloc (.cells (encP d).toArray 41)).alloc (.cells #[.int .u8 0, .int .u16 0, .slice none 0 0, .slice none 0 0] 45)) (w.heap.size + 1) 45 #[.int .u8 0, .int .u16 0, .slice none 0 0, .slice none 0 0]) := Blk.newAt (by simp) _ _
  have B0 : Hid (Below w.heap.size w ((w.alloc (.cells (encP d).toArray 41)).alloc (.cells #[.int .u8 0, .int .u16 0, .slice none 0 0, .slice none 0 0] 45))) := ((Below.refl _ _).alloc (Nat.le_refl _) _).alloc (by simp) _
  go_enter Try.func24, Try.ntmps24
  go_upto_region 1 with fail
  generalize ((w.alloc (.cells (encP d).toArray 41)).alloc (.cells #[.int .u8 0, .int .u16 0, .slice none 0 0, .slice none 0 0] 45)) = w2 at *
  go_wp2_with (first
    | (refine wpList_built (buildPatZ _) (by rfl) ?_)
    | (refine wpList_store_row rfl 45 _ _ (by rfl) (w.heap.size + 1) #[.int .u8 0, .int .u16 0, .slice none 0 0, .slice none 0 0] (by rfl) (by rfl) _ _ K2.out infoPat rfl zeroC_one ?_))
  refine bodyPost_ret (results_row_tmp rfl _ _ (w.heap.size + 1) _ #[.int .u8 0, .int .u16 0, .slice none 0 0, .slice none 0 0] _ rfl (K2.out.row _) underPat rfl infoPat) rfl ?_
  exact ⟨rfl, below_setRow B0.out (Nat.le_succ _) _⟩
set_option maxRecDepth 100000 in
set_option maxHeartbeats 1000000 in
theorem lack31_nil (v : List Int) (w : World) : Calls Try.prog 15 #[.pointer none, .agg (vecA v)] w (RetB w (.slice none 0 0)) := by
  have B0 : Hid (Below w.heap.size w (w.alloc (.cells (vecA v) 25))) := below_new _ _
  go_enter Try.func15, Try.ntmps15
  go_upto_region 2 with fail
  generalize (w.alloc (.cells (vecA v) 25)) = w2 at *
  go_wp2_with fail
  refine (len31_nil w2).mono ?_
  rintro e w3 ⟨rfl, b3⟩
  have B3 := Lib.hid (B0.out.trans (b3.mono B0.out.size))
  clear b3
  go_wp2_with fail
  go_loop [9, 5] (fun i s => i = .int .i64 0 ∧ s = .slice none 0 0) (fun _ _ => 0)
  case atStart => exact ⟨rfl, rfl⟩
  case round =>
    obtain ⟨rfl, rfl⟩ := hrel
    go_wp2
    go_ret
    exact ⟨rfl, B3.out⟩
set_option maxRecDepth 100000 in
set_option maxHeartbeats 1000000 in
theorem all31_nil (w : World) : Calls Try.prog 17 #[.pointer none] w (RetB w (.slice none 0 0)) := by
  go_enter Try.func17, Try.ntmps17
  go_wp2_with (refine wpList_built (buildVec0 _) (by rfl) ?_)
  refine (lack31_nil vec0 _).mono ?_
  rintro e w3 ⟨rfl, b3⟩
  have B3 := Lib.hid b3
  clear b3
  go_wp2
  go_ret
  exact ⟨rfl, B3.out⟩
end Go.Proofs.Ytnhbbggpgieipaa
