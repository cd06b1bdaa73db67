/- Names of patches: the chapter's example. -/
import Derived.Test.YtmfdggolnfoniaaDoorPidt
import Derived.Test.YtmfdggolnfoniaaDoorPidg
namespace Go.Proofs.YtmfdggolnfoniaaDoor
open Go.RowKit

theorem text317 : pidText 3 17 = [51, 46, 49, 55] := by
  unfold pidText
  have e1 : Lib.itoa ((3 : Nat) : Int) = [51] := by rw [Lib.itoa_nonneg, Lib.decDigits_one (by omega)]; rfl
  have e2 : Lib.itoa ((17 : Nat) : Int) = [49, 55] := by rw [Lib.itoa_nonneg, Lib.decDigits_two (by omega) (by omega)]; rfl
  rw [e1, e2]; rfl

set_option maxRecDepth 100000 in
set_option maxHeartbeats 1000000 in
theorem works10 (w : World) (ht : TabOk w) : Calls Tryd.prog 9 #[] w (RetB w (.bool true)) := by
  have HU : Hid (∀ w0, Calls Tryd.prog 34 #[.int .u32 196625] w0 (RetB w0 (.tuple #[.agg #[.int .u8 3, .int .u16 17], .bool true]))) := fun w0 => unpack_yes 196625 (by omega) w0
  have HT : Hid (∀ w0, TabOk w0 → Calls Tryd.prog 12 #[.agg #[.int .u8 3, .int .u16 17]] w0 (RetB w0 (.string ⟨#[51, 46, 49, 55]⟩))) := fun w0 h => by
    have := text_any 3 17 (by omega) (by omega) w0 h
    rw [text317] at this; exact this
  have HP : Hid (∀ w0, Calls Tryd.prog 35 #[.agg #[.int .u8 3, .int .u16 17]] w0 (RetB w0 (.int .u32 196625))) := fun w0 => pack_any 3 17 (by omega) (by omega) w0
  have HG : Hid (∀ w0, Calls Tryd.prog 36 #[.agg #[.int .u8 3, .int .u16 17]] w0 (RetB w0 (.bool true))) := fun w0 => pgood_any 3 17 w0 (by omega) (by omega)
  have T := Lib.hid ht
  clear ht
  go_enter Tryd.func9, Tryd.ntmps9
  go_wp2_with fail
  have K1 : Hid (Blk (w.alloc (.cells #[.int .u8 3, .int .u16 17] 24)) w.heap.size 24 #[.int .u8 3, .int .u16 17]) := Blk.new _ _ _
  have B0 : Hid (Below w.heap.size w (w.alloc (.cells #[.int .u8 3, .int .u16 17] 24))) := (Below.refl _ _).alloc (Nat.le_refl _) _
  generalize (w.alloc (.cells #[.int .u8 3, .int .u16 17] 24)) = w0 at *
  refine (HU.out _).mono ?_
  rintro e w1 ⟨rfl, b1⟩
  have K2 := Lib.hid (K1.out.ext b1)
  have B1 := Lib.hid (B0.out.trans (b1.mono B0.out.size))
  clear b1 K1 B0 HU
  have T1 := Lib.hid (tab_ext T.out B1.out)
  have HG1 : w.heap.size < w1.heap.size := K2.out.lt
  have r0 : ∀ o : Obj, (w1.alloc o).cell? ⟨w.heap.size, 0, none⟩ = some (.int .u8 3) := fun o => (K2.out.alloc o).cell 0
  have r1 : ∀ o : Obj, (w1.alloc o).cell? ⟨w.heap.size, 1, none⟩ = some (.int .u16 17) := fun o => (K2.out.alloc o).cell 1
  have p0 : w1.cell? ⟨w.heap.size, 0, none⟩ = some (.int .u8 3) := K2.out.cell 0
  have p1 : w1.cell? ⟨w.heap.size, 1, none⟩ = some (.int .u16 17) := K2.out.cell 1
  go_wp2_with fail
  have K3 : Hid (Blk (w1.alloc (.cells #[.int .u8 3, .int .u16 17] 24)) w.heap.size 24 #[.int .u8 3, .int .u16 17]) := K2.out.alloc _
  have K4 : Hid (Blk (w1.alloc (.cells #[.int .u8 3, .int .u16 17] 24)) w1.heap.size 24 #[.int .u8 3, .int .u16 17]) := Blk.new _ _ _
  have B2 : Hid (Below w.heap.size w (w1.alloc (.cells #[.int .u8 3, .int .u16 17] 24))) := B1.out.alloc B1.out.size _
  have T2 : Hid (TabOk (w1.alloc (.cells #[.int .u8 3, .int .u16 17] 24))) := tab_ext T.out B2.out
  clear p0 p1 r0 r1 HG1 K2 B1 T1
  generalize (w1.alloc (.cells #[.int .u8 3, .int .u16 17] 24)) = w2 at *
  generalize w1.heap.size = g at *
  refine (HT.out _ T2.out).mono ?_
  rintro e w3 ⟨rfl, b3⟩
  have B3 := Lib.hid (B2.out.trans (b3.mono B2.out.size))
  have K5 := Lib.hid (K3.out.ext b3)
  have K6 := Lib.hid (K4.out.ext b3)
  have p0 : w3.cell? ⟨w.heap.size, 0, none⟩ = some (.int .u8 3) := K5.out.cell 0
  have p1 : w3.cell? ⟨w.heap.size, 1, none⟩ = some (.int .u16 17) := K5.out.cell 1
  clear b3 B2 K3 K4 T2 HT
  go_wp2_with fail
  refine (HP.out _).mono ?_
  rintro e w4 ⟨rfl, b4⟩
  have B4 := Lib.hid (B3.out.trans (b4.mono B3.out.size))
  have K7 := Lib.hid (K5.out.ext b4)
  have K8 := Lib.hid (K6.out.ext b4)
  clear p0 p1 b4 B3 K5 K6 HP
  have p0 : w4.cell? ⟨w.heap.size, 0, none⟩ = some (.int .u8 3) := K7.out.cell 0
  have p1 : w4.cell? ⟨w.heap.size, 1, none⟩ = some (.int .u16 17) := K7.out.cell 1
  have q0 : w4.cell? ⟨g, 0, none⟩ = some (.int .u8 3) := K8.out.cell 0
  have q1 : w4.cell? ⟨g, 1, none⟩ = some (.int .u16 17) := K8.out.cell 1
  go_wp2_with fail
  refine (HG.out _).mono ?_
  rintro e w5 ⟨rfl, b5⟩
  have B5 := Lib.hid (B4.out.trans (b5.mono B4.out.size))
  clear p0 p1 q0 q1 K7 K8 b5 B4 HG
  go_wp2
  go_ret
  exact ⟨rfl, B5.out⟩
end Go.Proofs.YtmfdggolnfoniaaDoor
