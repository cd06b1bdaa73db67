/- Names of patches sorted by the library. -/
import Derived.Test.YtmfdggolnfoniaaSetg
import Derived.Test.YtmfdggolnfoniaaGen
import Derived.Test.YtmfdggolnfoniaaSorta
import Derived.Test.YtmfdggolnfoniaaSort
import Derived.Shelf.SlSortCmp.NoneTotal
namespace Go.Proofs.Ytmfdggolnfoniaa
open Go.RowKit Go.Sort

theorem gext_row {w0 : World} {g : Nat} {t : TypeId} {cs : Array Value} (h : Blk w0 g t cs) : ∀ w', (∃ z : GExt w0, w' = z.w) → w'.rangeAt g 0 cs.toList := by
  rintro _ ⟨z, rfl⟩
  intro j v hv
  rw [Nat.zero_add, (h.ext z.h.below).cell, ← Array.getElem?_toList]; exact hv
set_option maxRecDepth 100000 in
set_option maxHeartbeats 1000000 in
theorem packG (a s : Int) (ha : 0 ≤ a ∧ a < 256) (hs : 0 ≤ s ∧ s < 65536) (w : World) : Calls Try.prog 74 #[.agg #[.int .u8 a, .int .u16 s]] w (RetG w (.int .u32 (packV a s))) := by
  have B0 : Hid (Grew w (w.alloc (.cells #[.int .u8 a, .int .u16 s] 33))) := (Grew.refl _).alloc _
  have E := Lib.hid (bits_pack a s ha hs)
  obtain ⟨a0, a1⟩ := ha
  obtain ⟨s0, s1⟩ := hs
  go_enter Try.func74, Try.ntmps74
  go_wp2
  go_ret
  exact ⟨ret_int E.out, B0.out⟩

set_option maxRecDepth 100000 in
set_option maxHeartbeats 1000000 in
theorem cmpG (a s b t : Int) (ha : 0 ≤ a ∧ a < 256) (hs : 0 ≤ s ∧ s < 65536) (hb : 0 ≤ b ∧ b < 256) (ht : 0 ≤ t ∧ t < 65536) (w : World) :
    Calls Try.prog 59 #[.agg #[.int .u8 a, .int .u16 s], .agg #[.int .u8 b, .int .u16 t]] w (RetG w (.int .i64 (signV (packV a s) (packV b t)))) := by
  have HA := Lib.hid (fun w0 => packG a s ha hs w0)
  have HB := Lib.hid (fun w0 => packG b t hb ht w0)
  have B0 : Hid (Grew w ((w.alloc (.cells #[.int .u8 a, .int .u16 s] 33)).alloc (.cells #[.int .u8 b, .int .u16 t] 33))) := ((Grew.refl _).alloc _).alloc _
  have K1 : Hid (Blk ((w.alloc (.cells #[.int .u8 a, .int .u16 s] 33)).alloc (.cells #[.int .u8 b, .int .u16 t] 33)) w.heap.size 33 #[.int .u8 a, .int .u16 s]) := (Blk.new _ _ _).alloc _
  have K2 : Hid (Blk ((w.alloc (.cells #[.int .u8 a, .int .u16 s] 33)).alloc (.cells #[.int .u8 b, .int .u16 t] 33)) (w.heap.size + 1) 33 #[.int .u8 b, .int .u16 t]) := Blk.newAt (by simp) _ _
  clear ha hs hb ht
  generalize packV a s = x at *
  generalize packV b t = y at *
  go_enter Try.func59, Try.ntmps59
  go_wp2_with fail
  generalize ((w.alloc (.cells #[.int .u8 a, .int .u16 s] 33)).alloc (.cells #[.int .u8 b, .int .u16 t] 33)) = w0 at *
  refine wp_region_grew mixedS (by kernel_rfl) ?_
  repeat (first
    | (refine wpQuiet_load_mid (gext_row K1.out) underPid rfl infoPid rfl rfl ?_; simp only [List.set_cons_succ, List.set_cons_zero])
    | (refine wpQuiet_load_mid (gext_row K2.out) underPid rfl infoPid rfl rfl ?_; simp only [List.set_cons_succ, List.set_cons_zero])
    | go_big_quiet_step ((first | (go_at_call 74; with_reducible exact gext_call (HA.out _)) | (go_at_call 74; with_reducible exact gext_call (HB.out _)) | (go_at_call 73; with_reducible exact gext_call ((compare_any _ _ _).mono fun _ _ => RetG.of)))))
  refine wpQuiet_nil ?_
  rintro _ ⟨z, rfl⟩
  go_wp2
  go_ret
  exact ⟨rfl, B0.out.trans z.h⟩
end Go.Proofs.Ytmfdggolnfoniaa
