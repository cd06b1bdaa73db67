/- Names of vertices: told, and held against each other, by the document, and by number. -/
import Derived.Test.YtmfdggolnfoniaaDoorVida
import Derived.Test.YtmfdggolnfoniaaDoorPidt
namespace Go.Proofs.YtmfdggolnfoniaaDoor
open Go.RowKit

def vidText (a s n : Nat) : List UInt8 := pidText a s ++ 46 :: Lib.itoa (n : Int)
theorem blk_sub {w0 : World} {g o : Nat} {t : TypeId} {cs : Array Value} {ds : List Value} (h : Blk w0 g t cs) (hd : ∀ j v, ds[j]? = some v → cs[o + j]? = some v) : w0.rangeAt g o ds := fun j v hv => by
  rw [h.cell]; exact hd j v hv
theorem ext_sub {w0 : World} {g o : Nat} {t : TypeId} {cs : Array Value} {ds : List Value} (h : Blk w0 g t cs) (hd : ∀ j v, ds[j]? = some v → cs[o + j]? = some v) : ∀ w', (∃ z : Ext w0, w' = z.w) → w'.rangeAt g o ds := by
  rintro _ ⟨z, rfl⟩
  exact blk_sub (h.ext z.h) hd
theorem ext_row' {w0 : World} {g : Nat} {t : TypeId} {cs : Array Value} (h : Blk w0 g t cs) : ∀ w', (∃ z : Ext w0, w' = z.w) → w'.rangeAt g 0 cs.toList := by
  rintro _ ⟨z, rfl⟩
  intro j v hv
  rw [Nat.zero_add, (h.ext z.h).cell, ← Array.getElem?_toList]; exact hv
theorem RetB.ofG {w w' : World} {v : Value} {e : Ending} (h : RetG w v e w') : RetB w v e w' := ⟨h.1, h.2.below⟩
theorem mixedT : Tryd.prog.follows .mixedOrders = true := by kernel_rfl
theorem vcmpV (x y : VidV) (w : World) : Calls Tryd.prog 24 #[.agg (encV x).toArray, .agg (encV y).toArray] w (RetB w (.int .i64 (signV (keyV x) (keyV y)))) := (vcmpG x y w).mono fun _ _ => RetB.ofG
theorem pidText_le {a s : Nat} (ha : a < 256) (hs : s < 65536) : (pidText a s).length ≤ 50 := by
  unfold pidText
  have h1 := itoa_len a (by omega)
  have h2 := itoa_len s (by omega)
  simp only [List.length_append, List.length_cons]; omega
set_option maxRecDepth 100000 in
set_option maxHeartbeats 1000000 in
theorem vtext_any (a s n : Nat) (ha : a < 256) (hs : s < 65536) (hn : n < 256) (w : World) (ht : TabOk w) : Calls Tryd.prog 21 #[.agg #[.int .u8 a, .int .u16 s, .int .u8 n]] w (RetB w (.string ⟨(vidText a s n).toArray⟩)) := by
  have B0 : Hid (Below w.heap.size w (w.alloc (.cells #[.int .u8 a, .int .u16 s, .int .u8 n] 36))) := (Below.refl _ _).alloc (Nat.le_refl _) _
  have T := Lib.hid (tab_ext ht B0.out)
  have K1 : Hid (Blk (w.alloc (.cells #[.int .u8 a, .int .u16 s, .int .u8 n] 36)) w.heap.size 36 #[.int .u8 a, .int .u16 s, .int .u8 n]) := Blk.new _ _ _
  have la := pidText_le ha hs
  have ls := itoa_len n (by omega)
  have E := Lib.hid (str_dot (pidText a s) (Lib.itoa n))
  have a0 : (0 : Int) ≤ (a : Int) := by omega
  have a1 : (a : Int) < 256 := by omega
  have s0 : (0 : Int) ≤ (s : Int) := by omega
  have s1 : (s : Int) < 65536 := by omega
  have n0 : (0 : Int) ≤ (n : Int) := by omega
  have n1 : (n : Int) < 256 := by omega
  have HA := Lib.hid (fun w0 h => text_any a s ha hs w0 h)
  have HS := Lib.hid (fun w0 h => itoa_any n (by omega) w0 h)
  unfold vidText
  generalize pidText a s = l at *
  generalize Lib.itoa n = m at *
  clear ht
  go_enter Tryd.func21, Tryd.ntmps21
  go_wp2_with fail
  generalize (w.alloc (.cells #[.int .u8 a, .int .u16 s, .int .u8 n] 36)) = w0 at *
  have q0 : ∀ z : Ext w0, z.w.cell? ⟨w.heap.size, 0, none⟩ = some (.int .u8 a) := fun z => (K1.out.ext z.h).cell 0
  have q1 : ∀ z : Ext w0, z.w.cell? ⟨w.heap.size, 1, none⟩ = some (.int .u16 s) := fun z => (K1.out.ext z.h).cell 1
  have q2 : ∀ z : Ext w0, z.w.cell? ⟨w.heap.size, 2, none⟩ = some (.int .u8 n) := fun z => (K1.out.ext z.h).cell 2
  refine wp_region_ext mixedT (by kernel_rfl) ?_
  repeat (first
    | go_big_quiet_step ((first | (go_at_call 12; with_reducible exact ext_call (HA.out _ (tab_ext T.out (Ext.h _)))) | (go_at_call 41; with_reducible exact ext_call (HS.out _ (tab_ext T.out (Ext.h _)))))))
  refine wpQuiet_nil ?_
  rintro _ ⟨z, rfl⟩
  go_wp2
  go_ret
  exact ⟨by rw [← E.out]; rfl, B0.out.trans (z.h.mono B0.out.size)⟩
set_option maxRecDepth 100000 in
set_option maxHeartbeats 1000000 in
theorem rvtext_any (a s n : Nat) (ha : a < 256) (hs : s < 65536) (hn : n < 256) (w : World) : Calls Tryd.prog 30 #[.agg #[.int .u8 a, .int .u16 s, .int .u8 n]] w (RetB w (.string ⟨(vidText a s n).toArray⟩)) := by
  have B0 : Hid (Below w.heap.size w (w.alloc (.cells #[.int .u8 a, .int .u16 s, .int .u8 n] 36))) := (Below.refl _ _).alloc (Nat.le_refl _) _
  have K1 : Hid (Blk (w.alloc (.cells #[.int .u8 a, .int .u16 s, .int .u8 n] 36)) w.heap.size 36 #[.int .u8 a, .int .u16 s, .int .u8 n]) := Blk.new _ _ _
  have la := pidText_le ha hs
  have ls := itoa_len n (by omega)
  have E := Lib.hid (str_dot (pidText a s) (Lib.itoa n))
  have a0 : (0 : Int) ≤ (a : Int) := by omega
  have a1 : (a : Int) < 256 := by omega
  have s0 : (0 : Int) ≤ (s : Int) := by omega
  have s1 : (s : Int) < 65536 := by omega
  have n0 : (0 : Int) ≤ (n : Int) := by omega
  have n1 : (n : Int) < 256 := by omega
  have HA := Lib.hid (fun w0 => rtext_any a s ha hs w0)
  have HS := Lib.hid (fun w0 => digits_any n (by omega) w0)
  unfold vidText
  generalize pidText a s = l at *
  generalize Lib.itoa n = m at *
  go_enter Tryd.func30, Tryd.ntmps30
  go_wp2_with fail
  generalize (w.alloc (.cells #[.int .u8 a, .int .u16 s, .int .u8 n] 36)) = w0 at *
  have q0 : ∀ z : Ext w0, z.w.cell? ⟨w.heap.size, 0, none⟩ = some (.int .u8 a) := fun z => (K1.out.ext z.h).cell 0
  have q1 : ∀ z : Ext w0, z.w.cell? ⟨w.heap.size, 1, none⟩ = some (.int .u16 s) := fun z => (K1.out.ext z.h).cell 1
  have q2 : ∀ z : Ext w0, z.w.cell? ⟨w.heap.size, 2, none⟩ = some (.int .u8 n) := fun z => (K1.out.ext z.h).cell 2
  refine wp_region_ext mixedT (by kernel_rfl) ?_
  repeat (first
    | go_big_quiet_step ((first | (go_at_call 54; with_reducible exact ext_call (HA.out _)) | (go_at_call 55; with_reducible exact ext_call (HS.out _)))))
  refine wpQuiet_nil ?_
  rintro _ ⟨z, rfl⟩
  go_wp2
  go_ret
  exact ⟨by rw [← E.out]; rfl, B0.out.trans (z.h.mono B0.out.size)⟩
/-- the document's order -/
theorem keyV_ne {x y : VidV} (h : x.1 ≠ y.1) : signV (keyV x) (keyV y) = signV (keyP x.1) (keyP y.1) := by
  have h0 : keyP x.1 ≠ keyP y.1 := fun e => h (keyP_inj _ _ e)
  have h1 := x.2.isLt
  have h2 := y.2.isLt
  unfold keyV signV
  split <;> (try split) <;> (try split) <;> (try split) <;> omega
theorem keyV_same {x y : VidV} (h : x.1 = y.1) : signV (keyV x) (keyV y) = signV ((x.2.val : Nat) : Int) ((y.2.val : Nat) : Int) := by
  unfold keyV signV
  rw [h]
  split <;> (try split) <;> (try split) <;> (try split) <;> omega
set_option maxRecDepth 100000 in
set_option maxHeartbeats 1000000 in
theorem rcmpV (x y : VidV) (w : World) : Calls Tryd.prog 27 #[.agg (encV x).toArray, .agg (encV y).toArray] w (RetB w (.int .i64 (signV (keyV x) (keyV y)))) := by
  have B0 : Hid (Below w.heap.size w ((w.alloc (.cells (encV x).toArray 36)).alloc (.cells (encV y).toArray 36))) := two_box _ _ _
  have K1 : Hid (Blk ((w.alloc (.cells (encV x).toArray 36)).alloc (.cells (encV y).toArray 36)) w.heap.size 36 (encV x).toArray) := (Blk.new _ _ _).alloc _
  have K2 : Hid (Blk ((w.alloc (.cells (encV x).toArray 36)).alloc (.cells (encV y).toArray 36)) (w.heap.size + 1) 36 (encV y).toArray) := Blk.newAt (by simp) _ _
  have R1 := Lib.hid (blk_sub K1.out (encV_pid x))
  have R2 := Lib.hid (blk_sub K2.out (encV_pid y))
  have p2 : ((w.alloc (.cells (encV x).toArray 36)).alloc (.cells (encV y).toArray 36)).cell? ⟨w.heap.size, 2, none⟩ = some (.int .u8 ((x.2.val : Nat) : Int)) := K1.out.cell 2
  have p3 : ((w.alloc (.cells (encV x).toArray 36)).alloc (.cells (encV y).toArray 36)).cell? ⟨w.heap.size + 1, 2, none⟩ = some (.int .u8 ((y.2.val : Nat) : Int)) := K2.out.cell 2
  have HC := Lib.hid (fun w0 => rcmpP x.1 y.1 w0)
  have NE := fun u => neqP x.1 y.1 u
  by_cases e : x.1 = y.1
  · rw [keyV_same e]
    have NE' : ∀ u : World, (binOp .neq 24 (.agg (encP x.1).toArray) (.agg (encP y.1).toArray)).run Tryd.prog u = .ok (.bool false) u := fun u => by rw [NE, decide_eq_true e]; rfl
    clear NE e HC
    generalize hx : ((x.2.val : Nat) : Int) = m at *
    generalize hy : ((y.2.val : Nat) : Int) = n at *
    clear hx hy
    rcases Int.lt_trichotomy m n with h | h | h
    · have S := Lib.hid (signV_lt h)
      have d1 : decide (m < n) = true := decide_eq_true h
      go_enter Tryd.func27, Tryd.ntmps27
      go_wp2_with (first | (refine wpList_load_mid rfl 24 _ rfl _ _ (by rfl) _ _ R1.out underPid rfl infoPid ?_) | (refine wpList_load_mid rfl 24 _ rfl _ _ (by rfl) _ _ R2.out underPid rfl infoPid ?_))
      go_ret
      exact ⟨ret_int S.out.symm, B0.out⟩
    · have S := Lib.hid (signV_eq h)
      have d1 : decide (m < n) = false := decide_eq_false (by omega)
      have d2 : decide (n < m) = false := decide_eq_false (by omega)
      clear h
      go_enter Tryd.func27, Tryd.ntmps27
      go_wp2_with (first | (refine wpList_load_mid rfl 24 _ rfl _ _ (by rfl) _ _ R1.out underPid rfl infoPid ?_) | (refine wpList_load_mid rfl 24 _ rfl _ _ (by rfl) _ _ R2.out underPid rfl infoPid ?_))
      go_ret
      exact ⟨ret_int S.out.symm, B0.out⟩
    · have S := Lib.hid (signV_gt h)
      have d1 : decide (m < n) = false := decide_eq_false (by omega)
      have d2 : decide (n < m) = true := decide_eq_true h
      go_enter Tryd.func27, Tryd.ntmps27
      go_wp2_with (first | (refine wpList_load_mid rfl 24 _ rfl _ _ (by rfl) _ _ R1.out underPid rfl infoPid ?_) | (refine wpList_load_mid rfl 24 _ rfl _ _ (by rfl) _ _ R2.out underPid rfl infoPid ?_))
      go_ret
      exact ⟨ret_int S.out.symm, B0.out⟩
  · rw [keyV_ne e]
    have NE' : ∀ u : World, (binOp .neq 24 (.agg (encP x.1).toArray) (.agg (encP y.1).toArray)).run Tryd.prog u = .ok (.bool true) u := fun u => by rw [NE, decide_eq_false e]; rfl
    clear NE e
    generalize signV (keyP x.1) (keyP y.1) = sg at *
    go_enter Tryd.func27, Tryd.ntmps27
    go_wp2_with (first | (refine wpList_load_mid rfl 24 _ rfl _ _ (by rfl) _ _ R1.out underPid rfl infoPid ?_) | (refine wpList_load_mid rfl 24 _ rfl _ _ (by rfl) _ _ R2.out underPid rfl infoPid ?_))
    refine (HC.out _).mono ?_
    rintro e w1 ⟨rfl, b1⟩
    have B1 := Lib.hid (B0.out.trans (b1.mono B0.out.size))
    clear b1
    go_wp2
    go_ret
    exact ⟨rfl, B1.out⟩
end Go.Proofs.YtmfdggolnfoniaaDoor
