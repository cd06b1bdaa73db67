/- Names of vertices: packed, and held against each other. -/
import Derived.Test.YtmfdggolnfoniaaDoorSeth
namespace Go.Proofs.YtmfdggolnfoniaaDoor
open Go.RowKit Go.Sort

abbrev VidV := PidV × Fin 256
def encV (v : VidV) : List Value := [.int .u8 ((v.1.1.val : Nat) : Int), .int .u16 ((v.1.2.val : Nat) : Int), .int .u8 ((v.2.val : Nat) : Int)]
def keyV (v : VidV) : Int := keyP v.1 * 256 + ((v.2.val : Nat) : Int)
theorem keyP_bd (p : PidV) : 0 ≤ keyP p ∧ keyP p < 16777216 := by
  unfold keyP packV
  have h1 := p.1.isLt
  have h2 := p.2.isLt
  omega
theorem keyV_inj (x y : VidV) (h : keyV x = keyV y) : x = y := by
  unfold keyV at h
  have h1 := x.2.isLt
  have h2 := y.2.isLt
  exact Prod.ext (keyP_inj _ _ (by omega)) (Fin.ext (by omega))
theorem encV_len (p : VidV) : (encV p).length = 3 := rfl
theorem encV_one (p : VidV) : ∀ u ∈ encV p, u.oneCell' = true := by
  intro u hu
  simp only [encV, List.mem_cons, List.not_mem_nil, or_false] at hu
  rcases hu with rfl | rfl | rfl <;> rfl
theorem underVid : Tryd.prog.underlying 36 = some (.struct (Tryd.prog.fieldsOf 36)) := by kernel_rfl
theorem infoVid : (Tryd.prog.info? 36).map (·.size) = some 3 := by kernel_rfl
theorem vidSl : SlT Tryd.prog 48 36 3 6 := slT_of (z := .agg #[.int .u8 0, .int .u16 0, .int .u8 0]) Tryd.underlying48 (by kernel_rfl) rfl (by omega)
theorem bits_vpack (p n : Int) (hp : 0 ≤ p ∧ p < 16777216) (hn : 0 ≤ n ∧ n < 256) : bits .or .u32 (p * 256) n = p * 256 + n := by
  obtain ⟨p, rfl⟩ := Int.eq_ofNat_of_zero_le hp.1
  obtain ⟨n, rfl⟩ := Int.eq_ofNat_of_zero_le hn.1
  have h1 : p < 16777216 := by omega
  have h2 : n < 256 := by omega
  have e : (BitVec.ofInt 32 ((p : Int) * 256) ||| BitVec.ofInt 32 (n : Int)).toNat = p * 256 + n := by
    rw [BitVec.toNat_or, BitVec.toNat_ofInt, BitVec.toNat_ofInt]
    have e1 : ((p : Int) * 256 % ((2 ^ 32 : Nat) : Int)).toNat = p <<< 8 := by rw [Nat.shiftLeft_eq]; omega
    have e2 : ((n : Int) % ((2 ^ 32 : Nat) : Int)).toNat = n := by omega
    rw [e1, e2, ← Nat.shiftLeft_add_eq_or_of_lt (by omega : n < 2 ^ 8), Nat.shiftLeft_eq]
  show IntKind.u32.wrap (((BitVec.ofInt 32 ((p : Int) * 256) ||| BitVec.ofInt 32 (n : Int)).toNat : Nat) : Int) = _
  rw [e, IntWalk.u32_in _ (by omega)]
  omega
theorem gext_sub {w0 : World} {g o : Nat} {t : TypeId} {cs : Array Value} {ds : List Value} (h : Blk w0 g t cs) (hd : ∀ j v, ds[j]? = some v → cs[o + j]? = some v) : ∀ w', (∃ z : GExt w0, w' = z.w) → w'.rangeAt g o ds := by
  rintro _ ⟨z, rfl⟩
  intro j v hv
  rw [(h.ext z.h.below).cell]; exact hd j v hv
theorem encV_pid (x : VidV) : ∀ (j : Nat) (v : Value), (encP x.1)[j]? = some v → (encV x).toArray[0 + j]? = some v
  | 0, _, h => h
  | 1, _, h => h
  | j + 2, _, h => by simp [encP] at h
theorem packGP (p : PidV) (w : World) : Calls Tryd.prog 35 #[.agg (encP p).toArray] w (RetG w (.int .u32 (keyP p))) :=
  packG _ _ ⟨by omega, by have := p.1.isLt; omega⟩ ⟨by omega, by have := p.2.isLt; omega⟩ w
set_option maxRecDepth 100000 in
set_option maxHeartbeats 1000000 in
theorem vpackG (x : VidV) (w : World) : Calls Tryd.prog 23 #[.agg (encV x).toArray] w (RetG w (.int .u32 (keyV x))) := by
  have HA := Lib.hid (fun w0 => packGP x.1 w0)
  have B0 : Hid (Grew w (w.alloc (.cells (encV x).toArray 36))) := (Grew.refl _).alloc _
  have K1 : Hid (Blk (w.alloc (.cells (encV x).toArray 36)) w.heap.size 36 (encV x).toArray) := Blk.new _ _ _
  have F : Hid (bits .or .u32 (keyP x.1 * 256) ((x.2.val : Nat) : Int) = keyV x) := bits_vpack _ _ (keyP_bd _) ⟨by omega, by have := x.2.isLt; omega⟩
  obtain ⟨k0, k1⟩ := keyP_bd x.1
  have n1 : ((x.2.val : Nat) : Int) < 256 := by have := x.2.isLt; omega
  go_enter Tryd.func23, Tryd.ntmps23
  go_wp2_with fail
  have q2 : ∀ z : GExt (w.alloc (.cells (encV x).toArray 36)), z.w.cell? ⟨w.heap.size, 2, none⟩ = some (.int .u8 ((x.2.val : Nat) : Int)) := fun z => (K1.out.ext z.h.below).cell 2
  generalize (w.alloc (.cells (encV x).toArray 36)) = w0 at *
  generalize keyP x.1 = k at *
  refine wp_region_grew mixedS (by kernel_rfl) ?_
  repeat (first
    | (refine wpQuiet_load_mid (gext_sub K1.out (encV_pid x)) underPid rfl infoPid rfl rfl ?_; simp only [List.set_cons_succ, List.set_cons_zero])
    | go_big_quiet_step ((go_at_call 35; with_reducible exact gext_call (HA.out _))))
  refine wpQuiet_nil ?_
  rintro _ ⟨z, rfl⟩
  go_wp2
  go_ret
  refine ⟨ret_int ?_, B0.out.trans z.h⟩
  exact F.out
set_option maxRecDepth 100000 in
set_option maxHeartbeats 1000000 in
theorem vcmpG (x y : VidV) (w : World) : Calls Tryd.prog 24 #[.agg (encV x).toArray, .agg (encV y).toArray] w (RetG w (.int .i64 (signV (keyV x) (keyV y)))) := by
  have HA := Lib.hid (fun w0 => vpackG x w0)
  have HB := Lib.hid (fun w0 => vpackG y w0)
  have B0 : Hid (Grew w ((w.alloc (.cells (encV x).toArray 36)).alloc (.cells (encV y).toArray 36))) := ((Grew.refl _).alloc _).alloc _
  have K1 : Hid (Blk ((w.alloc (.cells (encV x).toArray 36)).alloc (.cells (encV y).toArray 36)) w.heap.size 36 (encV x).toArray) := (Blk.new _ _ _).alloc _
  have K2 : Hid (Blk ((w.alloc (.cells (encV x).toArray 36)).alloc (.cells (encV y).toArray 36)) (w.heap.size + 1) 36 (encV y).toArray) := Blk.newAt (by simp) _ _
  go_enter Tryd.func24, Tryd.ntmps24
  go_wp2_with fail
  generalize keyV x = kx at *
  generalize keyV y = ky at *
  generalize ((w.alloc (.cells (encV x).toArray 36)).alloc (.cells (encV y).toArray 36)) = w0 at *
  refine wp_region_grew mixedS (by kernel_rfl) ?_
  repeat (first
    | (refine wpQuiet_load_mid (gext_row K1.out) underVid rfl infoVid rfl rfl ?_; simp only [List.set_cons_succ, List.set_cons_zero])
    | (refine wpQuiet_load_mid (gext_row K2.out) underVid rfl infoVid rfl rfl ?_; simp only [List.set_cons_succ, List.set_cons_zero])
    | go_big_quiet_step ((first | (go_at_call 23; with_reducible exact gext_call (HA.out _)) | (go_at_call 23; with_reducible exact gext_call (HB.out _)) | (go_at_call 48; with_reducible exact gext_call ((compare_any _ _ _).mono fun _ _ => RetG.of)))))
  refine wpQuiet_nil ?_
  rintro _ ⟨z, rfl⟩
  go_wp2
  go_ret
  exact ⟨rfl, B0.out.trans z.h⟩
end Go.Proofs.YtmfdggolnfoniaaDoor
