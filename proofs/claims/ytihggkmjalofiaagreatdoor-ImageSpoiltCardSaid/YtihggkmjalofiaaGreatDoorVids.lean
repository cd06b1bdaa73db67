/- Texts of general use, one behind another. -/
import Derived.Test.YtihggkmjalofiaaGreatDoorSets
import Derived.Test.YtihggkmjalofiaaGreatDoorPidw
import Derived.Test.YtihggkmjalofiaaGreatDoorShelf
import Derived.Laws.IdiomStrings
import Derived.Lib.ItoaLen
import Derived.Sort.Grow
import Derived.Test.YtihggkmjalofiaaGreatDoorGen

/- Names of vertices: packed, and held against each other. -/
namespace Go.Proofs.YtihggkmjalofiaaGreatDoor
open Go.RowKit Go.Sort

abbrev VidV := PidV × Fin 256
def encV (v : VidV) : List Value := [.int .u8 ((v.1.1.val : Nat) : Int), .int .u16 ((v.1.2.val : Nat) : Int), .int .u8 ((v.2.val : Nat) : Int)]
def keyV (v : VidV) : Int := keyP v.1 * 256 + ((v.2.val : Nat) : Int)
theorem keyP_bd (p : PidV) : 0 ≤ keyP p ∧ keyP p < 16777216 := by
  unfold keyP packV
  have h1 := p.1.isLt
  have h2 := p.2.isLt
  omega
theorem keyV_inj (x y : VidV) (h : keyV x = keyV y) : x = y := by
  unfold keyV at h
  have h1 := x.2.isLt
  have h2 := y.2.isLt
  exact Prod.ext (keyP_inj _ _ (by omega)) (Fin.ext (by omega))
theorem encV_len (p : VidV) : (encV p).length = 3 := rfl
theorem encV_one (p : VidV) : ∀ u ∈ encV p, u.oneCell' = true := by
  intro u hu
  simp only [encV, List.mem_cons, List.not_mem_nil, or_false] at hu
  rcases hu with rfl | rfl | rfl <;> rfl
theorem underVid : Tryz.prog.underlying 120 = some (.struct (Tryz.prog.fieldsOf 120)) := by kernel_rfl
theorem infoVid : (Tryz.prog.info? 120).map (·.size) = some 3 := by kernel_rfl
theorem bits_vpack (p n : Int) (hp : 0 ≤ p ∧ p < 16777216) (hn : 0 ≤ n ∧ n < 256) : bits .or .u32 (p * 256) n = p * 256 + n := by
  obtain ⟨p, rfl⟩ := Int.eq_ofNat_of_zero_le hp.1
  obtain ⟨n, rfl⟩ := Int.eq_ofNat_of_zero_le hn.1
  have h1 : p < 16777216 := by omega
  have h2 : n < 256 := by omega
  have e : (BitVec.ofInt 32 ((p : Int) * 256) ||| BitVec.ofInt 32 (n : Int)).toNat = p * 256 + n := by
    rw [BitVec.toNat_or, BitVec.toNat_ofInt, BitVec.toNat_ofInt]
    have e1 : ((p : Int) * 256 % ((2 ^ 32 : Nat) : Int)).toNat = p <<< 8 := by rw [Nat.shiftLeft_eq]; omega
    have e2 : ((n : Int) % ((2 ^ 32 : Nat) : Int)).toNat = n := by omega
    rw [e1, e2, ← Nat.shiftLeft_add_eq_or_of_lt (by omega : n < 2 ^ 8), Nat.shiftLeft_eq]
  show IntKind.u32.wrap (((BitVec.ofInt 32 ((p : Int) * 256) ||| BitVec.ofInt 32 (n : Int)).toNat : Nat) : Int) = _
  rw [e, IntWalk.u32_in _ (by omega)]
  omega
theorem gext_sub {w0 : World} {g o : Nat} {t : TypeId} {cs : Array Value} {ds : List Value} (h : Blk w0 g t cs) (hd : ∀ j v, ds[j]? = some v → cs[o + j]? = some v) : ∀ w', (∃ z : GExt w0, w' = z.w) → w'.rangeAt g o ds := by
  rintro _ ⟨z, rfl⟩
  intro j v hv
  rw [(h.ext z.h.below).cell]; exact hd j v hv
theorem encV_pid (x : VidV) : ∀ (j : Nat) (v : Value), (encP x.1)[j]? = some v → (encV x).toArray[0 + j]? = some v
  | 0, _, h => h
  | 1, _, h => h
  | j + 2, _, h => by simp [encP] at h
theorem packGP (p : PidV) (w : World) : Calls Tryz.prog 235 #[.agg (encP p).toArray] w (RetG w (.int .u32 (keyP p))) :=
  packG _ _ ⟨by omega, by have := p.1.isLt; omega⟩ ⟨by omega, by have := p.2.isLt; omega⟩ w
set_option maxRecDepth 100000 in
set_option maxHeartbeats 1000000 in
theorem vpackG (x : VidV) (w : World) : Calls Tryz.prog 151 #[.agg (encV x).toArray] w (RetG w (.int .u32 (keyV x))) := by
  have HA := Lib.hid (fun w0 => packGP x.1 w0)
  have B0 : Hid (Grew w (w.alloc (.cells (encV x).toArray 120))) := (Grew.refl _).alloc _
  have K1 : Hid (Blk (w.alloc (.cells (encV x).toArray 120)) w.heap.size 120 (encV x).toArray) := Blk.new _ _ _
  have F : Hid (bits .or .u32 (keyP x.1 * 256) ((x.2.val : Nat) : Int) = keyV x) := bits_vpack _ _ (keyP_bd _) ⟨by omega, by have := x.2.isLt; omega⟩
  obtain ⟨k0, k1⟩ := keyP_bd x.1
  have n1 : ((x.2.val : Nat) : Int) < 256 := by have := x.2.isLt; omega
  go_enter Tryz.func151, Tryz.ntmps151
  go_wp2_with fail
  have q2 : ∀ z : GExt (w.alloc (.cells (encV x).toArray 120)), z.w.cell? ⟨w.heap.size, 2, none⟩ = some (.int .u8 ((x.2.val : Nat) : Int)) := fun z => (K1.out.ext z.h.below).cell 2
  generalize (w.alloc (.cells (encV x).toArray 120)) = w0 at *
  generalize keyP x.1 = k at *
  refine wp_region_grew mixedS (by kernel_rfl) ?_
  repeat (first
    | (refine wpQuiet_load_mid (gext_sub K1.out (encV_pid x)) underPid rfl infoPid rfl rfl ?_; simp only [List.set_cons_succ, List.set_cons_zero])
    | go_big_quiet_step ((go_at_call 235; with_reducible exact gext_call (HA.out _))))
  refine wpQuiet_nil ?_
  rintro _ ⟨z, rfl⟩
  go_wp2
  go_ret
  refine ⟨ret_int ?_, B0.out.trans z.h⟩
  exact F.out
end Go.Proofs.YtihggkmjalofiaaGreatDoor

/- Names of vertices: told, and held against each other, by the document, and by number. -/
namespace Go.Proofs.YtihggkmjalofiaaGreatDoor
open Go.RowKit

theorem blk_sub {w0 : World} {g o : Nat} {t : TypeId} {cs : Array Value} {ds : List Value} (h : Blk w0 g t cs) (hd : ∀ j v, ds[j]? = some v → cs[o + j]? = some v) : w0.rangeAt g o ds := fun j v hv => by
  rw [h.cell]; exact hd j v hv
theorem RetB.ofG {w w' : World} {v : Value} {e : Ending} (h : RetG w v e w') : RetB w v e w' := ⟨h.1, h.2.below⟩
end Go.Proofs.YtihggkmjalofiaaGreatDoor

/- Names of vertices: unpacked; how they stand by number. -/
namespace Go.Proofs.YtihggkmjalofiaaGreatDoor
open Go.RowKit

theorem eqlV_any (a b c d m n : Int) (w : World) : (binOp .eql 120 (.agg #[.int .u8 a, .int .u16 b, .int .u8 m]) (.agg #[.int .u8 c, .int .u16 d, .int .u8 n])).run Tryz.prog w = .ok (.bool (decide (a = c) && decide (b = d) && decide (m = n))) w := by
  simp [go_sem]
  by_cases h1 : a = c <;> by_cases h2 : b = d <;> by_cases h3 : m = n <;> simp [h1, h2, h3]
theorem vidV_eq (x y : VidV) : (decide (((x.1.1.val : Nat) : Int) = ((y.1.1.val : Nat) : Int)) && decide (((x.1.2.val : Nat) : Int) = ((y.1.2.val : Nat) : Int)) && decide (((x.2.val : Nat) : Int) = ((y.2.val : Nat) : Int))) = decide (x = y) := by
  rw [pidV_eq, Bool.eq_iff_iff]
  simp only [Bool.and_eq_true, decide_eq_true_eq]
  constructor
  · rintro ⟨h1, h2⟩; exact Prod.ext h1 (Fin.ext (by omega))
  · rintro rfl; exact ⟨rfl, rfl⟩
theorem eqlV (x y : VidV) (w : World) : (binOp .eql 120 (.agg (encV x).toArray) (.agg (encV y).toArray)).run Tryz.prog w = .ok (.bool (decide (x = y))) w := by
  rw [← vidV_eq]; exact eqlV_any _ _ _ _ _ _ w
set_option maxRecDepth 100000 in
set_option maxHeartbeats 1000000 in
theorem vunpack_any (x : Int) (hx : 0 ≤ x ∧ x < 4294967296) (w : World) : Calls Tryz.prog 315 #[.int .u32 x] w (RetB w (.agg #[.int .u8 (x / 256 / 65536), .int .u16 (x / 256 % 65536), .int .u8 (x % 256)])) := by
  have HU := Lib.hid (fun w0 => unpack_yes (x / 256) (by omega) w0)
  have B0 : Hid (Below w.heap.size w (w.alloc (.cells #[.int .u8 0, .int .u16 0, .int .u8 0] 120))) := below_new _ _
  have K0 : Hid (Blk (w.alloc (.cells #[.int .u8 0, .int .u16 0, .int .u8 0] 120)) w.heap.size 120 #[.int .u8 0, .int .u16 0, .int .u8 0]) := Blk.new _ _ _
  obtain ⟨x0, x1⟩ := hx
  go_enter Tryz.func315, Tryz.ntmps315
  go_wp2_with fail
  generalize w.alloc (.cells #[.int .u8 0, .int .u16 0, .int .u8 0] 120) = w0 at *
  refine (HU.out w0).mono ?_
  rintro e w1 ⟨rfl, b1⟩
  have B1 : Hid (Below w.heap.size w (w1.alloc (.cells #[.int .u8 (x / 256 / 65536), .int .u16 (x / 256 % 65536)] 27))) := (B0.out.trans (b1.mono B0.out.size)).trans ((below_new w1 _).mono (Nat.le_trans B0.out.size b1.size))
  have K1 := Lib.hid ((K0.out.ext b1).alloc (.cells #[.int .u8 (x / 256 / 65536), .int .u16 (x / 256 % 65536)] 27))
  have z0 : (w1.alloc (.cells #[.int .u8 (x / 256 / 65536), .int .u16 (x / 256 % 65536)] 27)).cell? ⟨w.heap.size, 0, none⟩ = some (.int .u8 0) := K1.out.cell 0
  have z1 : (w1.alloc (.cells #[.int .u8 (x / 256 / 65536), .int .u16 (x / 256 % 65536)] 27)).cell? ⟨w.heap.size, 1, none⟩ = some (.int .u16 0) := K1.out.cell 1
  have z2 : (w1.alloc (.cells #[.int .u8 (x / 256 / 65536), .int .u16 (x / 256 % 65536)] 27)).cell? ⟨w.heap.size, 2, none⟩ = some (.int .u8 0) := K1.out.cell 2
  have f0 := K1.out.fr 0
  have f1 := K1.out.fr 1
  have f2 := K1.out.fr 2
  clear b1 B0 K0 HU
  go_wp2_with fail
  have y0 := (K1.out.set_ 0 (.int .u8 (x / 256 / 65536))).cell 0
  have y1 := ((K1.out.set_ 0 (.int .u8 (x / 256 / 65536))).set_ 1 (.int .u16 (x / 256 % 65536))).cell 1
  have y2 := (((K1.out.set_ 0 (.int .u8 (x / 256 / 65536))).set_ 1 (.int .u16 (x / 256 % 65536))).set_ 2 (.int .u8 (x % 256))).cell 2
  refine bodyPost_ret (v := .agg #[.int .u8 (x / 256 / 65536), .int .u16 (x / 256 % 65536), .int .u8 (x % 256)]) ?_ rfl ⟨rfl, below_setCell (below_setCell (below_setCell B1.out (Nat.le_refl _)) (Nat.le_refl _)) (Nat.le_refl _)⟩
  simp [results, Tryz.results315, go_sem, y0, y1, y2]
def orV (x y : Int) : Int := if x = 0 then y else x
set_option maxRecDepth 100000 in
set_option maxHeartbeats 1000000 in
theorem or_any (x y : Int) (w : World) (g c : Nat) (h0 : w.cell? ⟨g, 0, none⟩ = some (.int .i64 x)) (h1 : w.cell? ⟨g, 1, none⟩ = some (.int .i64 y)) : Calls Tryz.prog 234 #[.slice (some ⟨g, 0, none⟩) 2 c] w (Ret w (.int .i64 (orV x y))) := by
  by_cases hx : x = 0
  · have F := Lib.hid (show orV x y = y from if_pos hx)
    have b0 : (x != 0) = false := by simp [hx]
    by_cases hy : y = 0
    · have F2 : Hid (orV x y = 0) := by rw [Hid, F.out, hy]
      have b1 : (y != 0) = false := by simp [hy]
      clear hx hy F
      go_enter Tryz.func234, Tryz.ntmps234
      go_wp2
      go_loop [8] (fun i => ∃ k : Nat, k ≤ 2 ∧ i = .int .i64 k) (fun i => 2 - (intOf i).toNat)
      case atStart => exact ⟨0, by omega, rfl⟩
      case round =>
        obtain ⟨k, hk, rfl⟩ := hrel
        match k, hk with
        | 0, _ =>
          go_wp2
          go_round
          case rel => exact ⟨1, by omega, rfl⟩
          case measure => simp [intOf]
        | 1, _ =>
          go_wp2
          go_round
          case rel => exact ⟨2, by omega, rfl⟩
          case measure => simp [intOf]
        | 2, _ => (go_wp2; go_ret; exact ⟨ret_int F2.out.symm, rfl⟩)
    · have b1 : (y != 0) = true := by simp [hy]
      clear hx hy
      go_enter Tryz.func234, Tryz.ntmps234
      go_wp2
      go_loop [8] (fun i => ∃ k : Nat, k ≤ 1 ∧ i = .int .i64 k) (fun i => 2 - (intOf i).toNat)
      case atStart => exact ⟨0, by omega, rfl⟩
      case round =>
        obtain ⟨k, hk, rfl⟩ := hrel
        match k, hk with
        | 0, _ =>
          go_wp2
          go_round
          case rel => exact ⟨1, by omega, rfl⟩
          case measure => simp [intOf]
        | 1, _ => (go_wp2; go_ret; exact ⟨ret_int F.out.symm, rfl⟩)
  · have F := Lib.hid (show orV x y = x from if_neg hx)
    have b0 : (x != 0) = true := by simp [hx]
    clear hx
    go_enter Tryz.func234, Tryz.ntmps234
    go_wp2
    go_loop [8] (fun i => i = .int .i64 0) (fun i => 2 - (intOf i).toNat)
    case atStart => exact rfl
    case round =>
      obtain rfl := hrel
      go_wp2
      go_ret
      exact ⟨ret_int F.out.symm, rfl⟩
end Go.Proofs.YtihggkmjalofiaaGreatDoor

/- Names of vertices: how they stand by number. -/
namespace Go.Proofs.YtihggkmjalofiaaGreatDoor
open Go.RowKit

end Go.Proofs.YtihggkmjalofiaaGreatDoor

/- Lists of names of vertices: are they the same? -/
namespace Go.Proofs.YtihggkmjalofiaaGreatDoor
open Go.RowKit

/-- names in a slice -/
structure VidsAt (w : World) (A : Option Addr) (n : Nat) (l : List VidV) : Prop where
  len : l.length = n
  sl : Sl w w.heap.size 3 A n (l.flatMap encV)
theorem VidsAt.ext {w w' : World} {A : Option Addr} {n : Nat} {l : List VidV} (h : VidsAt w A n l) (hb : Below w.heap.size w w') : VidsAt w' A n l := ⟨h.len, (h.sl.below hb (Nat.le_refl _)).more hb.size⟩
theorem VidsAt.at_ {w : World} {A : Option Addr} {n : Nat} {l : List VidV} (h : VidsAt w A n l) {k : Nat} (hk : k < n) : ∃ b o x, A = some ⟨b, o, none⟩ ∧ b < w.heap.size ∧ l[k]? = some x ∧ w.rangeAt b (o + k * 3) (encV x) := by
  have hk' : k < l.length := by rw [h.len]; exact hk
  obtain ⟨b, o, e, hb, hr⟩ := h.sl.rowAt h.len (fun x _ => encV_len x) hk'
  exact ⟨b, o, l[k], e, hb, List.getElem?_eq_getElem hk', hr⟩
theorem VidsAt.of_own {w : World} {base n : Nat} {v : Value} {l : List VidV} (h : w.ownsRow base 120 3 v n (l.flatMap encV)) (hn : l.length = n) : ∃ A c, v = .slice A n c ∧ n ≤ c ∧ VidsAt w A n l := by
  obtain ⟨A, c, rfl, hc, hs⟩ := Sl.of_own h
  exact ⟨A, c, rfl, hc, hn, hs⟩
end Go.Proofs.YtihggkmjalofiaaGreatDoor
