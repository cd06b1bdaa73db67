/- Texts of general use, one behind another. -/
import Derived.Test.YtnhbbggpgieipaaSets
import Derived.Test.YtnhbbggpgieipaaPidt
import Derived.Test.YtnhbbggpgieipaaGen

/- Names of vertices: packed, and held against each other. -/
namespace Go.Proofs.Ytnhbbggpgieipaa
open Go.RowKit Go.Sort

abbrev VidV := PidV × Fin 256
def encV (v : VidV) : List Value := [.int .u8 ((v.1.1.val : Nat) : Int), .int .u16 ((v.1.2.val : Nat) : Int), .int .u8 ((v.2.val : Nat) : Int)]
def keyV (v : VidV) : Int := keyP v.1 * 256 + ((v.2.val : Nat) : Int)
theorem keyP_bd (p : PidV) : 0 ≤ keyP p ∧ keyP p < 16777216 := by
  unfold keyP packV
  have h1 := p.1.isLt
  have h2 := p.2.isLt
  omega
theorem keyV_inj (x y : VidV) (h : keyV x = keyV y) : x = y := by
  unfold keyV at h
  have h1 := x.2.isLt
  have h2 := y.2.isLt
  exact Prod.ext (keyP_inj _ _ (by omega)) (Fin.ext (by omega))
theorem encV_len (p : VidV) : (encV p).length = 3 := rfl
theorem encV_one (p : VidV) : ∀ u ∈ encV p, u.oneCell' = true := by
  intro u hu
  simp only [encV, List.mem_cons, List.not_mem_nil, or_false] at hu
  rcases hu with rfl | rfl | rfl <;> rfl
theorem underVid : Try.prog.underlying 58 = some (.struct (Try.prog.fieldsOf 58)) := by kernel_rfl
theorem infoVid : (Try.prog.info? 58).map (·.size) = some 3 := by kernel_rfl
theorem vidSl : SlT Try.prog 154 58 3 6 := slT_of (z := .agg #[.int .u8 0, .int .u16 0, .int .u8 0]) Try.underlying154 (by kernel_rfl) rfl (by omega)
theorem bits_vpack (p n : Int) (hp : 0 ≤ p ∧ p < 16777216) (hn : 0 ≤ n ∧ n < 256) : bits .or .u32 (p * 256) n = p * 256 + n := by
  obtain ⟨p, rfl⟩ := Int.eq_ofNat_of_zero_le hp.1
  obtain ⟨n, rfl⟩ := Int.eq_ofNat_of_zero_le hn.1
  have h1 : p < 16777216 := by omega
  have h2 : n < 256 := by omega
  have e : (BitVec.ofInt 32 ((p : Int) * 256) ||| BitVec.ofInt 32 (n : Int)).toNat = p * 256 + n := by
    rw [BitVec.toNat_or, BitVec.toNat_ofInt, BitVec.toNat_ofInt]
    have e1 : ((p : Int) * 256 % ((2 ^ 32 : Nat) : Int)).toNat = p <<< 8 := by rw [Nat.shiftLeft_eq]; omega
    have e2 : ((n : Int) % ((2 ^ 32 : Nat) : Int)).toNat = n := by omega
    rw [e1, e2, ← Nat.shiftLeft_add_eq_or_of_lt (by omega : n < 2 ^ 8), Nat.shiftLeft_eq]
  show IntKind.u32.wrap (((BitVec.ofInt 32 ((p : Int) * 256) ||| BitVec.ofInt 32 (n : Int)).toNat : Nat) : Int) = _
  rw [e, IntWalk.u32_in _ (by omega)]
  omega
theorem gext_sub {w0 : World} {g o : Nat} {t : TypeId} {cs : Array Value} {ds : List Value} (h : Blk w0 g t cs) (hd : ∀ j v, ds[j]? = some v → cs[o + j]? = some v) : ∀ w', (∃ z : GExt w0, w' = z.w) → w'.rangeAt g o ds := by
  rintro _ ⟨z, rfl⟩
  intro j v hv
  rw [(h.ext z.h.below).cell]; exact hd j v hv
theorem encV_pid (x : VidV) : ∀ (j : Nat) (v : Value), (encP x.1)[j]? = some v → (encV x).toArray[0 + j]? = some v
  | 0, _, h => h
  | 1, _, h => h
  | j + 2, _, h => by simp [encP] at h
theorem packGP (p : PidV) (w : World) : Calls Try.prog 135 #[.agg (encP p).toArray] w (RetG w (.int .u32 (keyP p))) :=
  packG _ _ ⟨by omega, by have := p.1.isLt; omega⟩ ⟨by omega, by have := p.2.isLt; omega⟩ w
end Go.Proofs.Ytnhbbggpgieipaa

/- Names of vertices: told, and held against each other, by the document, and by number. -/
namespace Go.Proofs.Ytnhbbggpgieipaa
open Go.RowKit

def vidText (a s n : Nat) : List UInt8 := pidText a s ++ 46 :: Lib.itoa (n : Int)
theorem blk_sub {w0 : World} {g o : Nat} {t : TypeId} {cs : Array Value} {ds : List Value} (h : Blk w0 g t cs) (hd : ∀ j v, ds[j]? = some v → cs[o + j]? = some v) : w0.rangeAt g o ds := fun j v hv => by
  rw [h.cell]; exact hd j v hv
theorem ext_sub {w0 : World} {g o : Nat} {t : TypeId} {cs : Array Value} {ds : List Value} (h : Blk w0 g t cs) (hd : ∀ j v, ds[j]? = some v → cs[o + j]? = some v) : ∀ w', (∃ z : Ext w0, w' = z.w) → w'.rangeAt g o ds := by
  rintro _ ⟨z, rfl⟩
  exact blk_sub (h.ext z.h) hd
theorem ext_row' {w0 : World} {g : Nat} {t : TypeId} {cs : Array Value} (h : Blk w0 g t cs) : ∀ w', (∃ z : Ext w0, w' = z.w) → w'.rangeAt g 0 cs.toList := by
  rintro _ ⟨z, rfl⟩
  intro j v hv
  rw [Nat.zero_add, (h.ext z.h).cell, ← Array.getElem?_toList]; exact hv
theorem RetB.ofG {w w' : World} {v : Value} {e : Ending} (h : RetG w v e w') : RetB w v e w' := ⟨h.1, h.2.below⟩
theorem mixedT : Try.prog.follows .mixedOrders = true := by kernel_rfl
theorem pidText_le {a s : Nat} (ha : a < 256) (hs : s < 65536) : (pidText a s).length ≤ 50 := by
  unfold pidText
  have h1 := itoa_len a (by omega)
  have h2 := itoa_len s (by omega)
  simp only [List.length_append, List.length_cons]; omega
/-- the document's order -/
theorem keyV_ne {x y : VidV} (h : x.1 ≠ y.1) : signV (keyV x) (keyV y) = signV (keyP x.1) (keyP y.1) := by
  have h0 : keyP x.1 ≠ keyP y.1 := fun e => h (keyP_inj _ _ e)
  have h1 := x.2.isLt
  have h2 := y.2.isLt
  unfold keyV signV
  split <;> (try split) <;> (try split) <;> (try split) <;> omega
theorem keyV_same {x y : VidV} (h : x.1 = y.1) : signV (keyV x) (keyV y) = signV ((x.2.val : Nat) : Int) ((y.2.val : Nat) : Int) := by
  unfold keyV signV
  rw [h]
  split <;> (try split) <;> (try split) <;> (try split) <;> omega
end Go.Proofs.Ytnhbbggpgieipaa

/- Names of vertices: unpacked; how they stand by number. -/
namespace Go.Proofs.Ytnhbbggpgieipaa
open Go.RowKit

theorem eqlV_any (a b c d m n : Int) (w : World) : (binOp .eql 58 (.agg #[.int .u8 a, .int .u16 b, .int .u8 m]) (.agg #[.int .u8 c, .int .u16 d, .int .u8 n])).run Try.prog w = .ok (.bool (decide (a = c) && decide (b = d) && decide (m = n))) w := by
  simp [go_sem]
  by_cases h1 : a = c <;> by_cases h2 : b = d <;> by_cases h3 : m = n <;> simp [h1, h2, h3]
theorem neqV_any (a b c d m n : Int) (w : World) : (binOp .neq 58 (.agg #[.int .u8 a, .int .u16 b, .int .u8 m]) (.agg #[.int .u8 c, .int .u16 d, .int .u8 n])).run Try.prog w = .ok (.bool (!(decide (a = c) && decide (b = d) && decide (m = n)))) w := by
  simp [go_sem]
  by_cases h1 : a = c <;> by_cases h2 : b = d <;> by_cases h3 : m = n <;> simp [h1, h2, h3]
theorem vidV_eq (x y : VidV) : (decide (((x.1.1.val : Nat) : Int) = ((y.1.1.val : Nat) : Int)) && decide (((x.1.2.val : Nat) : Int) = ((y.1.2.val : Nat) : Int)) && decide (((x.2.val : Nat) : Int) = ((y.2.val : Nat) : Int))) = decide (x = y) := by
  rw [pidV_eq, Bool.eq_iff_iff]
  simp only [Bool.and_eq_true, decide_eq_true_eq]
  constructor
  · rintro ⟨h1, h2⟩; exact Prod.ext h1 (Fin.ext (by omega))
  · rintro rfl; exact ⟨rfl, rfl⟩
theorem eqlV (x y : VidV) (w : World) : (binOp .eql 58 (.agg (encV x).toArray) (.agg (encV y).toArray)).run Try.prog w = .ok (.bool (decide (x = y))) w := by
  rw [← vidV_eq]; exact eqlV_any _ _ _ _ _ _ w
theorem neqV (x y : VidV) (w : World) : (binOp .neq 58 (.agg (encV x).toArray) (.agg (encV y).toArray)).run Try.prog w = .ok (.bool (!decide (x = y))) w := by
  rw [← vidV_eq]; exact neqV_any _ _ _ _ _ _ w
def orV (x y : Int) : Int := if x = 0 then y else x
end Go.Proofs.Ytnhbbggpgieipaa

/- Names of vertices: how they stand by number. -/
namespace Go.Proofs.Ytnhbbggpgieipaa
open Go.RowKit

def lkeyP (p : PidV) : Int := packV ((p.2.val : Nat) : Int) ((p.1.val : Nat) : Int)
theorem lkeyP_inj (x y : PidV) (h : lkeyP x = lkeyP y) : x = y := by
  unfold lkeyP packV at h
  have h1 := x.1.isLt
  have h2 := y.1.isLt
  exact Prod.ext (Fin.ext (by omega)) (Fin.ext (by omega))
def latVV (x y : VidV) : Int := orV (signV (lkeyP x.1) (lkeyP y.1)) (signV ((x.2.val : Nat) : Int) ((y.2.val : Nat) : Int))
theorem latVV_ne {x y : VidV} (h : x.1 ≠ y.1) : latVV x y = signV (lkeyP x.1) (lkeyP y.1) := by
  have h0 : lkeyP x.1 ≠ lkeyP y.1 := fun e => h (lkeyP_inj _ _ e)
  unfold latVV orV
  rw [if_neg]
  unfold signV
  split <;> (try split) <;> omega
theorem latVV_same {x y : VidV} (h : x.1 = y.1) : latVV x y = signV (keyV x) (keyV y) := by
  unfold latVV orV
  rw [h, signV_eq rfl, if_pos rfl, keyV_same h]
end Go.Proofs.Ytnhbbggpgieipaa

/- Lists of names of vertices: are they the same? -/
namespace Go.Proofs.Ytnhbbggpgieipaa
open Go.RowKit

/-- names in a slice -/
structure VidsAt (w : World) (A : Option Addr) (n : Nat) (l : List VidV) : Prop where
  len : l.length = n
  sl : Sl w w.heap.size 3 A n (l.flatMap encV)
theorem VidsAt.ext {w w' : World} {A : Option Addr} {n : Nat} {l : List VidV} (h : VidsAt w A n l) (hb : Below w.heap.size w w') : VidsAt w' A n l := ⟨h.len, (h.sl.below hb (Nat.le_refl _)).more hb.size⟩
theorem VidsAt.at_ {w : World} {A : Option Addr} {n : Nat} {l : List VidV} (h : VidsAt w A n l) {k : Nat} (hk : k < n) : ∃ b o x, A = some ⟨b, o, none⟩ ∧ b < w.heap.size ∧ l[k]? = some x ∧ w.rangeAt b (o + k * 3) (encV x) := by
  have hk' : k < l.length := by rw [h.len]; exact hk
  obtain ⟨b, o, e, hb, hr⟩ := h.sl.rowAt h.len (fun x _ => encV_len x) hk'
  exact ⟨b, o, l[k], e, hb, List.getElem?_eq_getElem hk', hr⟩
theorem VidsAt.of_own {w : World} {base n : Nat} {v : Value} {l : List VidV} (h : w.ownsRow base 58 3 v n (l.flatMap encV)) (hn : l.length = n) : ∃ A c, v = .slice A n c ∧ n ≤ c ∧ VidsAt w A n l := by
  obtain ⟨A, c, rfl, hc, hs⟩ := Sl.of_own h
  exact ⟨A, c, rfl, hc, hn, hs⟩
end Go.Proofs.Ytnhbbggpgieipaa
