/- Names of vertices: packed, and held against each other. -/
import Derived.Test.YtmfdggolnfoniaaSeth
namespace Go.Proofs.Ytmfdggolnfoniaa
open Go.RowKit Go.Sort

abbrev VidV := PidV × Fin 256
def encV (v : VidV) : List Value := [.int .u8 ((v.1.1.val : Nat) : Int), .int .u16 ((v.1.2.val : Nat) : Int), .int .u8 ((v.2.val : Nat) : Int)]
def keyV (v : VidV) : Int := keyP v.1 * 256 + ((v.2.val : Nat) : Int)
theorem keyP_bd (p : PidV) : 0 ≤ keyP p ∧ keyP p < 16777216 := by
  unfold keyP packV
  have h1 := p.1.isLt
  have h2 := p.2.isLt
  omega
theorem keyV_inj (x y : VidV) (h : keyV x = keyV y) : x = y := by
  unfold keyV at h
  have h1 := x.2.isLt
  have h2 := y.2.isLt
  exact Prod.ext (keyP_inj _ _ (by omega)) (Fin.ext (by omega))
theorem encV_len (p : VidV) : (encV p).length = 3 := rfl
theorem encV_one (p : VidV) : ∀ u ∈ encV p, u.oneCell' = true := by
  intro u hu
  simp only [encV, List.mem_cons, List.not_mem_nil, or_false] at hu
  rcases hu with rfl | rfl | rfl <;> rfl
theorem underVid : Try.prog.underlying 49 = some (.struct (Try.prog.fieldsOf 49)) := by kernel_rfl
theorem infoVid : (Try.prog.info? 49).map (·.size) = some 3 := by kernel_rfl
theorem vidSl : SlT Try.prog 55 49 3 6 := slT_of (z := .agg #[.int .u8 0, .int .u16 0, .int .u8 0]) Try.underlying55 (by kernel_rfl) rfl (by omega)
theorem bits_vpack (p n : Int) (hp : 0 ≤ p ∧ p < 16777216) (hn : 0 ≤ n ∧ n < 256) : bits .or .u32 (p * 256) n = p * 256 + n := by
  obtain ⟨p, rfl⟩ := Int.eq_ofNat_of_zero_le hp.1
  obtain ⟨n, rfl⟩ := Int.eq_ofNat_of_zero_le hn.1
  have h1 : p < 16777216 := by omega
  have h2 : n < 256 := by omega
  have e : (BitVec.ofInt 32 ((p : Int) * 256) ||| BitVec.ofInt 32 (n : Int)).toNat = p * 256 + n := by
    rw [BitVec.toNat_or, BitVec.toNat_ofInt, BitVec.toNat_ofInt]
    have e1 : ((p : Int) * 256 % ((2 ^ 32 : Nat) : Int)).toNat = p <<< 8 := by rw [Nat.shiftLeft_eq]; omega
    have e2 : ((n : Int) % ((2 ^ 32 : Nat) : Int)).toNat = n := by omega
    rw [e1, e2, ← Nat.shiftLeft_add_eq_or_of_lt (by omega : n < 2 ^ 8), Nat.shiftLeft_eq]
  show IntKind.u32.wrap (((BitVec.ofInt 32 ((p : Int) * 256) ||| BitVec.ofInt 32 (n : Int)).toNat : Nat) : Int) = _
  rw [e, IntWalk.u32_in _ (by omega)]
  omega
theorem gext_sub {w0 : World} {g o : Nat} {t : TypeId} {cs : Array Value} {ds : List Value} (h : Blk w0 g t cs) (hd : ∀ j v, ds[j]? = some v → cs[o + j]? = some v) : ∀ w', (∃ z : GExt w0, w' = z.w) → w'.rangeAt g o ds := by
  rintro _ ⟨z, rfl⟩
  intro j v hv
  rw [(h.ext z.h.below).cell]; exact hd j v hv
theorem encV_pid (x : VidV) : ∀ (j : Nat) (v : Value), (encP x.1)[j]? = some v → (encV x).toArray[0 + j]? = some v
  | 0, _, h => h
  | 1, _, h => h
  | j + 2, _, h => by simp [encP] at h
theorem packGP (p : PidV) (w : World) : Calls Try.prog 74 #[.agg (encP p).toArray] w (RetG w (.int .u32 (keyP p))) :=
  packG _ _ ⟨by omega, by have := p.1.isLt; omega⟩ ⟨by omega, by have := p.2.isLt; omega⟩ w
end Go.Proofs.Ytmfdggolnfoniaa
