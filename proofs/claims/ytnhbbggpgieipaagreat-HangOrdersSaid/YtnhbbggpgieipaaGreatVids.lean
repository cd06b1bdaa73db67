/- Texts of general use, one behind another. -/
import Derived.Test.YtnhbbggpgieipaaGreatSets
import Derived.Test.YtnhbbggpgieipaaGreatPidt
import Derived.Test.YtnhbbggpgieipaaGreatGen

/- Names of vertices: packed, and held against each other. -/
namespace Go.Proofs.YtnhbbggpgieipaaGreat
open Go.RowKit Go.Sort

abbrev VidV := PidV × Fin 256
def encV (v : VidV) : List Value := [.int .u8 ((v.1.1.val : Nat) : Int), .int .u16 ((v.1.2.val : Nat) : Int), .int .u8 ((v.2.val : Nat) : Int)]
theorem encV_len (p : VidV) : (encV p).length = 3 := rfl
theorem encV_one (p : VidV) : ∀ u ∈ encV p, u.oneCell' = true := by
  intro u hu
  simp only [encV, List.mem_cons, List.not_mem_nil, or_false] at hu
  rcases hu with rfl | rfl | rfl <;> rfl
theorem underVid : Tryz.prog.underlying 76 = some (.struct (Tryz.prog.fieldsOf 76)) := by kernel_rfl
theorem infoVid : (Tryz.prog.info? 76).map (·.size) = some 3 := by kernel_rfl
end Go.Proofs.YtnhbbggpgieipaaGreat

/- Names of vertices: told, and held against each other, by the document, and by number. -/
namespace Go.Proofs.YtnhbbggpgieipaaGreat
open Go.RowKit

theorem blk_sub {w0 : World} {g o : Nat} {t : TypeId} {cs : Array Value} {ds : List Value} (h : Blk w0 g t cs) (hd : ∀ j v, ds[j]? = some v → cs[o + j]? = some v) : w0.rangeAt g o ds := fun j v hv => by
  rw [h.cell]; exact hd j v hv
end Go.Proofs.YtnhbbggpgieipaaGreat

/- Names of vertices: unpacked; how they stand by number. -/
namespace Go.Proofs.YtnhbbggpgieipaaGreat
open Go.RowKit

theorem eqlV_any (a b c d m n : Int) (w : World) : (binOp .eql 76 (.agg #[.int .u8 a, .int .u16 b, .int .u8 m]) (.agg #[.int .u8 c, .int .u16 d, .int .u8 n])).run Tryz.prog w = .ok (.bool (decide (a = c) && decide (b = d) && decide (m = n))) w := by
  simp [go_sem]
  by_cases h1 : a = c <;> by_cases h2 : b = d <;> by_cases h3 : m = n <;> simp [h1, h2, h3]
theorem vidV_eq (x y : VidV) : (decide (((x.1.1.val : Nat) : Int) = ((y.1.1.val : Nat) : Int)) && decide (((x.1.2.val : Nat) : Int) = ((y.1.2.val : Nat) : Int)) && decide (((x.2.val : Nat) : Int) = ((y.2.val : Nat) : Int))) = decide (x = y) := by
  rw [pidV_eq, Bool.eq_iff_iff]
  simp only [Bool.and_eq_true, decide_eq_true_eq]
  constructor
  · rintro ⟨h1, h2⟩; exact Prod.ext h1 (Fin.ext (by omega))
  · rintro rfl; exact ⟨rfl, rfl⟩
theorem eqlV (x y : VidV) (w : World) : (binOp .eql 76 (.agg (encV x).toArray) (.agg (encV y).toArray)).run Tryz.prog w = .ok (.bool (decide (x = y))) w := by
  rw [← vidV_eq]; exact eqlV_any _ _ _ _ _ _ w
def orV (x y : Int) : Int := if x = 0 then y else x
end Go.Proofs.YtnhbbggpgieipaaGreat

/- Names of vertices: how they stand by number. -/
namespace Go.Proofs.YtnhbbggpgieipaaGreat
open Go.RowKit

end Go.Proofs.YtnhbbggpgieipaaGreat

/- Lists of names of vertices: are they the same? -/
namespace Go.Proofs.YtnhbbggpgieipaaGreat
open Go.RowKit

/-- names in a slice -/
structure VidsAt (w : World) (A : Option Addr) (n : Nat) (l : List VidV) : Prop where
  len : l.length = n
  sl : Sl w w.heap.size 3 A n (l.flatMap encV)
theorem VidsAt.ext {w w' : World} {A : Option Addr} {n : Nat} {l : List VidV} (h : VidsAt w A n l) (hb : Below w.heap.size w w') : VidsAt w' A n l := ⟨h.len, (h.sl.below hb (Nat.le_refl _)).more hb.size⟩
theorem VidsAt.at_ {w : World} {A : Option Addr} {n : Nat} {l : List VidV} (h : VidsAt w A n l) {k : Nat} (hk : k < n) : ∃ b o x, A = some ⟨b, o, none⟩ ∧ b < w.heap.size ∧ l[k]? = some x ∧ w.rangeAt b (o + k * 3) (encV x) := by
  have hk' : k < l.length := by rw [h.len]; exact hk
  obtain ⟨b, o, e, hb, hr⟩ := h.sl.rowAt h.len (fun x _ => encV_len x) hk'
  exact ⟨b, o, l[k], e, hb, List.getElem?_eq_getElem hk', hr⟩
theorem VidsAt.of_own {w : World} {base n : Nat} {v : Value} {l : List VidV} (h : w.ownsRow base 76 3 v n (l.flatMap encV)) (hn : l.length = n) : ∃ A c, v = .slice A n c ∧ n ≤ c ∧ VidsAt w A n l := by
  obtain ⟨A, c, rfl, hc, hs⟩ := Sl.of_own h
  exact ⟨A, c, rfl, hc, hn, hs⟩
end Go.Proofs.YtnhbbggpgieipaaGreat
