/- Names of patches as they lie in memory. -/
import Derived.Test.YtmfdggolnfoniaaPidw
import Derived.Test.YtmfdggolnfoniaaGen
namespace Go.Proofs.Ytmfdggolnfoniaa
open Go.RowKit

abbrev PidV := Fin 256 × Fin 65536
def encP (p : PidV) : List Value := [.int .u8 ((p.1.val : Nat) : Int), .int .u16 ((p.2.val : Nat) : Int)]
def keyP (p : PidV) : Int := packV ((p.1.val : Nat) : Int) ((p.2.val : Nat) : Int)
theorem keyP_inj (x y : PidV) (h : keyP x = keyP y) : x = y := by
  unfold keyP packV at h
  have h1 := x.1.isLt
  have h2 := x.2.isLt
  have h3 := y.1.isLt
  have h4 := y.2.isLt
  exact Prod.ext (Fin.ext (by omega)) (Fin.ext (by omega))
theorem encP_len (p : PidV) : (encP p).length = 2 := rfl
theorem encP_one (p : PidV) : ∀ u ∈ encP p, u.oneCell' = true := by
  intro u hu
  simp only [encP, List.mem_cons, List.not_mem_nil, or_false] at hu
  rcases hu with rfl | rfl <;> rfl
theorem encsP_one (l : List PidV) : ∀ u ∈ l.flatMap encP, u.oneCell' = true := by
  intro u hu
  obtain ⟨p, _, h⟩ := List.mem_flatMap.1 hu
  exact encP_one p u h
theorem cmpP (x y : PidV) (w : World) : Calls Try.prog 59 #[.agg (encP x).toArray, .agg (encP y).toArray] w (RetB w (.int .i64 (signV (keyP x) (keyP y)))) :=
  cmp_any _ _ _ _ ⟨by omega, by have := x.1.isLt; omega⟩ ⟨by omega, by have := x.2.isLt; omega⟩ ⟨by omega, by have := y.1.isLt; omega⟩ ⟨by omega, by have := y.2.isLt; omega⟩ w
theorem rcmpP (x y : PidV) (w : World) : Calls Try.prog 25 #[.agg (encP x).toArray, .agg (encP y).toArray] w (RetB w (.int .i64 (signV (keyP x) (keyP y)))) :=
  rcmp_any _ _ _ _ ⟨by omega, by have := x.1.isLt; omega⟩ ⟨by omega, by have := x.2.isLt; omega⟩ ⟨by omega, by have := y.1.isLt; omega⟩ ⟨by omega, by have := y.2.isLt; omega⟩ w
theorem pidV_eq (x y : PidV) : (decide (((x.1.val : Nat) : Int) = ((y.1.val : Nat) : Int)) && decide (((x.2.val : Nat) : Int) = ((y.2.val : Nat) : Int))) = decide (x = y) := by
  rw [Bool.eq_iff_iff]
  simp only [Bool.and_eq_true, decide_eq_true_eq]
  constructor
  · rintro ⟨h1, h2⟩; exact Prod.ext (Fin.ext (by omega)) (Fin.ext (by omega))
  · rintro rfl; exact ⟨rfl, rfl⟩
theorem eqlP (x y : PidV) (w : World) : (binOp .eql 33 (.agg (encP x).toArray) (.agg (encP y).toArray)).run Try.prog w = .ok (.bool (decide (x = y))) w := by
  rw [← pidV_eq]; exact eql_pid _ _ _ _ w
theorem neqP (x y : PidV) (w : World) : (binOp .neq 33 (.agg (encP x).toArray) (.agg (encP y).toArray)).run Try.prog w = .ok (.bool (!decide (x = y))) w := by
  rw [← pidV_eq]; exact neq_pid _ _ _ _ w
theorem pidSl : SlT Try.prog 34 33 2 4 := slT_of (z := .agg #[.int .u8 0, .int .u16 0]) Try.underlying34 (by kernel_rfl) rfl (by omega)
theorem rangeAt_ext {w : World} {b o : Nat} {cs : List Value} (h : w.rangeAt b o cs) (hb : b < w.heap.size) : ∀ w', (∃ z : Ext w, w' = z.w) → w'.rangeAt b o cs := by
  rintro _ ⟨z, rfl⟩; exact rangeAt_below h z.h hb
theorem own_mono' {w : World} {b c : Nat} {e : TypeId} {size n : Nat} {v : Value} {xs : List Value} (h : w.ownsRow c e size v n xs) (hb : b ≤ c) : w.ownsRow b e size v n xs := by
  obtain ⟨h1, h2⟩ := h
  refine ⟨h1, ?_⟩
  rcases h2 with h | ⟨g, cap, cur, e1, hg, h3⟩
  · exact .inl h
  · exact .inr ⟨g, cap, cur, e1, by omega, h3⟩
/-- names in a slice -/
structure PidsAt (w : World) (A : Option Addr) (n : Nat) (l : List PidV) : Prop where
  len : l.length = n
  sl : Sl w w.heap.size 2 A n (l.flatMap encP)
theorem PidsAt.ext {w w' : World} {A : Option Addr} {n : Nat} {l : List PidV} (h : PidsAt w A n l) (hb : Below w.heap.size w w') : PidsAt w' A n l := ⟨h.len, (h.sl.below hb (Nat.le_refl _)).more hb.size⟩
theorem PidsAt.at_ {w : World} {A : Option Addr} {n : Nat} {l : List PidV} (h : PidsAt w A n l) {k : Nat} (hk : k < n) : ∃ b o x, A = some ⟨b, o, none⟩ ∧ b < w.heap.size ∧ l[k]? = some x ∧ w.rangeAt b (o + k * 2) (encP x) := by
  have hk' : k < l.length := by rw [h.len]; exact hk
  obtain ⟨b, o, e, hb, hr⟩ := h.sl.rowAt h.len (fun x _ => encP_len x) hk'
  exact ⟨b, o, l[k], e, hb, List.getElem?_eq_getElem hk', hr⟩
theorem PidsAt.of_own {w : World} {base n : Nat} {v : Value} {l : List PidV} (h : w.ownsRow base 33 2 v n (l.flatMap encP)) (hn : l.length = n) : ∃ A c, v = .slice A n c ∧ n ≤ c ∧ PidsAt w A n l := by
  obtain ⟨A, c, rfl, hc, hs⟩ := Sl.of_own h
  exact ⟨A, c, rfl, hc, hn, hs⟩
end Go.Proofs.Ytmfdggolnfoniaa
