/- Operations and patches as they lie in memory. -/
import Derived.Test.YtmfdggolnfoniaaVsetd
import Derived.Test.YtmfdggolnfoniaaOpgz
import Derived.Test.YtmfdggolnfoniaaSetk
import Derived.Test.YtmfdggolnfoniaaGen
namespace Go.Proofs.Ytmfdggolnfoniaa
open Go.RowKit

/-- an operation: its kind, the vertices that it names, its text -/
abbrev OpV := Fin 256 × VidV × VidV × ByteArray
def encO (o : OpV) : List Value := [.int .u8 ((o.1.val : Nat) : Int), .int .u8 ((o.2.1.1.1.val : Nat) : Int), .int .u16 ((o.2.1.1.2.val : Nat) : Int), .int .u8 ((o.2.1.2.val : Nat) : Int), .int .u8 ((o.2.2.1.1.1.val : Nat) : Int), .int .u16 ((o.2.2.1.1.2.val : Nat) : Int), .int .u8 ((o.2.2.1.2.val : Nat) : Int), .string o.2.2.2]
def OpV.ok (o : OpV) : Prop := o.2.2.2.size ≤ maxLen
theorem encO_len (o : OpV) : (encO o).length = 8 := rfl
theorem encO_one (o : OpV) : ∀ u ∈ encO o, u.oneCell' = true := by
  intro u hu
  simp only [encO, List.mem_cons, List.not_mem_nil, or_false] at hu
  rcases hu with rfl | rfl | rfl | rfl | rfl | rfl | rfl | rfl <;> rfl
theorem underOp : Try.prog.underlying 54 = some (.struct (Try.prog.fieldsOf 54)) := by kernel_rfl
theorem infoOp : (Try.prog.info? 54).map (·.size) = some 8 := by kernel_rfl
theorem opSl : SlT Try.prog 35 54 8 32 := slT_of (z := .agg #[.int .u8 0, .int .u8 0, .int .u16 0, .int .u8 0, .int .u8 0, .int .u16 0, .int .u8 0, .string ByteArray.empty]) Try.underlying35 (by kernel_rfl) rfl (by omega)
def oldV (v : VidV) : VidO := ⟨((v.1.1.val : Nat) : Int), ((v.1.2.val : Nat) : Int), ((v.2.val : Nat) : Int)⟩
theorem oldV_ok (v : VidV) : (oldV v).ok :=
  ⟨⟨Int.natCast_nonneg _, by have := v.1.1.isLt; show ((v.1.1.val : Nat) : Int) < 256; omega⟩, ⟨Int.natCast_nonneg _, by have := v.1.2.isLt; show ((v.1.2.val : Nat) : Int) < 65536; omega⟩, ⟨Int.natCast_nonneg _, by have := v.2.isLt; show ((v.2.val : Nat) : Int) < 256; omega⟩⟩
/-- the vertices that an operation names -/
def refsO (o : OpV) : List VidV := if o.1.val = 2 ∨ o.1.val = 3 ∨ o.1.val = 5 then [o.2.1] else if o.1.val = 4 then [o.2.1, o.2.2.1] else []
theorem refsO_le (o : OpV) : (refsO o).length ≤ 2 := by unfold refsO; split; simp; split <;> simp
theorem refsO_old (o : OpV) : refsV ((o.1.val : Nat) : Int) (oldV o.2.1) (oldV o.2.2.1) = (refsO o).map oldV := by
  unfold refsV refsO
  by_cases h1 : o.1.val = 2 ∨ o.1.val = 3 ∨ o.1.val = 5
  · rw [if_pos h1, if_pos (by omega)]; rfl
  · rw [if_neg h1, if_neg (by omega)]
    by_cases h2 : o.1.val = 4
    · rw [if_pos h2, if_pos (by omega)]; rfl
    · rw [if_neg h2, if_neg (by omega)]; rfl
theorem old_flat (l : List VidV) : (l.map oldV).flatMap VidO.cs = l.flatMap encV := by
  rw [List.flatMap_map]; rfl
def RetVs (w : World) (l : List VidV) (e : Ending) (w' : World) : Prop := ∃ A c, e = .returned (.slice A l.length c) ∧ l.length ≤ c ∧ VidsAt w' A l.length l ∧ Below w.heap.size w w'
theorem refsN (o : OpV) (w : World) : Calls Try.prog 40 #[.agg (encO o).toArray] w (RetVs w (refsO o)) := by
  have h := refs_any ((o.1.val : Nat) : Int) (oldV o.2.1) (oldV o.2.2.1) o.2.2.2 w ⟨by omega, by have := o.1.isLt; omega⟩
  rw [refsO_old, old_flat, List.length_map] at h
  exact h.mono fun _ _ ⟨A, c, he, hc, hs, hb⟩ => ⟨A, c, he, hc, ⟨rfl, hs⟩, hb⟩
theorem rrefsN (o : OpV) (w : World) : Calls Try.prog 42 #[.agg (encO o).toArray] w (RetVs w (refsO o)) := by
  have h := rrefs_any ((o.1.val : Nat) : Int) (oldV o.2.1) (oldV o.2.2.1) o.2.2.2 w ⟨by omega, by have := o.1.isLt; omega⟩
  rw [refsO_old, old_flat, List.length_map] at h
  exact h.mono fun _ _ ⟨A, c, he, hc, hs, hb⟩ => ⟨A, c, he, hc, ⟨rfl, hs⟩, hb⟩
def goodO (id : PidV) (i : Int) (o : OpV) : Bool := opGood ((id.1.val : Nat) : Int) ((id.2.val : Nat) : Int) i ((o.1.val : Nat) : Int) (oldV o.2.1) (oldV o.2.2.1) o.2.2.2
theorem goodN (id : PidV) (i : Int) (o : OpV) (ho : o.ok) (w : World) : Calls Try.prog 33 #[.agg (encP id).toArray, .int .i64 i, .agg (encO o).toArray] w (RetB w (.bool (goodO id i o))) :=
  good_any _ _ _ _ _ _ _ w ⟨by omega, by have := id.1.isLt; omega⟩ ⟨by omega, by have := id.2.isLt; omega⟩ ⟨by omega, by have := o.1.isLt; omega⟩ (oldV_ok _) (oldV_ok _) ho
theorem rgoodN (id : PidV) (i : Int) (o : OpV) (ho : o.ok) (w : World) : Calls Try.prog 56 #[.agg (encP id).toArray, .int .i64 i, .agg (encO o).toArray] w (RetB w (.bool (goodO id i o))) :=
  rgood_any _ _ _ _ _ _ _ w ⟨by omega, by have := id.1.isLt; omega⟩ ⟨by omega, by have := id.2.isLt; omega⟩ ⟨by omega, by have := o.1.isLt; omega⟩ (oldV_ok _) (oldV_ok _) ho
/-- operations in a slice -/
structure OpsAt (w : World) (A : Option Addr) (n : Nat) (l : List OpV) : Prop where
  len : l.length = n
  sl : Sl w w.heap.size 8 A n (l.flatMap encO)
  ok : ∀ o ∈ l, OpV.ok o
theorem OpsAt.ext {w w' : World} {A : Option Addr} {n : Nat} {l : List OpV} (h : OpsAt w A n l) (hb : Below w.heap.size w w') : OpsAt w' A n l := ⟨h.len, (h.sl.below hb (Nat.le_refl _)).more hb.size, h.ok⟩
theorem OpsAt.at_ {w : World} {A : Option Addr} {n : Nat} {l : List OpV} (h : OpsAt w A n l) {k : Nat} (hk : k < n) : ∃ b o x, A = some ⟨b, o, none⟩ ∧ b < w.heap.size ∧ l[k]? = some x ∧ w.rangeAt b (o + k * 8) (encO x) ∧ OpV.ok x := by
  have hk' : k < l.length := by rw [h.len]; exact hk
  obtain ⟨b, o, e, hb, hr⟩ := h.sl.rowAt h.len (fun x _ => encO_len x) hk'
  exact ⟨b, o, l[k], e, hb, List.getElem?_eq_getElem hk', hr, h.ok _ (List.getElem_mem hk')⟩
theorem OpsAt.of_own {w : World} {base n : Nat} {v : Value} {l : List OpV} (h : w.ownsRow base 54 8 v n (l.flatMap encO)) (hn : l.length = n) (ho : ∀ o ∈ l, OpV.ok o) : ∃ A c, v = .slice A n c ∧ n ≤ c ∧ OpsAt w A n l := by
  obtain ⟨A, c, rfl, hc, hs⟩ := Sl.of_own h
  exact ⟨A, c, rfl, hc, hn, hs, ho⟩
end Go.Proofs.Ytmfdggolnfoniaa
