/- Texts of general use, one behind another. -/
import Derived.Test.YtihggkmjalofiaaGreatDoorCent
import Derived.Test.YtihggkmjalofiaaGreatDoorBuild
import Derived.Test.YtihggkmjalofiaaGreatDoorPaws
import Derived.Test.YtihggkmjalofiaaGreatDoorRps

/- Are the program's rows the document's; rows as text, where all numbers are small: walked. -/
namespace Go.Proofs.YtihggkmjalofiaaGreatDoor
open Go.RowKit

theorem neqRR (r : RowR) (w : World) : (binOp .neq 109 (.agg (encR r).toArray) (.agg (encR r).toArray)).run Tryz.prog w = .ok (.bool false) w := by
 unfold encR
 simp [go_sem]
set_option maxRecDepth 100000 in
set_option maxHeartbeats 4000000 in
theorem same54_any (L : List RowR) (w : World) (A A' : Option Addr) (n c c' : Nat) (hn : L.length = n) (hm : n ≤ 1000) (h : Sl w w.heap.size 9 A n (L.flatMap encR)) (h' : Sl w w.heap.size 9 A' n (L.flatMap encR)) :
  Calls Tryz.prog 59 #[.slice A n c, .slice A' n c'] w (RetB w (.bool true)) := by
 have H := Lib.hid h
 have H' := Lib.hid h'
 have HN := Lib.hid hn
 clear h h' hn
 go_enter Tryz.func59, Tryz.ntmps59
 go_wp2_with fail
 go_loopw [5] (fun iv wr => ∃ k u : Nat, k ≤ n ∧ iv = .int .i64 ((k : Nat) : Int) ∧ wr = w.drewN u) (fun iv _ => n - (intOf iv).toNat)
 case atStart => exact ⟨0, 0, Nat.zero_le _, rfl, rfl⟩
 case round =>
  obtain ⟨k, u, hk, rfl, rfl⟩ := hrel
  have hk0 : (0 : Int) ≤ (k : Int) := by omega
  by_cases hlt : k < n
  ·have hlk : (k : Int) < (n : Int) := by omega
   obtain ⟨b, o, rfl, -, hc⟩ := H.out.2 (by omega)
   obtain ⟨b', o', rfl, -, hc'⟩ := H'.out.2 (by omega)
   obtain ⟨x, hx⟩ : ∃ x, L[k]? = some x := ⟨_, List.getElem?_eq_getElem (by rw [HN.out]; exact hlt)⟩
   have hfl : ∀ j v, (encR x)[j]? = some v → (L.flatMap encR)[k * 9 + j]? = some v ∧ k * 9 + j < n * 9 := fun j v hj => by
    have hj9 := (List.getElem?_eq_some_iff.1 hj).1
    rw [encR_len] at hj9
    have hkl : k < L.length := by rw [HN.out]; exact hlt
    refine ⟨?_, by omega⟩
    rw [flatMap_get encR L (fun x _ => encR_len x) k j hkl hj9, ← hj]
    congr 2
    exact (List.getElem?_eq_some_iff.1 hx).2
   have R1 : Hid ((w.drewN u).rangeAt b (o + k * 9) (encR x)) := fun j v hj => by
    have h1 := hfl j v hj
    have h2 := hc _ h1.2
    rw [h1.1] at h2
    rw [Nat.add_assoc]
    exact h2
   have R2 : Hid ((w.drewN u).rangeAt b' (o' + k * 9) (encR x)) := fun j v hj => by
    have h1 := hfl j v hj
    have h2 := hc' _ h1.2
    rw [h1.1] at h2
    rw [Nat.add_assoc]
    exact h2
   have NE := neqRR x
   clear hc hc' hx hfl
   go_wp2_with fail
   refine wp_region_quiet_lit (by kernel_rfl) (by kernel_rfl) ?_
   repeat (first
    | (refine wpQuiet_load_mid (rangeAt_drewN1 R1.out) underRow rfl infoRow rfl rfl ?_; simp only [List.set_cons_succ, List.set_cons_zero])
    | (refine wpQuiet_load_mid (rangeAt_drewN1 R2.out) underRR rfl infoRR rfl rfl ?_; simp only [List.set_cons_succ, List.set_cons_zero])
    | go_big_quiet_step (fail))
   refine wpQuiet_nil ?_
   rintro _ ⟨nq, rfl⟩
   clear NE R1 R2
   go_wp2_with fail
   go_roundw
   case rel => exact ⟨k + 1, u + nq, by omega, by go_num, rfl⟩
   case measure => simp [intOf]; omega
  ·have hlk : ¬ (k : Int) < (n : Int) := by omega
   go_wp2
   go_ret
   exact ⟨rfl, below_drewN (Below.refl _ _) _⟩
end Go.Proofs.YtihggkmjalofiaaGreatDoor

/- Rows as text, where all numbers are small: walked. -/
namespace Go.Proofs.YtihggkmjalofiaaGreatDoor
open Go.RowKit

theorem pats_one54 {w : World} {r : List Value} {p : PatV} (h : PatAt w r p) : PatsAt (w.alloc (.cells r.toArray 31)) (some ⟨w.heap.size, 0, none⟩) 1 [p] := by
 have h4 := h.len4
 refine ⟨rfl, [r], ⟨rfl, fun k r' p' h1 h2 => ?_⟩, by simp [h4], fun _ => ⟨w.heap.size, 0, rfl, by simp, fun j hj => ?_⟩⟩
 ·match k, h1, h2 with
  | 0, h1, h2 =>
   obtain rfl : r = r' := by simpa using h1
   obtain rfl : p = p' := by simpa using h2
   exact h.ext (below_new _ _)
  | k + 1, h1, _ => simp at h1
 ·have K : Blk (w.alloc (.cells r.toArray 31)) w.heap.size 31 r.toArray := Blk.new _ _ _
  rw [Nat.zero_add, K.cell]
  simp
theorem isB_alloc54 {B b : Nat} {bs : List Value} {w : World} (h : IsB B b bs w) (o : Obj) : IsB B b bs (w.alloc o) := by
 rcases h with h | h
 ·have hlt := h.lt
  obtain ⟨hB, v, hb, hown, hne⟩ := h
  exact .inl ⟨hB, v, (Below.heap_alloc w o b hlt).trans hb, hown.alloc o, hne⟩
 ·have hlt := h.lt
  obtain ⟨hB, v, hb, hown, hne⟩ := h
  exact .inr ⟨hB, v, (Below.heap_alloc w o b hlt).trans hb, hown.alloc o, hne⟩
theorem isB_ext54 {B b : Nat} {bs : List Value} {w w' : World} (h : IsB B b bs w) (hb : Below w.heap.size w w') : IsB B b bs w' := by
 rcases h with h | h
 ·have hlt := h.lt
  obtain ⟨hB, v, hk, hown, hne⟩ := h
  exact .inl ⟨hB, v, (hb.block b hlt).trans hk, own_ext hown hb, hne⟩
 ·have hlt := h.lt
  obtain ⟨hB, v, hk, hown, hne⟩ := h
  exact .inr ⟨hB, v, (hb.block b hlt).trans hk, own_ext hown hb, hne⟩
def smallZ (z : Int) : Prop := ∃ i : Nat, i < 100 ∧ z = (i : Int)
def numsR (r : RowR) : List Int := [r.2.1, r.2.2.1, r.2.2.2.1, r.2.2.2.2.1, r.2.2.2.2.2.1, r.2.2.2.2.2.2.1, r.2.2.2.2.2.2.2.1, r.2.2.2.2.2.2.2.2]
def smallR (r : RowR) : Prop := smallZ r.1 ∧ ∀ z ∈ numsR r, smallZ z
def decZ (z : Int) : List UInt8 := Lib.decDigits z.toNat
def bitT (z : Int) : List UInt8 := 32 :: decZ z
def headT (r : RowR) (j : Nat) : List UInt8 := decZ r.1 ++ ((numsR r).take j).flatMap bitT
def rowTx (r : RowR) : List UInt8 := headT r 8 ++ [10]
def textRows (R : List RowR) : List UInt8 := R.flatMap rowTx
theorem dec_small : ∀ i : Nat, i < 100 → (Lib.decDigits i).length ≤ 2 := by
 have h : ((List.range 100).all fun i => decide ((Lib.decDigits i).length ≤ 2)) = true := by kernel_rfl
 intro i hi
 have h2 := List.all_eq_true.1 h i (List.mem_range.2 hi)
 simpa using h2
theorem decZ_small {z : Int} (h : smallZ z) : (decZ z).length ≤ 2 := by
 obtain ⟨i, hi, rfl⟩ := h
 unfold decZ
 exact dec_small _ (by omega)
theorem flat_small {l : List Int} (h : ∀ z ∈ l, smallZ z) : (l.flatMap bitT).length ≤ l.length * 3 := by
 induction l with
 | nil => simp
 | cons z l ih =>
  have h1 := decZ_small (h z (List.mem_cons_self ..))
  have h2 := ih fun y hy => h y (List.mem_cons_of_mem _ hy)
  rw [List.flatMap_cons, List.length_append, List.length_cons]
  unfold bitT at h2 ⊢
  rw [List.length_cons]
  omega
theorem headT_len {r : RowR} (h : smallR r) (j : Nat) : (headT r j).length ≤ 30 := by
 unfold headT
 have h1 := decZ_small h.1
 have h2 := flat_small (l := (numsR r).take j) fun z hz => h.2 z (List.mem_of_mem_take hz)
 have h3 : ((numsR r).take j).length ≤ 8 := by rw [List.length_take]; show min j 8 ≤ 8; omega
 rw [List.length_append]
 omega
theorem textRows_len {R : List RowR} (h : ∀ r ∈ R, smallR r) : (textRows R).length ≤ R.length * 31 := by
 unfold textRows
 induction R with
 | nil => simp
 | cons r R ih =>
  have h1 := headT_len (h r (List.mem_cons_self ..)) 8
  have h2 := ih fun y hy => h y (List.mem_cons_of_mem _ hy)
  rw [List.flatMap_cons, List.length_append, List.length_cons]
  unfold rowTx at h2 ⊢
  rw [List.length_append, List.length_cons, List.length_nil]
  omega
theorem decS (i : Nat) : Lib.strCells ⟨(Lib.decDigits i).toArray⟩ = Lib.byteCells (Lib.decDigits i) := by rw [Lib.strCells_eq]
theorem headT_next (r : RowR) {j : Nat} {z : Int} (h : (numsR r)[j]? = some z) : headT r (j + 1) = headT r j ++ bitT z := by
 unfold headT
 rw [List.take_add_one, h, Option.toList_some, List.flatMap_append, List.append_assoc]
 simp
set_option maxRecDepth 100000 in
set_option maxHeartbeats 8000000 in
theorem print54_any (R : List RowR) (hR : ∀ r ∈ R, smallR r) (w : World) (A : Option Addr) (c n : Nat) (hn : R.length = n) (hm : n ≤ 1000) (h : Sl w w.heap.size 9 A n (R.flatMap encR)) :
  Calls Tryz.prog 57 #[.slice A n c] w (RetB w (.string ⟨(textRows R).toArray⟩)) := by
 have H := Lib.hid h
 have HR := Lib.hid hR
 have HN := Lib.hid hn
 have B0 : Hid (Below w.heap.size w (w.alloc (.cells #[.pointer none, .slice none 0 0] 227))) := below_new _ _
 have I0 : Hid (IsB w.heap.size w.heap.size [] (w.alloc (.cells #[.pointer none, .slice none 0 0] 227))) := Lib.fresh_isBuilder _ _ _
 clear h hR hn
 go_enter Tryz.func57, Tryz.ntmps57
 go_wp2_with fail
 go_loopw [10] (fun i wr => ∃ k : Nat, k ≤ n ∧ i = .int .i64 ((k : Nat) : Int) ∧ Hid (IsB w.heap.size w.heap.size (Lib.byteCells (textRows (R.take k))) wr) ∧ Hid (Below w.heap.size w wr)) (fun i _ => n - (intOf i).toNat)
 case atStart => exact ⟨0, Nat.zero_le _, rfl, by simpa [textRows, Hid, Lib.byteCells] using I0.out, B0.out⟩
 case round =>
  clear I0 B0
  obtain ⟨k, hk, rfl, I, B⟩ := hrel
  have hk0 : (0 : Int) ≤ (k : Int) := by omega
  by_cases hlt : k < n
  ·have hlk : (k : Int) < (n : Int) := by omega
   obtain ⟨b, o, rfl, hb, hc⟩ := H.out.2 (by omega)
   obtain ⟨x, hx⟩ : ∃ x, R[k]? = some x := ⟨_, List.getElem?_eq_getElem (by rw [HN.out]; exact hlt)⟩
   have R0 : w.rangeAt b (o + k * 9) (encR x) := fun j v hj => by
    have hj9 := (List.getElem?_eq_some_iff.1 hj).1
    rw [encR_len] at hj9
    have hkl : k < R.length := by rw [HN.out]; exact hlt
    have h2 := hc (k * 9 + j) (by omega)
    rw [flatMap_get encR R (fun x _ => encR_len x) k j hkl hj9, (List.getElem?_eq_some_iff.1 hx).2] at h2
    rw [Nat.add_assoc, h2]
    exact hj
   have RX := Lib.hid (rangeAt_below R0 B.out hb)
   have SM := Lib.hid (HR.out x (List.mem_of_getElem? hx))
   have LT : Hid ((textRows (R.take k)).length ≤ 31000) := by
    have h1 := textRows_len (R := R.take k) fun r hr => HR.out r (List.mem_of_mem_take hr)
    rw [List.length_take] at h1
    rw [Hid]; omega
   have TX : Hid (textRows (R.take (k + 1)) = textRows (R.take k) ++ rowTx x) := by
    rw [Hid, List.take_add_one, hx]
    unfold textRows
    rw [Option.toList_some, List.flatMap_append]
    simp
   obtain ⟨acc, hacc⟩ : ∃ a, a = textRows (R.take k) := ⟨_, rfl⟩
   rw [← hacc] at LT TX I
   clear hacc hx hb hc R0
   have KZ : Hid (Blk (wr.alloc (.cells (encR zeroR).toArray 107)) wr.heap.size 107 (encR zeroR).toArray) := Blk.new _ _ _
   have KO : Hid (Blk ((wr.alloc (.cells (encR zeroR).toArray 107)).setRow wr.heap.size (encR x).toArray) wr.heap.size 107 (encR x).toArray) := KZ.out.row _
   have BN : Hid (Below wr.heap.size wr ((wr.alloc (.cells (encR zeroR).toArray 107)).setRow wr.heap.size (encR x).toArray)) := below_setRow (below_new wr _) (Nat.le_refl _) _
   have I1 : Hid (IsB w.heap.size w.heap.size (Lib.byteCells acc) ((wr.alloc (.cells (encR zeroR).toArray 107)).setRow wr.heap.size (encR x).toArray)) := isB_ext54 I.out BN.out
   go_upto_region 5 with (first
    | (refine wpList_load_mid rfl 107 _ (by rfl) b (o + k * 9) (by rfl) _ _ RX.out underRow rfl infoRow ?_)
    | (refine wpList_alloced (allocRow _) ?_)
    | (refine wpList_store_row rfl 107 _ _ (by rfl) wr.heap.size (encR x).toArray (by rfl) (by rfl) _ _ KZ.out infoRow rfl (all_oneCell_toArray (encR_one x)) ?_))
   have B1 := Lib.hid (B.out.trans (BN.out.mono B.out.size))
   generalize ((wr.alloc (.cells (encR zeroR).toArray 107)).setRow wr.heap.size (encR x).toArray) = w1 at *
   generalize wr.heap.size = gr at *
   clear KZ BN RX I B
   obtain ⟨i0, hi0, he0⟩ := SM.out.1
   have y0 : w1.cell? ⟨gr, 0, none⟩ = some (.int .u8 ((i0 : Nat) : Int)) := by rw [← he0]; exact KO.out.cell 0
   have hd0 : Hid (decZ x.1 = Lib.decDigits i0) := by rw [Hid, he0]; unfold decZ; rfl
   have hl0 := Lib.hid (dec_small i0 hi0)
   clear he0
   go_wp2_with fail
   refine (Tryz.strconv_Itoa_small i0 hi0 w1).mono ?_
   rintro e w1 ⟨rfl, rfl⟩
   clear y0
   have HW := Lib.hid (writeString_any w.heap.size w.heap.size (Lib.byteCells acc) ⟨(Lib.decDigits i0).toArray⟩ w1 I1.out (by
    have h1 := LT.out
    have h2 := hl0.out
    rw [Lib.byteCells_length]
    show _ + (Lib.decDigits i0).toArray.size ≤ _
    rw [List.size_toArray]
    omega))
   go_wp2_with fail
   refine HW.out.mono ?_
   rintro e w2 ⟨rfl, i2, b2, s2⟩
   have I2 : Hid (IsB w.heap.size w.heap.size (Lib.byteCells (acc ++ headT x 0)) w2) := by
    have h1 := i2
    rw [decS, ← Lib.byteCells_append] at h1
    unfold headT
    rw [List.take_zero, List.flatMap_nil, List.append_nil, hd0.out]
    exact h1
   have K2 := Lib.hid (s2 gr _ _ KO.out (by decide) (by decide))
   have B2 := Lib.hid (B1.out.trans b2)
   clear i2 b2 s2 HW KO I1 B1 hl0 hd0
   have z1 : w2.cell? ⟨gr, 1, none⟩ = some (.int .i64 x.2.1) := K2.out.cell 1
   have z2 : w2.cell? ⟨gr, 2, none⟩ = some (.int .i64 x.2.2.1) := K2.out.cell 2
   have z3 : w2.cell? ⟨gr, 3, none⟩ = some (.int .i64 x.2.2.2.1) := K2.out.cell 3
   have z4 : w2.cell? ⟨gr, 4, none⟩ = some (.int .i64 x.2.2.2.2.1) := K2.out.cell 4
   have z5 : w2.cell? ⟨gr, 5, none⟩ = some (.int .i64 x.2.2.2.2.2.1) := K2.out.cell 5
   have z6 : w2.cell? ⟨gr, 6, none⟩ = some (.int .i64 x.2.2.2.2.2.2.1) := K2.out.cell 6
   have z7 : w2.cell? ⟨gr, 7, none⟩ = some (.int .i64 x.2.2.2.2.2.2.2.1) := K2.out.cell 7
   have z8 : w2.cell? ⟨gr, 8, none⟩ = some (.int .i64 x.2.2.2.2.2.2.2.2) := K2.out.cell 8
   have KI : Hid (Blk (w2.alloc (.cells #[.int .i64 x.2.1, .int .i64 x.2.2.1, .int .i64 x.2.2.2.1, .int .i64 x.2.2.2.2.1, .int .i64 x.2.2.2.2.2.1, .int .i64 x.2.2.2.2.2.2.1, .int .i64 x.2.2.2.2.2.2.2.1, .int .i64 x.2.2.2.2.2.2.2.2] 3)) w2.heap.size 3 ((numsR x).map fun z => Value.int .i64 z).toArray) := Blk.new _ _ _
   have I3 := Lib.hid (isB_alloc54 I2.out (.cells #[.int .i64 x.2.1, .int .i64 x.2.2.1, .int .i64 x.2.2.2.1, .int .i64 x.2.2.2.2.1, .int .i64 x.2.2.2.2.2.1, .int .i64 x.2.2.2.2.2.2.1, .int .i64 x.2.2.2.2.2.2.2.1, .int .i64 x.2.2.2.2.2.2.2.2] 3))
   have B3 := Lib.hid (B2.out.alloc B2.out.size (.cells #[.int .i64 x.2.1, .int .i64 x.2.2.1, .int .i64 x.2.2.2.1, .int .i64 x.2.2.2.2.1, .int .i64 x.2.2.2.2.2.1, .int .i64 x.2.2.2.2.2.2.1, .int .i64 x.2.2.2.2.2.2.2.1, .int .i64 x.2.2.2.2.2.2.2.2] 3))
   go_wp2_with fail
   clear z1 z2 z3 z4 z5 z6 z7 z8 K2 I2 B2
   generalize (w2.alloc (.cells #[.int .i64 x.2.1, .int .i64 x.2.2.1, .int .i64 x.2.2.2.1, .int .i64 x.2.2.2.2.1, .int .i64 x.2.2.2.2.2.1, .int .i64 x.2.2.2.2.2.2.1, .int .i64 x.2.2.2.2.2.2.2.1, .int .i64 x.2.2.2.2.2.2.2.2] 3)) = w3 at *
   generalize w2.heap.size = gi at *
   go_loopw [37] (fun i ws => ∃ j : Nat, j ≤ 8 ∧ i = .int .i64 ((j : Nat) : Int) ∧ Hid (IsB w.heap.size w.heap.size (Lib.byteCells (acc ++ headT x j)) ws) ∧ Hid (Blk ws gi 3 ((numsR x).map fun z => Value.int .i64 z).toArray) ∧ Hid (Below w.heap.size w ws)) (fun i _ => 8 - (intOf i).toNat)
   case atStart => exact ⟨0, by omega, rfl, I3.out, KI.out, B3.out⟩
   case round =>
    clear I3 KI B3
    obtain ⟨j, hj, rfl, I, KI, B⟩ := hrel
    have hj0 : (0 : Int) ≤ (j : Int) := by omega
    by_cases hjt : j < 8
    ·have hjk : (j : Int) < 8 := by omega
     obtain ⟨z, hz⟩ : ∃ z, (numsR x)[j]? = some z := ⟨_, List.getElem?_eq_getElem (by show j < 8; exact hjt)⟩
     obtain ⟨iz, hiz, hez⟩ := SM.out.2 z (List.mem_of_getElem? hz)
     have yj : wr.cell? ⟨gi, j, none⟩ = some (.int .i64 ((iz : Nat) : Int)) := by
      rw [KI.out.cell, List.getElem?_toArray, List.getElem?_map, hz, hez]; rfl
     have HX := Lib.hid (headT_next x hz)
     have hdz : Hid (bitT z = 32 :: Lib.decDigits iz) := by rw [Hid, hez]; unfold bitT decZ; rfl
     have hlz := Lib.hid (dec_small iz hiz)
     have hlh := Lib.hid (headT_len SM.out j)
     clear hz hez
     have HB := Lib.hid (writeByte_any w.heap.size w.heap.size (Lib.byteCells (acc ++ headT x j)) 32 wr I.out (by
      have h1 := LT.out
      have h2 := hlh.out
      rw [Lib.byteCells_length, List.length_append]
      omega))
     go_wp2_with fail
     clear yj
     refine HB.out.mono ?_
     rintro e w4 ⟨rfl, i4, b4, s4⟩
     have K4 := Lib.hid (s4 gi _ _ KI.out (by decide) (by decide))
     have B4 := Lib.hid (B.out.trans b4)
     have I4 : Hid (IsB w.heap.size w.heap.size (Lib.byteCells (acc ++ headT x j ++ [32])) w4) := by
      have h1 := i4
      rw [Hid, Lib.byteCells_append]
      exact h1
     clear i4 b4 s4 HB I KI B
     go_wp2_with fail
     refine (Tryz.strconv_Itoa_small iz hiz w4).mono ?_
     rintro e w4 ⟨rfl, rfl⟩
     have HW := Lib.hid (writeString_any w.heap.size w.heap.size (Lib.byteCells (acc ++ headT x j ++ [32])) ⟨(Lib.decDigits iz).toArray⟩ w4 I4.out (by
      have h1 := LT.out
      have h2 := hlz.out
      have h3 := hlh.out
      rw [Lib.byteCells_length, List.length_append, List.length_append]
      show _ + (Lib.decDigits iz).toArray.size ≤ _
      rw [List.size_toArray, List.length_cons, List.length_nil]
      omega))
     go_wp2_with fail
     refine HW.out.mono ?_
     rintro e w5 ⟨rfl, i5, b5, s5⟩
     have K5 := Lib.hid (s5 gi _ _ K4.out (by decide) (by decide))
     have B5 := Lib.hid (B4.out.trans b5)
     have I5 : Hid (IsB w.heap.size w.heap.size (Lib.byteCells (acc ++ headT x (j + 1))) w5) := by
      have h1 := i5
      rw [decS, ← Lib.byteCells_append] at h1
      rw [Hid, HX.out, hdz.out]
      simpa using h1
     clear i5 b5 s5 HW I4 K4 B4
     go_wp2_with fail
     go_roundw
     case rel => exact ⟨j + 1, by omega, by go_num, I5.out, K5.out, B5.out⟩
     case measure => simp [intOf]; omega
    ·have hjk : ¬ (j : Int) < 8 := by omega
     obtain rfl : j = 8 := by omega
     have hlh := Lib.hid (headT_len SM.out 8)
     have HB := Lib.hid (writeByte_any w.heap.size w.heap.size (Lib.byteCells (acc ++ headT x 8)) 10 wr I.out (by
      have h1 := LT.out
      have h2 := hlh.out
      rw [Lib.byteCells_length, List.length_append]
      omega))
     go_wp2_with fail
     refine HB.out.mono ?_
     rintro e w4 ⟨rfl, i4, b4, s4⟩
     have B4 := Lib.hid (B.out.trans b4)
     have I4 : Hid (IsB w.heap.size w.heap.size (Lib.byteCells (textRows (R.take (k + 1)))) w4) := by
      have h1 := i4
      rw [Hid, TX.out]
      unfold rowTx
      rw [← List.append_assoc, Lib.byteCells_append]
      exact h1
     clear i4 b4 s4 HB I KI B
     go_wp2_with fail
     go_roundw
     case rel => exact ⟨k + 1, by omega, by go_num, I4.out, B4.out⟩
     case measure => simp [intOf]; omega
  ·have hlk : ¬ (k : Int) < (n : Int) := by omega
   rw [List.take_of_length_le (by rw [HN.out]; omega)] at I
   go_wp2_with fail
   refine (Tryz.Builder_String_any w.heap.size w.heap.size (textRows R) wr I.out B.out.size).mono ?_
   rintro e w2 ⟨rfl, b2⟩
   have B2 := Lib.hid (B.out.trans b2)
   clear b2
   go_wp2
   go_ret
   exact ⟨rfl, B2.out⟩
end Go.Proofs.YtihggkmjalofiaaGreatDoor

/- The chapter's example of a census; whether the rows of patches are the document's: walked. -/
namespace Go.Proofs.YtihggkmjalofiaaGreatDoor
open Go.RowKit

def w54id : PidV := (1, 1)
def w54a : OpV := (1, vid0, vid0, ByteArray.empty)
def w54b : OpV := (2, vidOf w54id 0, vid0, ⟨#[110]⟩)
def w54l : List OpV := [w54a, w54b]
def w54p : PatV := (w54id, [], w54l)
theorem w54_made : makeV18 w54id w54l = w54p ∧ makeN18 w54id w54l = 0 := ⟨by kernel_rfl, by kernel_rfl⟩
theorem w54_rows : rowsC (runG [] [w54p]) = [(1, 1, 11, 1, 1, 0, 0, 0, 2)] := by kernel_rfl
theorem w54_small : ∀ r ∈ [((1, 1, 11, 1, 1, 0, 0, 0, 2) : RowR)], smallR r := by
 intro r hr
 rw [List.mem_singleton] at hr
 subst hr
 refine ⟨⟨1, by omega, rfl⟩, fun z hz => ?_⟩
 simp only [numsR, List.mem_cons, List.not_mem_nil, or_false] at hz
 rcases hz with rfl | rfl | rfl | rfl | rfl | rfl | rfl | rfl
 ·exact ⟨1, by omega, rfl⟩
 ·exact ⟨11, by omega, rfl⟩
 ·exact ⟨1, by omega, rfl⟩
 ·exact ⟨1, by omega, rfl⟩
 ·exact ⟨0, by omega, rfl⟩
 ·exact ⟨0, by omega, rfl⟩
 ·exact ⟨0, by omega, rfl⟩
 ·exact ⟨2, by omega, rfl⟩
theorem w54_ops (w : World) : OpsAt (w.alloc (.cells [encO w54a, encO w54b].flatten.toArray 122)) (some ⟨w.heap.size, 0, none⟩) 2 w54l := ops_new w w54l (by simp [OpV.ok, w54l, w54a, w54b, maxLen]; decide)
theorem build_w54a (w : World) : (Instr.build 122 #[(0, .int .u8 1)]).run Tryz.prog w = .ok (.agg (encO w54a).toArray) w := by kernel_rfl
theorem build_w54b (w : World) : (Instr.build 122 #[(0, .int .u8 2), (1, .agg (encV (vidOf w54id 0)).toArray), (3, .string ⟨#[110]⟩)]).run Tryz.prog w = .ok (.agg (encO w54b).toArray) w := by kernel_rfl
/-- a patch's operations (16 cells) do not lie in a block of four -/
theorem w54_kept {w : World} {g : Nat} {t : TypeId} {z : Array Value} {r : List Value} (K : Blk w g t z) (hz : z.size = 4) (h : PatAt w r w54p) (cs : Array Value) : PatAt (w.setRow g cs) r w54p := by
 obtain ⟨⟨A, c, A', c', rfl, P, O1, O2, O3⟩, m1, m2⟩ := h
 refine ⟨⟨A, c, A', c', rfl, ⟨P.1, P.2.1, fun h => absurd h (by decide)⟩, O1, ⟨O2.1, fun hn => ?_⟩, O3⟩, m1, m2⟩
 obtain ⟨b, o, e, hb, R⟩ := O2.2 hn
 have hne : b ≠ g := fun hbg => by
  subst hbg
  have h15 := (R 15 (by decide)).symm.trans (K.cell (o + 15))
  rw [Array.getElem?_eq_none (by omega)] at h15
  have h : ((w54p.2.2.flatMap encO)[15]?).isSome = true := by kernel_rfl
  rw [h15] at h
  cases h
 exact ⟨b, o, e, by simpa using hb, fun j hj => (World.cell?_of_block (a := ⟨b, o + j, none⟩) (setRow_other w g b cs hne)).trans (R j hj)⟩
theorem blk_range54 {w : World} {g : Nat} {t : TypeId} {l : List Value} (h : Blk w g t l.toArray) : w.rangeAt g 0 l := fun j v hv => by
 rw [Nat.zero_add, h.cell j]; simpa using hv
set_option maxRecDepth 100000 in
set_option maxHeartbeats 8000000 in
theorem works54 (w : World) : Calls Tryz.prog 51 #[] w (RetB w (.bool true)) := by
 have HM := Lib.hid (fun (u : World) (A : Option Addr) (h : OpsAt u A 2 w54l) => make18_any w54id w54l u A 2 2 (by omega) h)
 rw [w54_made.1, w54_made.2] at HM
 have hcV : ∀ args u, (callFunc 131 args).run Tryz.prog u = .ok (.enter 131 args) u := enters_of Tryz.func131 (by kernel_rfl) rfl
 have hcM : ∀ args u, (callFunc 130 args).run Tryz.prog u = .ok (.enter 130 args) u := enters_of Tryz.func130 (by kernel_rfl) rfl
 have KA : Hid (Blk (w.alloc (.cells #[.int .u8 1, .int .u16 1] 27)) w.heap.size 27 (encP w54id).toArray) := Blk.new _ _ _
 have B1 : Hid (Below w.heap.size w (w.alloc (.cells #[.int .u8 1, .int .u16 1] 27))) := below_new _ _
 go_enter Tryz.func51, Tryz.ntmps51
 go_upto_region 2 with fail
 generalize (w.alloc (.cells #[.int .u8 1, .int .u16 1] 27)) = w2 at *
 have RA := Lib.hid (fun (u : World) (hu : Below w2.heap.size w2 u) => blk_range54 (KA.out.ext hu))
 clear KA
 obtain ⟨ga, hga⟩ : ∃ ga, ga = w.heap.size := ⟨_, rfl⟩
 simp only [← hga] at RA ⊢
 replace hga := Lib.hid hga
 go_cut [2, 3] (fun e1 e2 wx => ∃ g A c A' c', e1 = .pointer (some ⟨g, 0, none⟩) ∧ e2 = .int .i64 0 ∧ Blk wx g 31 (patC w54p.1 A w54p.2.1.length c A' w54p.2.2.length c').toArray ∧ PatAt wx (patC w54p.1 A w54p.2.1.length c A' w54p.2.2.length c') w54p ∧ Below ga w wx)
 case first =>
  refine wp_region_held (S := fun w' => Below w2.heap.size w2 w') mixedS ?_
  change wpAnyH _ _ _ _ _ _ _ _ w2.drew
  have B21 : Hid (Below w2.heap.size w2 w2.drew) := (Below.refl _ _).drew
  generalize w2.drew = w21 at B21 ⊢
  simp only [List.size_toArray, List.length_cons, List.length_nil]
  refine takeV (i := 0) (d := 6) (v := .agg (encP w54id).toArray) rfl (by kernel_rfl) (by kernel_rfl) (by kernel_rfl) (fun _ _ _ h => h) rfl (fun w' h => exMid rfl (RA.out w' h) underPid rfl infoPid) B21.out ?_
  simp only [Act.put, List.setIfInBounds_toArray, List.set_cons_zero, List.set_cons_succ]
  refine takeV (i := 1) (d := 7) (v := .agg (encO w54a).toArray) rfl (by kernel_rfl) (by kernel_rfl) (by kernel_rfl) (fun _ _ _ h => h) rfl (fun w' _ => exBuild (vs := #[(0, .int .u8 1)]) (by simp only [List.map_toArray, List.map_cons, List.map_nil]; rfl) (build_w54a w')) B21.out ?_
  simp only [Act.put, List.setIfInBounds_toArray, List.set_cons_zero, List.set_cons_succ]
  refine takeV (i := 2) (d := 8) (v := .agg (encP w54id).toArray) rfl (by kernel_rfl) (by kernel_rfl) (by kernel_rfl) (fun _ _ _ h => h) rfl (fun w' h => exMid rfl (RA.out w' h) underPid rfl infoPid) B21.out ?_
  simp only [Act.put, List.setIfInBounds_toArray, List.set_cons_zero, List.set_cons_succ]
  refine wpAnyH_all (rs := [3, 10]) (by kernel_rfl) (by simp) ?_
  intro i hi
  simp only [List.mem_cons, List.not_mem_nil, or_false] at hi
  rcases hi with rfl | rfl
  ·refine wpOp_of rfl rfl (wp_called (args := #[.agg (encP w54id).toArray, .int .i64 0]) hcV (by simp only [List.map_toArray, List.map_cons, List.map_nil]; rfl) (vid18_any w54id 0 w21) ?_)
   rintro e w_1 ⟨rfl, h_2⟩
   refine ⟨_, rfl, ext_trans B21.out h_2, ?_⟩
   simp only [Act.put, List.setIfInBounds_toArray, List.set_cons_zero, List.set_cons_succ]
   have B_3 := Lib.hid (ext_trans B21.out h_2)
   clear B21
   clear h_2
   refine takeV (i := 4) (d := 10) (v := .agg (encO w54b).toArray) rfl (by kernel_rfl) (by kernel_rfl) (by kernel_rfl) (fun _ _ _ h => h) rfl (fun w' _ => exBuild (vs := #[(0, .int .u8 2), (1, .agg (encV (vidOf w54id 0)).toArray), (3, .string ⟨#[110]⟩)]) (by simp only [List.map_toArray, List.map_cons, List.map_nil]; rfl) (build_w54b w')) B_3.out ?_
   simp only [Act.put, List.setIfInBounds_toArray, List.set_cons_zero, List.set_cons_succ]
   refine wpAnyH_all (rs := [5, 10]) (by kernel_rfl) (by simp) ?_
   intro i hi
   simp only [List.mem_cons, List.not_mem_nil, or_false] at hi
   rcases hi with rfl | rfl
   ·have P_6 := Lib.hid (w54_ops w_1)
    have h_7 : Below w_1.heap.size w_1 (w_1.alloc (.cells [encO w54a, encO w54b].flatten.toArray 122)) := below_new _ _
    refine wpOp_of rfl rfl (wp_lits opSl [encO w54a, encO w54b] rfl (by simp) (by simp [encO]) (by simp) (by simp only [List.map_toArray, List.map_cons, List.map_nil]; rfl) ?_)
    refine ⟨ext_trans B_3.out h_7, ?_⟩
    simp only [Act.put, List.setIfInBounds_toArray, List.set_cons_zero, List.set_cons_succ]
    generalize (w_1.alloc (.cells [encO w54a, encO w54b].flatten.toArray 122)) = w_4 at *
    have B_8 := Lib.hid (ext_trans B_3.out h_7)
    clear B_3
    clear h_7
    generalize w_1.heap.size = g_5 at *
    refine wpAnyH_all (rs := [6, 10]) (by kernel_rfl) (by simp) ?_
    intro i hi
    simp only [List.mem_cons, List.not_mem_nil, or_false] at hi
    rcases hi with rfl | rfl
    ·refine wpOp_of rfl rfl (wp_called (args := #[.agg (encP w54id).toArray, .slice (some ⟨g_5, 0, none⟩) 2 2]) hcM (by simp only [List.map_toArray, List.map_cons, List.map_nil]; rfl) (HM.out w_4 _ P_6.out) ?_)
     rintro e w_9 ⟨_, rfl, p_12, h_10⟩
     have P_11 := Lib.hid p_12
     obtain ⟨⟨A_13, c_14, A_15, c_16, rfl, _, _⟩, _, _⟩ := p_12
     refine ⟨_, rfl, ext_trans B_8.out h_10, ?_⟩
     simp only [Act.put, List.setIfInBounds_toArray, List.set_cons_zero, List.set_cons_succ]
     have B_17 := Lib.hid (ext_trans B_8.out h_10)
     have F_18 := Lib.hid (P_6.out.ext h_10)
     clear B_8 P_6
     clear h_10
     refine takeV (i := 7) (d := 5) (v := .tuple #[.agg (patC w54p.1 A_13 w54p.2.1.length c_14 A_15 w54p.2.2.length c_16).toArray, .int .i64 0]) rfl (by kernel_rfl) (by kernel_rfl) (by kernel_rfl) (fun _ _ _ h => h) rfl (fun _ _ => exMove (v := .tuple #[.agg (patC w54p.1 A_13 w54p.2.1.length c_14 A_15 w54p.2.2.length c_16).toArray, .int .i64 0]) rfl) B_17.out ?_
     simp only [Act.put, List.setIfInBounds_toArray, List.set_cons_zero, List.set_cons_succ]
     refine takeV (i := 8) (d := 13) (v := .agg (patC w54p.1 A_13 w54p.2.1.length c_14 A_15 w54p.2.2.length c_16).toArray) rfl (by kernel_rfl) (by kernel_rfl) (by kernel_rfl) (fun _ _ _ h => h) rfl (fun _ _ => exExtract (v := .agg (patC w54p.1 A_13 w54p.2.1.length c_14 A_15 w54p.2.2.length c_16).toArray) rfl rfl) B_17.out ?_
     simp only [Act.put, List.setIfInBounds_toArray, List.set_cons_zero, List.set_cons_succ]
     refine takeV (i := 9) (d := 14) (v := .int .i64 0) rfl (by kernel_rfl) (by kernel_rfl) (by kernel_rfl) (fun _ _ _ h => h) rfl (fun _ _ => exExtract (v := .int .i64 0) rfl rfl) B_17.out ?_
     simp only [Act.put, List.setIfInBounds_toArray, List.set_cons_zero, List.set_cons_succ]
     refine wpAnyH_all (rs := [10]) (by kernel_rfl) (by simp) ?_
     intro i hi
     simp only [List.mem_cons, List.not_mem_nil, or_false] at hi
     subst hi
     refine wpOp_of rfl rfl (wp_alloced (allocPat _) ?_)
     refine ⟨ext_trans B_17.out (below_new _ _), ?_⟩
     simp only [Act.put, List.setIfInBounds_toArray, List.set_cons_zero, List.set_cons_succ]
     have K_19 : Hid (Blk (w_9.alloc (.cells #[.int .u8 0, .int .u16 0, .slice none 0 0, .slice none 0 0] 31)) w_9.heap.size 31 #[.int .u8 0, .int .u16 0, .slice none 0 0, .slice none 0 0]) := Blk.new _ _ _
     have h_20 : Below w_9.heap.size w_9 (w_9.alloc (.cells #[.int .u8 0, .int .u16 0, .slice none 0 0, .slice none 0 0] 31)) := below_new _ _
     have gz_22 : Hid (w2.heap.size ≤ w_9.heap.size) := B_17.out.size
     generalize (w_9.alloc (.cells #[.int .u8 0, .int .u16 0, .slice none 0 0, .slice none 0 0] 31)) = w_21 at *
     have B_24 := Lib.hid (ext_trans B_17.out h_20)
     have F_25 := Lib.hid (F_18.out.ext h_20)
     have F_26 := Lib.hid (P_11.out.ext h_20)
     clear B_17 F_18 P_11
     clear h_20
     generalize w_9.heap.size = g_23 at *
     refine wpAnyH_all (rs := [11]) (by kernel_rfl) (by simp) ?_
     intro i hi
     simp only [List.mem_cons, List.not_mem_nil, or_false] at hi
     subst hi
     refine wpOp_of rfl rfl (wp_stored (cs := (patC w54p.1 A_13 w54p.2.1.length c_14 A_15 w54p.2.2.length c_16).toArray) rfl rfl K_19.out (show (Tryz.prog.info? 31).map (·.size) = some ((patC w54p.1 A_13 w54p.2.1.length c_14 A_15 w54p.2.2.length c_16).toArray : Array Value).size from infoPat) rfl patC_one ?_)
     have K_27 := Lib.hid (K_19.out.row (patC w54p.1 A_13 w54p.2.1.length c_14 A_15 w54p.2.2.length c_16).toArray)
     have M_29 := Lib.hid (w54_kept K_19.out rfl F_26.out (patC w54p.1 A_13 w54p.2.1.length c_14 A_15 w54p.2.2.length c_16).toArray)
     have B_28 := Lib.hid (below_setRow B_24.out gz_22.out (patC w54p.1 A_13 w54p.2.1.length c_14 A_15 w54p.2.2.length c_16).toArray)
     refine ⟨B_28.out, ?_⟩
     clear B_24 F_25 F_26 K_19
     generalize (w_21.setRow g_23 (patC w54p.1 A_13 w54p.2.1.length c_14 A_15 w54p.2.2.length c_16).toArray) = w_30 at *
     refine takeV (i := 12) (d := 3) (v := .int .i64 0) rfl (by kernel_rfl) (by kernel_rfl) (by kernel_rfl) (fun _ _ _ h => h) rfl (fun _ _ => exAssign (v := .int .i64 0) rfl) B_28.out ?_
     simp only [Act.put, List.setIfInBounds_toArray, List.set_cons_zero, List.set_cons_succ]
     refine wpAnyH_done (by kernel_rfl) ?_ _
     have BF := Lib.hid (B1.out.trans (B_28.out.mono B1.out.size))
     go_wp2_with fail
     go_meet
     case rel => exact ⟨g_23, _, _, _, _, rfl, rfl, K_27.out, M_29.out, (by rw [hga.out]; exact BF.out)⟩
    ·refine wpOp_of rfl rfl (wp_alloced (allocPat _) ?_)
     refine ⟨ext_trans B_8.out (below_new _ _), ?_⟩
     simp only [Act.put, List.setIfInBounds_toArray, List.set_cons_zero, List.set_cons_succ]
     have K_31 : Hid (Blk (w_4.alloc (.cells #[.int .u8 0, .int .u16 0, .slice none 0 0, .slice none 0 0] 31)) w_4.heap.size 31 #[.int .u8 0, .int .u16 0, .slice none 0 0, .slice none 0 0]) := Blk.new _ _ _
     have h_32 : Below w_4.heap.size w_4 (w_4.alloc (.cells #[.int .u8 0, .int .u16 0, .slice none 0 0, .slice none 0 0] 31)) := below_new _ _
     have gz_34 : Hid (w2.heap.size ≤ w_4.heap.size) := B_8.out.size
     generalize (w_4.alloc (.cells #[.int .u8 0, .int .u16 0, .slice none 0 0, .slice none 0 0] 31)) = w_33 at *
     have B_36 := Lib.hid (ext_trans B_8.out h_32)
     have F_37 := Lib.hid (P_6.out.ext h_32)
     clear B_8 P_6
     clear h_32
     generalize w_4.heap.size = g_35 at *
     refine wpAnyH_all (rs := [6]) (by kernel_rfl) (by simp) ?_
     intro i hi
     simp only [List.mem_cons, List.not_mem_nil, or_false] at hi
     subst hi
     refine wpOp_of rfl rfl (wp_called (args := #[.agg (encP w54id).toArray, .slice (some ⟨g_5, 0, none⟩) 2 2]) hcM (by simp only [List.map_toArray, List.map_cons, List.map_nil]; rfl) (HM.out w_33 _ F_37.out) ?_)
     rintro e w_38 ⟨_, rfl, p_41, h_39⟩
     have P_40 := Lib.hid p_41
     obtain ⟨⟨A_42, c_43, A_44, c_45, rfl, _, _⟩, _, _⟩ := p_41
     refine ⟨_, rfl, ext_trans B_36.out h_39, ?_⟩
     simp only [Act.put, List.setIfInBounds_toArray, List.set_cons_zero, List.set_cons_succ]
     have B_46 := Lib.hid (ext_trans B_36.out h_39)
     have F_47 := Lib.hid (F_37.out.ext h_39)
     have F_48 := Lib.hid (K_31.out.ext h_39)
     clear B_36 F_37 K_31
     clear h_39
     refine takeV (i := 7) (d := 5) (v := .tuple #[.agg (patC w54p.1 A_42 w54p.2.1.length c_43 A_44 w54p.2.2.length c_45).toArray, .int .i64 0]) rfl (by kernel_rfl) (by kernel_rfl) (by kernel_rfl) (fun _ _ _ h => h) rfl (fun _ _ => exMove (v := .tuple #[.agg (patC w54p.1 A_42 w54p.2.1.length c_43 A_44 w54p.2.2.length c_45).toArray, .int .i64 0]) rfl) B_46.out ?_
     simp only [Act.put, List.setIfInBounds_toArray, List.set_cons_zero, List.set_cons_succ]
     refine takeV (i := 8) (d := 13) (v := .agg (patC w54p.1 A_42 w54p.2.1.length c_43 A_44 w54p.2.2.length c_45).toArray) rfl (by kernel_rfl) (by kernel_rfl) (by kernel_rfl) (fun _ _ _ h => h) rfl (fun _ _ => exExtract (v := .agg (patC w54p.1 A_42 w54p.2.1.length c_43 A_44 w54p.2.2.length c_45).toArray) rfl rfl) B_46.out ?_
     simp only [Act.put, List.setIfInBounds_toArray, List.set_cons_zero, List.set_cons_succ]
     refine takeV (i := 9) (d := 14) (v := .int .i64 0) rfl (by kernel_rfl) (by kernel_rfl) (by kernel_rfl) (fun _ _ _ h => h) rfl (fun _ _ => exExtract (v := .int .i64 0) rfl rfl) B_46.out ?_
     simp only [Act.put, List.setIfInBounds_toArray, List.set_cons_zero, List.set_cons_succ]
     refine wpAnyH_all (rs := [11]) (by kernel_rfl) (by simp) ?_
     intro i hi
     simp only [List.mem_cons, List.not_mem_nil, or_false] at hi
     subst hi
     refine wpOp_of rfl rfl (wp_stored (cs := (patC w54p.1 A_42 w54p.2.1.length c_43 A_44 w54p.2.2.length c_45).toArray) rfl rfl F_48.out (show (Tryz.prog.info? 31).map (·.size) = some ((patC w54p.1 A_42 w54p.2.1.length c_43 A_44 w54p.2.2.length c_45).toArray : Array Value).size from infoPat) rfl patC_one ?_)
     have K_49 := Lib.hid (F_48.out.row (patC w54p.1 A_42 w54p.2.1.length c_43 A_44 w54p.2.2.length c_45).toArray)
     have M_51 := Lib.hid (w54_kept F_48.out rfl P_40.out (patC w54p.1 A_42 w54p.2.1.length c_43 A_44 w54p.2.2.length c_45).toArray)
     have B_50 := Lib.hid (below_setRow B_46.out gz_34.out (patC w54p.1 A_42 w54p.2.1.length c_43 A_44 w54p.2.2.length c_45).toArray)
     refine ⟨B_50.out, ?_⟩
     clear B_46 F_47 F_48 P_40
     generalize (w_38.setRow g_35 (patC w54p.1 A_42 w54p.2.1.length c_43 A_44 w54p.2.2.length c_45).toArray) = w_52 at *
     refine takeV (i := 12) (d := 3) (v := .int .i64 0) rfl (by kernel_rfl) (by kernel_rfl) (by kernel_rfl) (fun _ _ _ h => h) rfl (fun _ _ => exAssign (v := .int .i64 0) rfl) B_50.out ?_
     simp only [Act.put, List.setIfInBounds_toArray, List.set_cons_zero, List.set_cons_succ]
     refine wpAnyH_done (by kernel_rfl) ?_ _
     have BF := Lib.hid (B1.out.trans (B_50.out.mono B1.out.size))
     go_wp2_with fail
     go_meet
     case rel => exact ⟨g_35, _, _, _, _, rfl, rfl, K_49.out, M_51.out, (by rw [hga.out]; exact BF.out)⟩
   ·refine wpOp_of rfl rfl (wp_alloced (allocPat _) ?_)
    refine ⟨ext_trans B_3.out (below_new _ _), ?_⟩
    simp only [Act.put, List.setIfInBounds_toArray, List.set_cons_zero, List.set_cons_succ]
    have K_53 : Hid (Blk (w_1.alloc (.cells #[.int .u8 0, .int .u16 0, .slice none 0 0, .slice none 0 0] 31)) w_1.heap.size 31 #[.int .u8 0, .int .u16 0, .slice none 0 0, .slice none 0 0]) := Blk.new _ _ _
    have h_54 : Below w_1.heap.size w_1 (w_1.alloc (.cells #[.int .u8 0, .int .u16 0, .slice none 0 0, .slice none 0 0] 31)) := below_new _ _
    have gz_56 : Hid (w2.heap.size ≤ w_1.heap.size) := B_3.out.size
    generalize (w_1.alloc (.cells #[.int .u8 0, .int .u16 0, .slice none 0 0, .slice none 0 0] 31)) = w_55 at *
    have B_58 := Lib.hid (ext_trans B_3.out h_54)
    clear B_3
    clear h_54
    generalize w_1.heap.size = g_57 at *
    refine wpAnyH_all (rs := [5]) (by kernel_rfl) (by simp) ?_
    intro i hi
    simp only [List.mem_cons, List.not_mem_nil, or_false] at hi
    subst hi
    have P_61 := Lib.hid (w54_ops w_55)
    have h_62 : Below w_55.heap.size w_55 (w_55.alloc (.cells [encO w54a, encO w54b].flatten.toArray 122)) := below_new _ _
    refine wpOp_of rfl rfl (wp_lits opSl [encO w54a, encO w54b] rfl (by simp) (by simp [encO]) (by simp) (by simp only [List.map_toArray, List.map_cons, List.map_nil]; rfl) ?_)
    refine ⟨ext_trans B_58.out h_62, ?_⟩
    simp only [Act.put, List.setIfInBounds_toArray, List.set_cons_zero, List.set_cons_succ]
    generalize (w_55.alloc (.cells [encO w54a, encO w54b].flatten.toArray 122)) = w_59 at *
    have B_63 := Lib.hid (ext_trans B_58.out h_62)
    have F_64 := Lib.hid (K_53.out.ext h_62)
    clear B_58 K_53
    clear h_62
    generalize w_55.heap.size = g_60 at *
    refine wpAnyH_all (rs := [6]) (by kernel_rfl) (by simp) ?_
    intro i hi
    simp only [List.mem_cons, List.not_mem_nil, or_false] at hi
    subst hi
    refine wpOp_of rfl rfl (wp_called (args := #[.agg (encP w54id).toArray, .slice (some ⟨g_60, 0, none⟩) 2 2]) hcM (by simp only [List.map_toArray, List.map_cons, List.map_nil]; rfl) (HM.out w_59 _ P_61.out) ?_)
    rintro e w_65 ⟨_, rfl, p_68, h_66⟩
    have P_67 := Lib.hid p_68
    obtain ⟨⟨A_69, c_70, A_71, c_72, rfl, _, _⟩, _, _⟩ := p_68
    refine ⟨_, rfl, ext_trans B_63.out h_66, ?_⟩
    simp only [Act.put, List.setIfInBounds_toArray, List.set_cons_zero, List.set_cons_succ]
    have B_73 := Lib.hid (ext_trans B_63.out h_66)
    have F_74 := Lib.hid (F_64.out.ext h_66)
    have F_75 := Lib.hid (P_61.out.ext h_66)
    clear B_63 F_64 P_61
    clear h_66
    refine takeV (i := 7) (d := 5) (v := .tuple #[.agg (patC w54p.1 A_69 w54p.2.1.length c_70 A_71 w54p.2.2.length c_72).toArray, .int .i64 0]) rfl (by kernel_rfl) (by kernel_rfl) (by kernel_rfl) (fun _ _ _ h => h) rfl (fun _ _ => exMove (v := .tuple #[.agg (patC w54p.1 A_69 w54p.2.1.length c_70 A_71 w54p.2.2.length c_72).toArray, .int .i64 0]) rfl) B_73.out ?_
    simp only [Act.put, List.setIfInBounds_toArray, List.set_cons_zero, List.set_cons_succ]
    refine takeV (i := 8) (d := 13) (v := .agg (patC w54p.1 A_69 w54p.2.1.length c_70 A_71 w54p.2.2.length c_72).toArray) rfl (by kernel_rfl) (by kernel_rfl) (by kernel_rfl) (fun _ _ _ h => h) rfl (fun _ _ => exExtract (v := .agg (patC w54p.1 A_69 w54p.2.1.length c_70 A_71 w54p.2.2.length c_72).toArray) rfl rfl) B_73.out ?_
    simp only [Act.put, List.setIfInBounds_toArray, List.set_cons_zero, List.set_cons_succ]
    refine takeV (i := 9) (d := 14) (v := .int .i64 0) rfl (by kernel_rfl) (by kernel_rfl) (by kernel_rfl) (fun _ _ _ h => h) rfl (fun _ _ => exExtract (v := .int .i64 0) rfl rfl) B_73.out ?_
    simp only [Act.put, List.setIfInBounds_toArray, List.set_cons_zero, List.set_cons_succ]
    refine wpAnyH_all (rs := [11]) (by kernel_rfl) (by simp) ?_
    intro i hi
    simp only [List.mem_cons, List.not_mem_nil, or_false] at hi
    subst hi
    refine wpOp_of rfl rfl (wp_stored (cs := (patC w54p.1 A_69 w54p.2.1.length c_70 A_71 w54p.2.2.length c_72).toArray) rfl rfl F_74.out (show (Tryz.prog.info? 31).map (·.size) = some ((patC w54p.1 A_69 w54p.2.1.length c_70 A_71 w54p.2.2.length c_72).toArray : Array Value).size from infoPat) rfl patC_one ?_)
    have K_76 := Lib.hid (F_74.out.row (patC w54p.1 A_69 w54p.2.1.length c_70 A_71 w54p.2.2.length c_72).toArray)
    have M_78 := Lib.hid (w54_kept F_74.out rfl P_67.out (patC w54p.1 A_69 w54p.2.1.length c_70 A_71 w54p.2.2.length c_72).toArray)
    have B_77 := Lib.hid (below_setRow B_73.out gz_56.out (patC w54p.1 A_69 w54p.2.1.length c_70 A_71 w54p.2.2.length c_72).toArray)
    refine ⟨B_77.out, ?_⟩
    clear B_73 F_74 F_75 P_67
    generalize (w_65.setRow g_57 (patC w54p.1 A_69 w54p.2.1.length c_70 A_71 w54p.2.2.length c_72).toArray) = w_79 at *
    refine takeV (i := 12) (d := 3) (v := .int .i64 0) rfl (by kernel_rfl) (by kernel_rfl) (by kernel_rfl) (fun _ _ _ h => h) rfl (fun _ _ => exAssign (v := .int .i64 0) rfl) B_77.out ?_
    simp only [Act.put, List.setIfInBounds_toArray, List.set_cons_zero, List.set_cons_succ]
    refine wpAnyH_done (by kernel_rfl) ?_ _
    have BF := Lib.hid (B1.out.trans (B_77.out.mono B1.out.size))
    go_wp2_with fail
    go_meet
    case rel => exact ⟨g_57, _, _, _, _, rfl, rfl, K_76.out, M_78.out, (by rw [hga.out]; exact BF.out)⟩
  ·refine wpOp_of rfl rfl (wp_alloced (allocPat _) ?_)
   refine ⟨ext_trans B21.out (below_new _ _), ?_⟩
   simp only [Act.put, List.setIfInBounds_toArray, List.set_cons_zero, List.set_cons_succ]
   have K_80 : Hid (Blk (w21.alloc (.cells #[.int .u8 0, .int .u16 0, .slice none 0 0, .slice none 0 0] 31)) w21.heap.size 31 #[.int .u8 0, .int .u16 0, .slice none 0 0, .slice none 0 0]) := Blk.new _ _ _
   have h_81 : Below w21.heap.size w21 (w21.alloc (.cells #[.int .u8 0, .int .u16 0, .slice none 0 0, .slice none 0 0] 31)) := below_new _ _
   have gz_83 : Hid (w2.heap.size ≤ w21.heap.size) := B21.out.size
   generalize (w21.alloc (.cells #[.int .u8 0, .int .u16 0, .slice none 0 0, .slice none 0 0] 31)) = w_82 at *
   have B_85 := Lib.hid (ext_trans B21.out h_81)
   clear B21
   clear h_81
   generalize w21.heap.size = g_84 at *
   refine wpAnyH_all (rs := [3]) (by kernel_rfl) (by simp) ?_
   intro i hi
   simp only [List.mem_cons, List.not_mem_nil, or_false] at hi
   subst hi
   refine wpOp_of rfl rfl (wp_called (args := #[.agg (encP w54id).toArray, .int .i64 0]) hcV (by simp only [List.map_toArray, List.map_cons, List.map_nil]; rfl) (vid18_any w54id 0 w_82) ?_)
   rintro e w_86 ⟨rfl, h_87⟩
   refine ⟨_, rfl, ext_trans B_85.out h_87, ?_⟩
   simp only [Act.put, List.setIfInBounds_toArray, List.set_cons_zero, List.set_cons_succ]
   have B_88 := Lib.hid (ext_trans B_85.out h_87)
   have F_89 := Lib.hid (K_80.out.ext h_87)
   clear B_85 K_80
   clear h_87
   refine takeV (i := 4) (d := 10) (v := .agg (encO w54b).toArray) rfl (by kernel_rfl) (by kernel_rfl) (by kernel_rfl) (fun _ _ _ h => h) rfl (fun w' _ => exBuild (vs := #[(0, .int .u8 2), (1, .agg (encV (vidOf w54id 0)).toArray), (3, .string ⟨#[110]⟩)]) (by simp only [List.map_toArray, List.map_cons, List.map_nil]; rfl) (build_w54b w')) B_88.out ?_
   simp only [Act.put, List.setIfInBounds_toArray, List.set_cons_zero, List.set_cons_succ]
   refine wpAnyH_all (rs := [5]) (by kernel_rfl) (by simp) ?_
   intro i hi
   simp only [List.mem_cons, List.not_mem_nil, or_false] at hi
   subst hi
   have P_92 := Lib.hid (w54_ops w_86)
   have h_93 : Below w_86.heap.size w_86 (w_86.alloc (.cells [encO w54a, encO w54b].flatten.toArray 122)) := below_new _ _
   refine wpOp_of rfl rfl (wp_lits opSl [encO w54a, encO w54b] rfl (by simp) (by simp [encO]) (by simp) (by simp only [List.map_toArray, List.map_cons, List.map_nil]; rfl) ?_)
   refine ⟨ext_trans B_88.out h_93, ?_⟩
   simp only [Act.put, List.setIfInBounds_toArray, List.set_cons_zero, List.set_cons_succ]
   generalize (w_86.alloc (.cells [encO w54a, encO w54b].flatten.toArray 122)) = w_90 at *
   have B_94 := Lib.hid (ext_trans B_88.out h_93)
   have F_95 := Lib.hid (F_89.out.ext h_93)
   clear B_88 F_89
   clear h_93
   generalize w_86.heap.size = g_91 at *
   refine wpAnyH_all (rs := [6]) (by kernel_rfl) (by simp) ?_
   intro i hi
   simp only [List.mem_cons, List.not_mem_nil, or_false] at hi
   subst hi
   refine wpOp_of rfl rfl (wp_called (args := #[.agg (encP w54id).toArray, .slice (some ⟨g_91, 0, none⟩) 2 2]) hcM (by simp only [List.map_toArray, List.map_cons, List.map_nil]; rfl) (HM.out w_90 _ P_92.out) ?_)
   rintro e w_96 ⟨_, rfl, p_99, h_97⟩
   have P_98 := Lib.hid p_99
   obtain ⟨⟨A_100, c_101, A_102, c_103, rfl, _, _⟩, _, _⟩ := p_99
   refine ⟨_, rfl, ext_trans B_94.out h_97, ?_⟩
   simp only [Act.put, List.setIfInBounds_toArray, List.set_cons_zero, List.set_cons_succ]
   have B_104 := Lib.hid (ext_trans B_94.out h_97)
   have F_105 := Lib.hid (F_95.out.ext h_97)
   have F_106 := Lib.hid (P_92.out.ext h_97)
   clear B_94 F_95 P_92
   clear h_97
   refine takeV (i := 7) (d := 5) (v := .tuple #[.agg (patC w54p.1 A_100 w54p.2.1.length c_101 A_102 w54p.2.2.length c_103).toArray, .int .i64 0]) rfl (by kernel_rfl) (by kernel_rfl) (by kernel_rfl) (fun _ _ _ h => h) rfl (fun _ _ => exMove (v := .tuple #[.agg (patC w54p.1 A_100 w54p.2.1.length c_101 A_102 w54p.2.2.length c_103).toArray, .int .i64 0]) rfl) B_104.out ?_
   simp only [Act.put, List.setIfInBounds_toArray, List.set_cons_zero, List.set_cons_succ]
   refine takeV (i := 8) (d := 13) (v := .agg (patC w54p.1 A_100 w54p.2.1.length c_101 A_102 w54p.2.2.length c_103).toArray) rfl (by kernel_rfl) (by kernel_rfl) (by kernel_rfl) (fun _ _ _ h => h) rfl (fun _ _ => exExtract (v := .agg (patC w54p.1 A_100 w54p.2.1.length c_101 A_102 w54p.2.2.length c_103).toArray) rfl rfl) B_104.out ?_
   simp only [Act.put, List.setIfInBounds_toArray, List.set_cons_zero, List.set_cons_succ]
   refine takeV (i := 9) (d := 14) (v := .int .i64 0) rfl (by kernel_rfl) (by kernel_rfl) (by kernel_rfl) (fun _ _ _ h => h) rfl (fun _ _ => exExtract (v := .int .i64 0) rfl rfl) B_104.out ?_
   simp only [Act.put, List.setIfInBounds_toArray, List.set_cons_zero, List.set_cons_succ]
   refine wpAnyH_all (rs := [11]) (by kernel_rfl) (by simp) ?_
   intro i hi
   simp only [List.mem_cons, List.not_mem_nil, or_false] at hi
   subst hi
   refine wpOp_of rfl rfl (wp_stored (cs := (patC w54p.1 A_100 w54p.2.1.length c_101 A_102 w54p.2.2.length c_103).toArray) rfl rfl F_105.out (show (Tryz.prog.info? 31).map (·.size) = some ((patC w54p.1 A_100 w54p.2.1.length c_101 A_102 w54p.2.2.length c_103).toArray : Array Value).size from infoPat) rfl patC_one ?_)
   have K_107 := Lib.hid (F_105.out.row (patC w54p.1 A_100 w54p.2.1.length c_101 A_102 w54p.2.2.length c_103).toArray)
   have M_109 := Lib.hid (w54_kept F_105.out rfl P_98.out (patC w54p.1 A_100 w54p.2.1.length c_101 A_102 w54p.2.2.length c_103).toArray)
   have B_108 := Lib.hid (below_setRow B_104.out gz_83.out (patC w54p.1 A_100 w54p.2.1.length c_101 A_102 w54p.2.2.length c_103).toArray)
   refine ⟨B_108.out, ?_⟩
   clear B_104 F_105 F_106 P_98
   generalize (w_96.setRow g_84 (patC w54p.1 A_100 w54p.2.1.length c_101 A_102 w54p.2.2.length c_103).toArray) = w_110 at *
   refine takeV (i := 12) (d := 3) (v := .int .i64 0) rfl (by kernel_rfl) (by kernel_rfl) (by kernel_rfl) (fun _ _ _ h => h) rfl (fun _ _ => exAssign (v := .int .i64 0) rfl) B_108.out ?_
   simp only [Act.put, List.setIfInBounds_toArray, List.set_cons_zero, List.set_cons_succ]
   refine wpAnyH_done (by kernel_rfl) ?_ _
   have BF := Lib.hid (B1.out.trans (B_108.out.mono B1.out.size))
   go_wp2_with fail
   go_meet
   case rel => exact ⟨g_84, _, _, _, _, rfl, rfl, K_107.out, M_109.out, (by rw [hga.out]; exact BF.out)⟩
 case rest =>
  obtain ⟨gp, A, c, A', c', rfl, rfl, KP, PA, bx⟩ := hcut
  obtain ⟨w3, rfl⟩ : ∃ wx, wx = wc := ⟨_, rfl⟩
  rw [hga.out] at bx
  obtain ⟨rp, hrp⟩ : ∃ r, r = patC w54p.1 A w54p.2.1.length c A' w54p.2.2.length c' := ⟨_, rfl⟩
  rw [← hrp] at KP PA
  clear hrp
  have hr4 := PA.len4
  have hi4 : (Tryz.prog.info? 31).map (·.size) = some rp.toArray.size := by rw [List.size_toArray, hr4]; exact infoPat
  have KP := Lib.hid KP
  have PS := Lib.hid (pats_one54 PA)
  have B3 := Lib.hid bx
  have BN : Hid (Below w3.heap.size w3 (w3.alloc (.cells rp.toArray 31))) := below_new _ _
  clear bx HM hcV hcM RA B1 PA
  have HO := Lib.hid (of54_any [w54p] _ _ 1 1 PS.out (by omega))
  rw [w54_rows] at HO
  go_wp2_with (first
   | (refine wpList_load_row rfl 31 _ (by rfl) gp (by rfl) _ _ _ _ KP.out underPat rfl hi4 ?_)
   | (refine wpList_lit1 patSl hr4 (by omega) (by rfl) ?_))
  refine HO.out.mono ?_
  rintro e w4 ⟨Ar, cr, rfl, b4, S4⟩
  have B4 := Lib.hid (B3.out.trans ((BN.out.trans (b4.mono BN.out.size)).mono B3.out.size))
  have HPR := Lib.hid (print54_any [(1, 1, 11, 1, 1, 0, 0, 0, 2)] w54_small w4 Ar cr 1 rfl (by omega) S4)
  clear b4 HO KP PS BN
  go_wp2_with fail
  refine HPR.out.mono ?_
  rintro e w5 ⟨rfl, b5⟩
  have B5 := Lib.hid (B4.out.trans (b5.mono B4.out.size))
  clear b5 HPR
  go_wp2
  go_ret
  exact ⟨by kernel_rfl, B5.out⟩
end Go.Proofs.YtihggkmjalofiaaGreatDoor

/- Of any patches the rows are as the document says: walked. -/
namespace Go.Proofs.YtihggkmjalofiaaGreatDoor
open Go.RowKit

end Go.Proofs.YtihggkmjalofiaaGreatDoor
