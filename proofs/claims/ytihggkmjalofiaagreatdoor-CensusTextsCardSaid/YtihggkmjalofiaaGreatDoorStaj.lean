/- Rows as text, whatever their numbers: walked. -/
import Derived.Test.YtihggkmjalofiaaGreatDoorStai
import Derived.Test.YtihggkmjalofiaaGreatDoorCenu
import Derived.Lib.ItoaLen
namespace Go.Proofs.YtihggkmjalofiaaGreatDoor
open Go.RowKit

def inI64 (z : Int) : Prop := -9223372036854775808 ≤ z ∧ z ≤ 9223372036854775807
def anyR (r : RowR) : Prop := (0 ≤ r.1 ∧ r.1 < 256) ∧ ∀ z ∈ numsR r, inI64 z
def bitX (z : Int) : List UInt8 := 32 :: Lib.itoa z
def headX (r : RowR) (j : Nat) : List UInt8 := Lib.itoa r.1 ++ ((numsR r).take j).flatMap bitX
def rowX (r : RowR) : List UInt8 := headX r 8 ++ [10]
def textX (R : List RowR) : List UInt8 := R.flatMap rowX
theorem itoaX {z : Int} (h : inI64 z) : (Lib.itoa z).length ≤ 21 := Lib.itoa_length_le z h.1 h.2
theorem flatX_len {l : List Int} (h : ∀ z ∈ l, inI64 z) : (l.flatMap bitX).length ≤ l.length * 22 := by
 induction l with
 | nil => simp
 | cons z l ih =>
  have h1 := itoaX (h z (List.mem_cons_self ..))
  have h2 := ih fun y hy => h y (List.mem_cons_of_mem _ hy)
  rw [List.flatMap_cons, List.length_append, List.length_cons]
  unfold bitX at h2 ⊢
  rw [List.length_cons]
  omega
theorem headX_len {r : RowR} (h : anyR r) (j : Nat) : (headX r j).length ≤ 200 := by
 unfold headX
 have h1 := itoaX (z := r.1) ⟨by have := h.1; omega, by have := h.1; omega⟩
 have h2 := flatX_len (l := (numsR r).take j) fun z hz => h.2 z (List.mem_of_mem_take hz)
 have h3 : ((numsR r).take j).length ≤ 8 := by rw [List.length_take]; show min j 8 ≤ 8; omega
 rw [List.length_append]
 omega
theorem textX_len {R : List RowR} (h : ∀ r ∈ R, anyR r) : (textX R).length ≤ R.length * 201 := by
 unfold textX
 induction R with
 | nil => simp
 | cons r R ih =>
  have h1 := headX_len (h r (List.mem_cons_self ..)) 8
  have h2 := ih fun y hy => h y (List.mem_cons_of_mem _ hy)
  rw [List.flatMap_cons, List.length_append, List.length_cons]
  unfold rowX at h2 ⊢
  rw [List.length_append, List.length_cons, List.length_nil]
  omega
theorem itoS (z : Int) : Lib.strCells ⟨(Lib.itoa z).toArray⟩ = Lib.byteCells (Lib.itoa z) := by rw [Lib.strCells_eq]
theorem headX_next (r : RowR) {j : Nat} {z : Int} (h : (numsR r)[j]? = some z) : headX r (j + 1) = headX r j ++ bitX z := by
 unfold headX
 rw [List.take_add_one, h, Option.toList_some, List.flatMap_append, List.append_assoc]
 simp
abbrev PowOk (w : World) : Prop := Lib.TabIs Tryz.prog w "internal/strconv.uint64pow10" .u64 Lib.pow10Tab
theorem gPow : Tryz.prog.globalNamed "internal/strconv.uint64pow10" = some 2 := by kernel_rfl
theorem pow_ext {w w' : World} (h : PowOk w) (hb : Below w.heap.size w w') : PowOk w' := by
 have hlt : 2 < w.heap.size := by
  rcases Nat.lt_or_ge 2 w.heap.size with h0 | h0
  ·exact h0
  ·unfold PowOk Lib.TabIs World.var? at h
   rw [gPow] at h
   simp [Array.getElem?_eq_none h0] at h
 have he := hb.block 2 hlt
 unfold PowOk Lib.TabIs at *
 rw [← h]
 unfold World.var?
 rw [gPow]
 simp only [Option.bind_some, he]
theorem below_grow54 (w : World) (k : Nat) (os : Array Obj) : Below w.heap.size w (Go.Sort.grow (w.drewN k) os) :=
 ⟨rfl, rfl, rfl, by unfold Go.Sort.grow; simp [World.drewN], fun b hb => by unfold Go.Sort.grow World.drewN; simp only [Array.getElem?_append, if_pos hb]⟩
theorem itoaX_any (z : Int) (h : inI64 z) (w : World) (hP : PowOk w) : Calls Tryz.prog 139 #[.int .i64 z] w (RetB w (.string ⟨(Lib.itoa z).toArray⟩)) := by
 refine (Tryz.strconv_Itoa z h.1 h.2 w hP).mono ?_
 rintro e w' ⟨rfl, k, os, rfl⟩
 exact ⟨rfl, below_grow54 w k os⟩
set_option maxRecDepth 100000 in
set_option maxHeartbeats 8000000 in
theorem printX_any (R : List RowR) (hR : ∀ r ∈ R, anyR r) (w : World) (A : Option Addr) (c n : Nat) (hn : R.length = n) (hm : n ≤ 1000) (h : Sl w w.heap.size 9 A n (R.flatMap encR)) (hP : PowOk w) :
  Calls Tryz.prog 57 #[.slice A n c] w (RetB w (.string ⟨(textX R).toArray⟩)) := by
 have H := Lib.hid h
 have HR := Lib.hid hR
 have HN := Lib.hid hn
 have HP := Lib.hid hP
 have B0 : Hid (Below w.heap.size w (w.alloc (.cells #[.pointer none, .slice none 0 0] 227))) := below_new _ _
 have I0 : Hid (IsB w.heap.size w.heap.size [] (w.alloc (.cells #[.pointer none, .slice none 0 0] 227))) := Lib.fresh_isBuilder _ _ _
 clear h hR hn hP
 go_enter Tryz.func57, Tryz.ntmps57
 go_wp2_with fail
 go_loopw [10] (fun i wr => ∃ k : Nat, k ≤ n ∧ i = .int .i64 ((k : Nat) : Int) ∧ Hid (IsB w.heap.size w.heap.size (Lib.byteCells (textX (R.take k))) wr) ∧ Hid (Below w.heap.size w wr)) (fun i _ => n - (intOf i).toNat)
 case atStart => exact ⟨0, Nat.zero_le _, rfl, by simpa [textX, Hid, Lib.byteCells] using I0.out, B0.out⟩
 case round =>
  clear I0 B0
  obtain ⟨k, hk, rfl, I, B⟩ := hrel
  have hk0 : (0 : Int) ≤ (k : Int) := by omega
  by_cases hlt : k < n
  ·have hlk : (k : Int) < (n : Int) := by omega
   obtain ⟨b, o, rfl, hb, hc⟩ := H.out.2 (by omega)
   obtain ⟨x, hx⟩ : ∃ x, R[k]? = some x := ⟨_, List.getElem?_eq_getElem (by rw [HN.out]; exact hlt)⟩
   have R0 : w.rangeAt b (o + k * 9) (encR x) := fun j v hj => by
    have hj9 := (List.getElem?_eq_some_iff.1 hj).1
    rw [encR_len] at hj9
    have hkl : k < R.length := by rw [HN.out]; exact hlt
    have h2 := hc (k * 9 + j) (by omega)
    rw [flatMap_get encR R (fun x _ => encR_len x) k j hkl hj9, (List.getElem?_eq_some_iff.1 hx).2] at h2
    rw [Nat.add_assoc, h2]
    exact hj
   have RX := Lib.hid (rangeAt_below R0 B.out hb)
   have SM := Lib.hid (HR.out x (List.mem_of_getElem? hx))
   have LT : Hid ((textX (R.take k)).length ≤ 201000) := by
    have h1 := textX_len (R := R.take k) fun r hr => HR.out r (List.mem_of_mem_take hr)
    rw [List.length_take] at h1
    rw [Hid]; omega
   have TX : Hid (textX (R.take (k + 1)) = textX (R.take k) ++ rowX x) := by
    rw [Hid, List.take_add_one, hx]
    unfold textX
    rw [Option.toList_some, List.flatMap_append]
    simp
   obtain ⟨acc, hacc⟩ : ∃ a, a = textX (R.take k) := ⟨_, rfl⟩
   rw [← hacc] at LT TX I
   clear hacc hx hb hc R0
   have KZ : Hid (Blk (wr.alloc (.cells (encR zeroR).toArray 107)) wr.heap.size 107 (encR zeroR).toArray) := Blk.new _ _ _
   have KO : Hid (Blk ((wr.alloc (.cells (encR zeroR).toArray 107)).setRow wr.heap.size (encR x).toArray) wr.heap.size 107 (encR x).toArray) := KZ.out.row _
   have BN : Hid (Below wr.heap.size wr ((wr.alloc (.cells (encR zeroR).toArray 107)).setRow wr.heap.size (encR x).toArray)) := below_setRow (below_new wr _) (Nat.le_refl _) _
   have I1 : Hid (IsB w.heap.size w.heap.size (Lib.byteCells acc) ((wr.alloc (.cells (encR zeroR).toArray 107)).setRow wr.heap.size (encR x).toArray)) := isB_ext54 I.out BN.out
   go_upto_region 5 with (first
    | (refine wpList_load_mid rfl 107 _ (by rfl) b (o + k * 9) (by rfl) _ _ RX.out underRow rfl infoRow ?_)
    | (refine wpList_alloced (allocRow _) ?_)
    | (refine wpList_store_row rfl 107 _ _ (by rfl) wr.heap.size (encR x).toArray (by rfl) (by rfl) _ _ KZ.out infoRow rfl (all_oneCell_toArray (encR_one x)) ?_))
   have B1 := Lib.hid (B.out.trans (BN.out.mono B.out.size))
   generalize ((wr.alloc (.cells (encR zeroR).toArray 107)).setRow wr.heap.size (encR x).toArray) = w1 at *
   generalize wr.heap.size = gr at *
   clear KZ BN RX I B
   obtain ⟨z0, hz0⟩ : ∃ z, z = x.1 := ⟨_, rfl⟩
   have y0 : w1.cell? ⟨gr, 0, none⟩ = some (.int .u8 z0) := by rw [hz0]; exact KO.out.cell 0
   have b0 : 0 ≤ z0 ∧ z0 < 256 := by rw [hz0]; exact SM.out.1
   have hd0 : Hid (Lib.itoa x.1 = Lib.itoa z0) := by rw [Hid, hz0]
   have hI0 : Hid (inI64 z0) := ⟨by omega, by omega⟩
   have hl0 := Lib.hid (itoaX hI0.out)
   have HW0 := Lib.hid (itoaX_any z0 hI0.out w1 (pow_ext HP.out B1.out))
   clear hz0
   go_wp2_with fail
   refine HW0.out.mono ?_
   rintro e w1b ⟨rfl, bb⟩
   clear y0 b0 HW0
   have I1 := Lib.hid (isB_ext54 I1.out bb)
   have KO := Lib.hid (KO.out.ext bb)
   have B1 := Lib.hid (B1.out.trans (bb.mono B1.out.size))
   clear bb
   have HW := Lib.hid (writeString_any w.heap.size w.heap.size (Lib.byteCells acc) ⟨(Lib.itoa z0).toArray⟩ w1b I1.out (by
    have h1 := LT.out
    have h2 := hl0.out
    rw [Lib.byteCells_length]
    show _ + (Lib.itoa z0).toArray.size ≤ _
    rw [List.size_toArray]
    omega))
   go_wp2_with fail
   refine HW.out.mono ?_
   rintro e w2 ⟨rfl, i2, b2, s2⟩
   have I2 : Hid (IsB w.heap.size w.heap.size (Lib.byteCells (acc ++ headX x 0)) w2) := by
    have h1 := i2
    rw [itoS, ← Lib.byteCells_append] at h1
    unfold headX
    rw [List.take_zero, List.flatMap_nil, List.append_nil, hd0.out]
    exact h1
   have K2 := Lib.hid (s2 gr _ _ KO.out (by decide) (by decide))
   have B2 := Lib.hid (B1.out.trans b2)
   clear i2 b2 s2 HW KO I1 B1 hl0 hd0
   have z1 : w2.cell? ⟨gr, 1, none⟩ = some (.int .i64 x.2.1) := K2.out.cell 1
   have z2 : w2.cell? ⟨gr, 2, none⟩ = some (.int .i64 x.2.2.1) := K2.out.cell 2
   have z3 : w2.cell? ⟨gr, 3, none⟩ = some (.int .i64 x.2.2.2.1) := K2.out.cell 3
   have z4 : w2.cell? ⟨gr, 4, none⟩ = some (.int .i64 x.2.2.2.2.1) := K2.out.cell 4
   have z5 : w2.cell? ⟨gr, 5, none⟩ = some (.int .i64 x.2.2.2.2.2.1) := K2.out.cell 5
   have z6 : w2.cell? ⟨gr, 6, none⟩ = some (.int .i64 x.2.2.2.2.2.2.1) := K2.out.cell 6
   have z7 : w2.cell? ⟨gr, 7, none⟩ = some (.int .i64 x.2.2.2.2.2.2.2.1) := K2.out.cell 7
   have z8 : w2.cell? ⟨gr, 8, none⟩ = some (.int .i64 x.2.2.2.2.2.2.2.2) := K2.out.cell 8
   have KI : Hid (Blk (w2.alloc (.cells #[.int .i64 x.2.1, .int .i64 x.2.2.1, .int .i64 x.2.2.2.1, .int .i64 x.2.2.2.2.1, .int .i64 x.2.2.2.2.2.1, .int .i64 x.2.2.2.2.2.2.1, .int .i64 x.2.2.2.2.2.2.2.1, .int .i64 x.2.2.2.2.2.2.2.2] 3)) w2.heap.size 3 ((numsR x).map fun z => Value.int .i64 z).toArray) := Blk.new _ _ _
   have I3 := Lib.hid (isB_alloc54 I2.out (.cells #[.int .i64 x.2.1, .int .i64 x.2.2.1, .int .i64 x.2.2.2.1, .int .i64 x.2.2.2.2.1, .int .i64 x.2.2.2.2.2.1, .int .i64 x.2.2.2.2.2.2.1, .int .i64 x.2.2.2.2.2.2.2.1, .int .i64 x.2.2.2.2.2.2.2.2] 3))
   have B3 := Lib.hid (B2.out.alloc B2.out.size (.cells #[.int .i64 x.2.1, .int .i64 x.2.2.1, .int .i64 x.2.2.2.1, .int .i64 x.2.2.2.2.1, .int .i64 x.2.2.2.2.2.1, .int .i64 x.2.2.2.2.2.2.1, .int .i64 x.2.2.2.2.2.2.2.1, .int .i64 x.2.2.2.2.2.2.2.2] 3))
   go_wp2_with fail
   clear z1 z2 z3 z4 z5 z6 z7 z8 K2 I2 B2
   generalize (w2.alloc (.cells #[.int .i64 x.2.1, .int .i64 x.2.2.1, .int .i64 x.2.2.2.1, .int .i64 x.2.2.2.2.1, .int .i64 x.2.2.2.2.2.1, .int .i64 x.2.2.2.2.2.2.1, .int .i64 x.2.2.2.2.2.2.2.1, .int .i64 x.2.2.2.2.2.2.2.2] 3)) = w3 at *
   generalize w2.heap.size = gi at *
   go_loopw [37] (fun i ws => ∃ j : Nat, j ≤ 8 ∧ i = .int .i64 ((j : Nat) : Int) ∧ Hid (IsB w.heap.size w.heap.size (Lib.byteCells (acc ++ headX x j)) ws) ∧ Hid (Blk ws gi 3 ((numsR x).map fun z => Value.int .i64 z).toArray) ∧ Hid (Below w.heap.size w ws)) (fun i _ => 8 - (intOf i).toNat)
   case atStart => exact ⟨0, by omega, rfl, I3.out, KI.out, B3.out⟩
   case round =>
    clear I3 KI B3
    obtain ⟨j, hj, rfl, I, KI, B⟩ := hrel
    have hj0 : (0 : Int) ≤ (j : Int) := by omega
    by_cases hjt : j < 8
    ·have hjk : (j : Int) < 8 := by omega
     obtain ⟨z, hz⟩ : ∃ z, (numsR x)[j]? = some z := ⟨_, List.getElem?_eq_getElem (by show j < 8; exact hjt)⟩
     have hiz := Lib.hid (SM.out.2 z (List.mem_of_getElem? hz))
     have yj : wr.cell? ⟨gi, j, none⟩ = some (.int .i64 z) := by
      rw [KI.out.cell, List.getElem?_toArray, List.getElem?_map, hz]; rfl
     have HX := Lib.hid (headX_next x hz)
     have hdz : Hid (bitX z = 32 :: Lib.itoa z) := rfl
     have hlz := Lib.hid (itoaX hiz.out)
     have hlh := Lib.hid (headX_len SM.out j)
     clear hz
     have HB := Lib.hid (writeByte_any w.heap.size w.heap.size (Lib.byteCells (acc ++ headX x j)) 32 wr I.out (by
      have h1 := LT.out
      have h2 := hlh.out
      rw [Lib.byteCells_length, List.length_append]
      omega))
     go_wp2_with fail
     clear yj
     refine HB.out.mono ?_
     rintro e w4 ⟨rfl, i4, b4, s4⟩
     have K4 := Lib.hid (s4 gi _ _ KI.out (by decide) (by decide))
     have B4 := Lib.hid (B.out.trans b4)
     have I4 : Hid (IsB w.heap.size w.heap.size (Lib.byteCells (acc ++ headX x j ++ [32])) w4) := by
      have h1 := i4
      rw [Hid, Lib.byteCells_append]
      exact h1
     clear i4 b4 s4 HB I KI B
     go_wp2_with fail
     refine (itoaX_any z hiz.out w4 (pow_ext HP.out B4.out)).mono ?_
     rintro e w4b ⟨rfl, bb⟩
     have I4 := Lib.hid (isB_ext54 I4.out bb)
     have K4 := Lib.hid (K4.out.ext bb)
     have B4 := Lib.hid (B4.out.trans (bb.mono B4.out.size))
     clear bb
     have HW := Lib.hid (writeString_any w.heap.size w.heap.size (Lib.byteCells (acc ++ headX x j ++ [32])) ⟨(Lib.itoa z).toArray⟩ w4b I4.out (by
      have h1 := LT.out
      have h2 := hlz.out
      have h3 := hlh.out
      rw [Lib.byteCells_length, List.length_append, List.length_append]
      show _ + (Lib.itoa z).toArray.size ≤ _
      rw [List.size_toArray, List.length_cons, List.length_nil]
      omega))
     go_wp2_with fail
     refine HW.out.mono ?_
     rintro e w5 ⟨rfl, i5, b5, s5⟩
     have K5 := Lib.hid (s5 gi _ _ K4.out (by decide) (by decide))
     have B5 := Lib.hid (B4.out.trans b5)
     have I5 : Hid (IsB w.heap.size w.heap.size (Lib.byteCells (acc ++ headX x (j + 1))) w5) := by
      have h1 := i5
      rw [itoS, ← Lib.byteCells_append] at h1
      rw [Hid, HX.out, hdz.out]
      simpa using h1
     clear i5 b5 s5 HW I4 K4 B4
     go_wp2_with fail
     go_roundw
     case rel => exact ⟨j + 1, by omega, by go_num, I5.out, K5.out, B5.out⟩
     case measure => simp [intOf]; omega
    ·have hjk : ¬ (j : Int) < 8 := by omega
     obtain rfl : j = 8 := by omega
     have hlh := Lib.hid (headX_len SM.out 8)
     have HB := Lib.hid (writeByte_any w.heap.size w.heap.size (Lib.byteCells (acc ++ headX x 8)) 10 wr I.out (by
      have h1 := LT.out
      have h2 := hlh.out
      rw [Lib.byteCells_length, List.length_append]
      omega))
     go_wp2_with fail
     refine HB.out.mono ?_
     rintro e w4 ⟨rfl, i4, b4, s4⟩
     have B4 := Lib.hid (B.out.trans b4)
     have I4 : Hid (IsB w.heap.size w.heap.size (Lib.byteCells (textX (R.take (k + 1)))) w4) := by
      have h1 := i4
      rw [Hid, TX.out]
      unfold rowX
      rw [← List.append_assoc, Lib.byteCells_append]
      exact h1
     clear i4 b4 s4 HB I KI B
     go_wp2_with fail
     go_roundw
     case rel => exact ⟨k + 1, by omega, by go_num, I4.out, B4.out⟩
     case measure => simp [intOf]; omega
  ·have hlk : ¬ (k : Int) < (n : Int) := by omega
   rw [List.take_of_length_le (by rw [HN.out]; omega)] at I
   go_wp2_with fail
   refine (Tryz.Builder_String_any w.heap.size w.heap.size (textX R) wr I.out B.out.size).mono ?_
   rintro e w2 ⟨rfl, b2⟩
   have B2 := Lib.hid (B.out.trans b2)
   clear b2
   go_wp2
   go_ret
   exact ⟨rfl, B2.out⟩
end Go.Proofs.YtihggkmjalofiaaGreatDoor
