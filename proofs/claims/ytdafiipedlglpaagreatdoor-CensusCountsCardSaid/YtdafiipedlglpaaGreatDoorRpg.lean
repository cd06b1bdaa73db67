/- The reference's texts and patches as bytes: walked. -/
import Derived.Test.YtdafiipedlglpaaGreatDoorRpf
namespace Go.Proofs.YtdafiipedlglpaaGreatDoor
open Go.RowKit

def textB (s : ByteArray) : List UInt8 := vbytes s.size ++ s.data.toList
theorem vbytes_ten {n : Nat} (h : n < 18446744073709551616) : (vbytes n).length ≤ 10 := vbytes_len 9 n (by omega)
theorem take_byte (s : ByteArray) {k : Nat} (h : k < s.size) : s.data.toList.take (k + 1) = s.data.toList.take k ++ [s[k]] := by
  have h2 : k < s.data.toList.length := by simpa using h
  rw [List.take_succ_eq_append_getElem h2]
  rfl
set_option maxRecDepth 100000 in
set_option maxHeartbeats 2000000 in
theorem rtext04_any (s : ByteArray) (hs : s.size ≤ 100000) (w : World) : Calls Tryz.prog 156 #[.string s] w (OwnedRet w 5 1 (textB s).length (encB (textB s))) := by
  have HV := Lib.hid (rvbytes_any s.size (by omega) w)
  have hw : IntKind.u64.wrap ((s.size : Nat) : Int) = (s.size : Int) := by rw [IntKind.wrap_u64]; omega
  have hvl := vbytes_ten (n := s.size) (by omega)
  have hT : Hid (textB s = vbytes s.size ++ s.data.toList) := rfl
  generalize vbytes s.size = vb at *
  go_enter Tryz.func156, Tryz.ntmps156
  go_wp2_with fail
  refine HV.out.mono ?_
  rintro e w1 ⟨v, rfl, o1, b1⟩
  have O1 := Lib.hid o1
  have B1 := Lib.hid b1
  clear o1 b1 HV
  go_wp2_with fail
  go_loopw [4, 3] (fun i v wr => ∃ k : Nat, k ≤ s.size ∧ i = .int .i64 k ∧ Hid (wr.ownsRow w.heap.size 5 1 v (vb.length + k) (encB (vb ++ s.data.toList.take k))) ∧ Hid (Below w.heap.size w wr)) (fun i _ _ => s.size - (intOf i).toNat)
  case atStart => exact ⟨0, by omega, rfl, by rw [Nat.add_zero, List.take_zero, List.append_nil]; exact O1.out, B1.out⟩
  case round =>
    clear O1 B1
    obtain ⟨k, hk, rfl, O, B⟩ := hrel
    have hk0 : (0 : Int) ≤ (k : Int) := by omega
    have hbs := B.out.size
    obtain ⟨A', c', rfl, _, _⟩ := Sl.of_own O.out
    by_cases hlt : k < s.size
    · have hlk : (k : Int) < (s.size : Int) := by omega
      have EN : Hid (vb ++ s.data.toList.take (k + 1) = (vb ++ s.data.toList.take k) ++ [s[k]]) := by rw [Hid, take_byte s hlt, List.append_assoc]
      go_wp2_with (first
        | (at_builtin; refine wpList_push byteSl O.out [.int .u8 (s[k].toNat : Int)] rfl (by simp [Value.oneCell']) hbs (by omega) (by unfold maxLen; omega) (by rfl) (by rfl) (by rfl) ?_; intro v1 w6 own1 bel1))
      have B5 := Lib.hid (B.out.trans bel1)
      have O5 : Hid (w6.ownsRow w.heap.size 5 1 v1 (vb.length + (k + 1)) (encB (vb ++ s.data.toList.take (k + 1)))) := by
        rw [Hid, EN.out, encB_append]
        exact own1
      clear own1 bel1 O B EN
      go_roundw
      case rel => exact ⟨k + 1, by omega, by go_num, O5.out, B5.out⟩
      case measure => simp [intOf]; omega
    · have hlk : ¬ (k : Int) < (s.size : Int) := by omega
      obtain rfl : k = s.size := by omega
      have e1 : s.data.toList.take s.size = s.data.toList := List.take_of_length_le (by simp)
      rw [e1] at O
      clear e1
      go_wp2
      go_ret
      refine ⟨_, rfl, ?_, B.out⟩
      rw [hT.out, List.length_append]
      exact O.out
theorem size_at {B0 : Nat} {w1 w : World} (h : B0 = w1.heap.size) (hb : Below B0 w1 w) : B0 ≤ w.heap.size := by rw [h]; exact hb.size
theorem own_lit8 (w : World) (n : Int) : (w.alloc (.cells #[.int .u8 n] 5)).ownsRow w.heap.size 5 1 (.slice (some ⟨w.heap.size, 0, none⟩) 1 1) 1 [.int .u8 n] :=
  ⟨rfl, .inr ⟨w.heap.size, 1, #[.int .u8 n], rfl, Nat.le_refl _, heap_alloc_new w _, Nat.le_refl _, by simp [maxLen], rfl, rfl⟩⟩
def hdrB (p : PatV) : List UInt8 := UInt8.ofNat p.1.1.val :: (vbytes p.1.2.val ++ vbytes p.2.2.length)
theorem patBytes_head (p : PatV) : patBytes p = hdrB p ++ p.2.2.flatMap opBytes := by unfold patBytes hdrB; simp
def partB (p : PatV) (k : Nat) : List UInt8 := hdrB p ++ (p.2.2.take k).flatMap opBytes
theorem partB_zero (p : PatV) : partB p 0 = hdrB p := by unfold partB; simp
theorem partB_all (p : PatV) {k : Nat} (h : p.2.2.length ≤ k) : partB p k = patBytes p := by rw [patBytes_head]; unfold partB; rw [List.take_of_length_le h]
theorem partB_snoc {p : PatV} {k : Nat} {o : OpV} (h : p.2.2[k]? = some o) : partB p (k + 1) = partB p k ++ opBytes o := by
  obtain ⟨hk, rfl⟩ := List.getElem?_eq_some_iff.1 h
  unfold partB
  rw [List.take_succ_eq_append_getElem hk, List.flatMap_append, List.append_assoc]
  simp
theorem partB_len {p : PatV} (h : patB p = true) (k : Nat) : (partB p k).length ≤ 20000 := by
  have h1 := patBytes_len h
  have h2 : (partB p k).length ≤ (patBytes p).length := by
    rw [patBytes_head]
    unfold partB
    rw [List.length_append, List.length_append]
    have : ((p.2.2.take k).flatMap opBytes).length + ((p.2.2.drop k).flatMap opBytes).length = (p.2.2.flatMap opBytes).length := by
      rw [← List.length_append, ← List.flatMap_append, List.take_append_drop]
    omega
  omega
def refsB (o : OpV) (k : Nat) : List UInt8 := ((refsO o).take k).flatMap fun v => vbytes (packN v)
theorem refsB_snoc {o : OpV} {k : Nat} {v : VidV} (h : (refsO o)[k]? = some v) : refsB o (k + 1) = refsB o k ++ vbytes (packN v) := by
  obtain ⟨hk, rfl⟩ := List.getElem?_eq_some_iff.1 h
  unfold refsB
  rw [List.take_succ_eq_append_getElem hk, List.flatMap_append]
  simp
theorem refsB_len (o : OpV) (k : Nat) : (refsB o k).length ≤ 20 := by
  unfold refsB
  have h1 : ((refsO o).take k).length ≤ 2 := by rw [List.length_take]; have := refsO_le o; omega
  have key : ∀ l : List VidV, (l.flatMap fun v => vbytes (packN v)).length ≤ 10 * l.length := by
    intro l
    induction l with
    | nil => simp
    | cons v l ih =>
      rw [List.flatMap_cons, List.length_append, List.length_cons]
      have := vbytes_ten (n := packN v) (by have := packN_lt v; omega)
      omega
  have := key ((refsO o).take k)
  omega
theorem opBytes_eq (o : OpV) : opBytes o = UInt8.ofNat o.1.val :: (refsB o (refsO o).length ++ if namedK o.1.val = true then textB o.2.2.2 else []) := by
  unfold opBytes refsB textB
  rw [List.take_length]
theorem below_at {B0 : Nat} {w1 w : World} (h : B0 = w1.heap.size) (hb : Below B0 w1 w) : Below w1.heap.size w1 w := by rw [← h]; exact hb
theorem refsB_zero (o : OpV) : refsB o 0 = [] := rfl
theorem textB_len {s : ByteArray} (h : s.size ≤ 60) : (textB s).length ≤ 70 := by
  unfold textB
  rw [List.length_append]
  have := vbytes_ten (n := s.size) (by omega)
  have e : s.data.toList.length = s.size := by simp
  omega
theorem own_vids {w : World} {base n c : Nat} {A : Option Addr} {l : List VidV} (h : w.ownsRow base 98 3 (.slice A n c) n (l.flatMap encV)) (hn : l.length = n) : VidsAt w A n l := by
  obtain ⟨A', c', e, _, hs⟩ := Sl.of_own h
  injection e with e1 _ _
  subst e1
  exact ⟨hn, hs⟩
set_option maxRecDepth 100000 in
set_option maxHeartbeats 8000000 in
theorem rbytes19_any (p : PatV) (hg : patB p = true) (w : World) (cs : List Value) (hp : PatAt w cs p) : Calls Tryz.prog 108 #[.agg cs.toArray] w (OwnedRet w 5 1 (patBytes p).length (encB (patBytes p))) := by
  have HL := Lib.hid (partB_len hg)
  have HPL := Lib.hid (pat_plain hg)
  have h200 := patB_len200 hg
  obtain ⟨⟨A, c, A', c', rfl, _, O1⟩, _, _⟩ := hp
  have K0 : Hid (Blk (w.alloc (.cells (patC p.1 A p.2.1.length c A' p.2.2.length c').toArray 64)) w.heap.size 64 (patC p.1 A p.2.1.length c A' p.2.2.length c').toArray) := Blk.new _ _ _
  have BZ : Hid (Below w.heap.size w (w.alloc (.cells (patC p.1 A p.2.1.length c A' p.2.2.length c').toArray 64))) := below_new _ _
  have OP := Lib.hid (O1.ext BZ.out)
  clear O1 hg
  go_enter Tryz.func108, Tryz.ntmps108
  go_upto_region 1 with fail
  generalize (w.alloc (.cells (patC p.1 A p.2.1.length c A' p.2.2.length c').toArray 64)) = w1 at *
  obtain ⟨g, hgE⟩ : ∃ g, g = w.heap.size := ⟨_, rfl⟩
  rw [← hgE] at K0 ⊢
  replace hgE := Lib.hid hgE
  obtain ⟨s, hs⟩ : ∃ s, s = p.1.2.val := ⟨_, rfl⟩
  have hs16 : s < 65536 := by rw [hs]; exact p.1.2.isLt
  have hsw : IntKind.u64.wrap (s : Int) = (s : Int) := by rw [IntKind.wrap_u64]; omega
  obtain ⟨n, hn⟩ : ∃ n, n = p.2.2.length := ⟨_, rfl⟩
  have hnw : IntKind.u64.wrap (n : Int) = (n : Int) := by rw [IntKind.wrap_u64]; omega
  have y0 : w1.cell? ⟨g, 0, none⟩ = some (.int .u8 ((p.1.1.val : Nat) : Int)) := K0.out.cell 0
  go_upto_region 2 with fail
  clear y0
  have O2 : Hid ((w1.alloc (.cells #[.int .u8 ((p.1.1.val : Nat) : Int)] 5)).ownsRow w1.heap.size 5 1 (.slice (some ⟨w1.heap.size, 0, none⟩) 1 1) [UInt8.ofNat p.1.1.val].length (encB [UInt8.ofNat p.1.1.val])) := by
    rw [Hid, show encB [UInt8.ofNat p.1.1.val] = [.int .u8 ((p.1.1.val : Nat) : Int)] by show enc1 _ ++ [] = _; rw [enc1_nat p.1.1.isLt, List.append_nil]]
    exact own_lit8 w1 _
  have BL := below_new w1 (.cells #[.int .u8 ((p.1.1.val : Nat) : Int)] 5)
  have B2 := Lib.hid BL
  have hgB : Hid (g < w1.heap.size) := K0.out.lt
  have hn200 : n ≤ 200 := by rw [hn]; exact h200
  clear BL
  generalize (w1.alloc (.cells #[.int .u8 ((p.1.1.val : Nat) : Int)] 5)) = w2 at *
  obtain ⟨B0, hB0⟩ : ∃ B0, B0 = w1.heap.size := ⟨_, rfl⟩
  rw [← hB0] at O2 B2 hgB ⊢
  replace hB0 := Lib.hid hB0
  have y1 : w2.cell? ⟨g, 1, none⟩ = some (.int .u16 (s : Int)) := by rw [hs]; exact (K0.out.below B2.out hgB.out).cell 1
  have e1 : Hid (hdrB p = ([UInt8.ofNat p.1.1.val] ++ vbytes s) ++ vbytes n) := by rw [Hid, hs, hn]; rfl
  have l1 := vbytes_ten (n := s) (by omega)
  have l2 := vbytes_ten (n := n) (by omega)
  replace hs := Lib.hid hs
  have OPn := Lib.hid hn
  replace hn := Lib.hid hn
  generalize hh1 : [UInt8.ofNat p.1.1.val] = q1 at *
  have l0 : q1.length = 1 := by rw [← hh1]; rfl
  replace hh1 := Lib.hid hh1
  obtain ⟨q2, hq2⟩ : ∃ q2, q2 = q1 ++ vbytes s := ⟨_, rfl⟩
  have lq2 : q2.length ≤ 11 := by rw [hq2, List.length_append]; omega
  rw [← hq2] at e1
  replace hq2 := Lib.hid hq2
  go_wp2_with fail
  refine (rvbytes_any s (by omega) w2).mono ?_
  rintro e wa3 ⟨va, rfl, oa, ba⟩
  obtain ⟨Aa, ca, rfl, _, sa⟩ := Sl.of_own oa
  have Oa := Lib.hid (own_ext O2.out ba)
  have Sa := Lib.hid sa
  have Ba := Lib.hid (B2.out.trans (ba.mono (size_at hB0.out B2.out)))
  clear oa sa ba O2 B2 
  go_wp2_with (at_builtin; refine wpList_catB byteSl Oa.out Sa.out (encB_one _) (size_at hB0.out Ba.out) (by omega) (by unfold maxLen; omega) (by rfl) (by rfl) ?_; intro vb wb3 own kep new
               have B3 := Lib.hid (Ba.out.trans (kep.below (fun k e => (Oa.out.lt k e).1) (size_at hB0.out Ba.out)))
               have O3 : Hid (wb3.ownsRow B0 5 1 vb q2.length (encB q2)) := by rw [Hid, hq2.out, encB_append, List.length_append]; exact own
               have y3 : wb3.cell? ⟨g, 3, none⟩ = some (.slice A' n c') := by rw [hn.out]; exact (K0.out.below B3.out hgB.out).cell 3
               obtain ⟨A3, c3, rfl, _, _⟩ := Sl.of_own O3.out
               clear own kep new Oa Sa Ba )
  clear y1
  go_wp2_with fail
  refine (rvbytes_any n (by omega) wb3).mono ?_
  rintro e wa4 ⟨va, rfl, oa, ba⟩
  obtain ⟨Aa, ca, rfl, _, sa⟩ := Sl.of_own oa
  have Oa := Lib.hid (own_ext O3.out ba)
  have Sa := Lib.hid sa
  have Ba := Lib.hid (B3.out.trans (ba.mono (size_at hB0.out B3.out)))
  clear oa sa ba O3 B3 
  go_wp2_with (at_builtin; refine wpList_catB byteSl Oa.out Sa.out (encB_one _) (size_at hB0.out Ba.out) (by omega) (by unfold maxLen; omega) (by rfl) (by rfl) ?_; intro vb wb4 own kep new
               have B4 := Lib.hid (Ba.out.trans (kep.below (fun k e => (Oa.out.lt k e).1) (size_at hB0.out Ba.out)))
               have O4 : Hid (wb4.ownsRow B0 5 1 vb (hdrB p).length (encB (hdrB p))) := by rw [Hid, e1.out, encB_append, List.length_append]; exact own
               obtain ⟨A4, c4, rfl, _, _⟩ := Sl.of_own O4.out
               clear own kep new Oa Sa Ba )
  go_loopw [4, 3] (fun i v wr => ∃ k : Nat, k ≤ n ∧ i = .int .i64 k ∧ Hid (wr.ownsRow B0 5 1 v (partB p k).length (encB (partB p k))) ∧ Hid (Below B0 w1 wr)) (fun i _ _ => n - (intOf i).toNat)
  case atStart => exact ⟨0, by omega, rfl, by rw [partB_zero]; exact O4.out, B4.out⟩
  case round =>
    clear O4 B4
    obtain ⟨k, hk, rfl, O, B⟩ := hrel
    have hk0 : (0 : Int) ≤ (k : Int) := by omega
    have hL := HL.out k
    obtain ⟨A5, c5, rfl, _, _⟩ := Sl.of_own O.out
    by_cases hlt : k < n
    · have hlk : (k : Int) < (n : Int) := by omega
      obtain ⟨b, oo, o, rfl, hb, hx, R, _⟩ := (OP.out.ext (below_at hB0.out B.out)).at_ (k := k) (by rw [← hn.out]; exact hlt)
      have R := Lib.hid R
      have HO := Lib.hid (HPL.out o (List.mem_of_getElem? hx))
      have hT : o.2.2.2.size ≤ 60 := HO.out.2.2.2.2
      have EB := Lib.hid ((partB_snoc hx).trans (congrArg (partB p k ++ ·) (opBytes_eq o)))
      have y3 : wr.cell? ⟨g, 3, none⟩ = some (.slice (some ⟨b, oo, none⟩) n c') := by rw [hn.out]; exact (K0.out.below B.out hgB.out).cell 3
      have KZ : Hid (Blk (wr.alloc (.cells #[.int .u8 0, .int .u8 0, .int .u16 0, .int .u8 0, .int .u8 0, .int .u16 0, .int .u8 0, .string ByteArray.empty] 152)) wr.heap.size 152 #[.int .u8 0, .int .u8 0, .int .u16 0, .int .u8 0, .int .u8 0, .int .u16 0, .int .u8 0, .string ByteArray.empty]) := Blk.new _ _ _
      have KO5 : Hid (Blk ((wr.alloc (.cells #[.int .u8 0, .int .u8 0, .int .u16 0, .int .u8 0, .int .u8 0, .int .u16 0, .int .u8 0, .string ByteArray.empty] 152)).setRow wr.heap.size (encO o).toArray) wr.heap.size 152 (encO o).toArray) := KZ.out.row _
      have BN : Hid (Below wr.heap.size wr ((wr.alloc (.cells #[.int .u8 0, .int .u8 0, .int .u16 0, .int .u8 0, .int .u8 0, .int .u16 0, .int .u8 0, .string ByteArray.empty] 152)).setRow wr.heap.size (encO o).toArray)) := below_setRow (below_new wr _) (Nat.le_refl _) _
      have O5 := Lib.hid (own_ext O.out BN.out)
      have B5 := Lib.hid (B.out.trans (BN.out.mono (size_at hB0.out B.out)))
      clear hx O B
      go_upto_region 8 with (first
        | (refine wpList_load_mid rfl 152 _ (by rfl) b (oo + k * 8) (by rfl) _ _ R.out underOp rfl infoOp ?_)
        | (refine wpList_alloced (allocOp _) ?_)
        | (refine wpList_store_row rfl 152 _ _ (by rfl) wr.heap.size (encO o).toArray (by rfl) (by rfl) _ _ KZ.out infoOp rfl (by simp [encO, Value.oneCell']) ?_))
      generalize ((wr.alloc (.cells #[.int .u8 0, .int .u8 0, .int .u16 0, .int .u8 0, .int .u8 0, .int .u16 0, .int .u8 0, .string ByteArray.empty] 152)).setRow wr.heap.size (encO o).toArray) = w5 at *
      clear KZ BN R y3
      generalize wr.heap.size = go at *
      have yk : w5.cell? ⟨go, 0, none⟩ = some (.int .u8 ((o.1.val : Nat) : Int)) := KO5.out.cell 0
      obtain ⟨q5, hq5⟩ : ∃ q5, q5 = partB p k ++ [UInt8.ofNat o.1.val] := ⟨_, rfl⟩
      have lq5 : q5.length ≤ 20001 := by rw [hq5, List.length_append]; simp; omega
      have lq5' : Hid (q5.length = (partB p k).length + 1) := by rw [Hid, hq5, List.length_append]; rfl
      have EQ5 : Hid (encB q5 = encB (partB p k) ++ [.int .u8 ((o.1.val : Nat) : Int)]) := by
        rw [Hid, hq5, encB_append, show encB [UInt8.ofNat o.1.val] = [.int .u8 ((o.1.val : Nat) : Int)] by show enc1 _ ++ [] = _; rw [enc1_nat o.1.isLt, List.append_nil]]
      have EB : Hid (partB p (k + 1) = q5 ++ (refsB o (refsO o).length ++ if namedK o.1.val = true then textB o.2.2.2 else [])) := by rw [Hid, EB.out, hq5]; simp
      replace hq5 := Lib.hid hq5
      go_upto_region 9 with (at_builtin; refine wpList_pushF byteSl O5.out [.int .u8 ((o.1.val : Nat) : Int)] rfl (by simp [Value.oneCell']) (size_at hB0.out B5.out) (by omega) (by unfold maxLen; omega) (by rfl) (by rfl) (by rfl) ?_; intro v6 w6 own6 kep6 new6)
      have B6 := Lib.hid (B5.out.trans (kep6.below (fun k e => (O5.out.lt k e).1) (size_at hB0.out B5.out)))
      have O6 : Hid (w6.ownsRow B0 5 1 v6 q5.length (encB q5)) := by rw [Hid, EQ5.out, lq5'.out]; exact own6
      have KO6 := Lib.hid (kep6.blk KO5.out (fun e => own_ne_blk O5.out KO5.out (by decide) e rfl))
      clear own6 kep6 new6 O5 B5 KO5 yk EQ5 lq5'
      obtain ⟨A6, c6, rfl, _, _⟩ := Sl.of_own O6.out
      go_wp2_with (refine wpList_load_row rfl 152 _ (by rfl) go (by rfl) _ _ _ _ KO6.out underOp rfl infoOp ?_)
      refine (rrefsW o w6).mono ?_
      rintro e w7 ⟨vr, rfl, o7, b7⟩
      obtain ⟨Ar, cr, rfl, _, _⟩ := Sl.of_own o7
      have OR7 := Lib.hid o7
      have O7 := Lib.hid (own_ext O6.out b7)
      have KO7 := Lib.hid (KO6.out.ext b7)
      have B7 := Lib.hid (B6.out.trans (b7.mono (size_at hB0.out B6.out)))
      clear o7 b7 O6 KO6 B6
      have hrl := refsO_le o
      have hrb := refsB_len o
      generalize w6.heap.size = BR at *
      obtain ⟨nr, hnr⟩ : ∃ nr, nr = (refsO o).length := ⟨_, rfl⟩
      rw [← hnr] at OR7 hrl EB ⊢
      replace hnr := Lib.hid hnr
      go_wp2_with fail
      go_loopw [7, 3] (fun i v wr => ∃ j : Nat, j ≤ nr ∧ i = .int .i64 j ∧ Hid (wr.ownsRow B0 5 1 v (q5 ++ refsB o j).length (encB (q5 ++ refsB o j))) ∧ Hid (wr.ownsRow BR 98 3 (.slice Ar nr cr) nr ((refsO o).flatMap encV)) ∧ Hid (Blk wr go 152 (encO o).toArray) ∧ Hid (Below B0 w1 wr)) (fun i _ _ => nr - (intOf i).toNat)
      case atStart => exact ⟨0, by omega, rfl, by rw [refsB_zero, List.append_nil]; exact O7.out, OR7.out, KO7.out, B7.out⟩
      case round =>
        clear O7 OR7 KO7 B7
        obtain ⟨j, hj, rfl, O8, OR, KO, B8⟩ := hrel
        have hj0 : (0 : Int) ≤ (j : Int) := by omega
        have hrj := hrb j
        obtain ⟨A8, c8, rfl, _, _⟩ := Sl.of_own O8.out
        obtain ⟨q8, hq8⟩ : ∃ q8, q8 = q5 ++ refsB o j := ⟨_, rfl⟩
        have lq8 : q8.length ≤ 20021 := by rw [hq8, List.length_append]; omega
        rw [← hq8] at O8 ⊢
        by_cases hjl : j < nr
        · have hjk : (j : Int) < (nr : Int) := by omega
          obtain ⟨b2, o2, x, rfl, hb2, hx2, R2⟩ := (own_vids OR.out hnr.out.symm).at_ hjl
          have R2 := Lib.hid R2
          have EJ : Hid (q5 ++ refsB o (j + 1) = q8 ++ vbytes (packN x)) := by rw [Hid, refsB_snoc hx2, hq8, List.append_assoc]
          replace hq8 := Lib.hid hq8
          have hpk := packN_lt x
          have lpk := vbytes_ten (n := packN x) (by omega)
          clear hx2
          go_wp2_with (refine wpList_load_mid rfl 98 _ (by rfl) b2 (o2 + j * 3) (by rfl) _ _ R2.out underVid rfl infoVid ?_)
          refine (rpack19 x _).mono ?_
          rintro e w9 ⟨rfl, b9⟩
          have O9 := Lib.hid (own_ext O8.out b9)
          have OR9 := Lib.hid (own_ext OR.out b9)
          have KO9 := Lib.hid (KO.out.ext b9)
          have B9 := Lib.hid (B8.out.trans (b9.mono (size_at hB0.out B8.out)))
          clear b9 O8 OR KO B8 R2
          generalize packN x = pk at *
          obtain ⟨q9, hq9⟩ : ∃ q9, q9 = q8 ++ vbytes pk := ⟨_, rfl⟩
          rw [← hq9] at EJ
          replace hq9 := Lib.hid hq9
          go_wp2_with fail
          refine (rvbytes_any pk (by omega) w9).mono ?_
          rintro e wa10 ⟨va, rfl, oa, ba⟩
          obtain ⟨Aa, ca, rfl, _, sa⟩ := Sl.of_own oa
          have Oa := Lib.hid (own_ext O9.out ba)
          have Sa := Lib.hid sa
          have Ba := Lib.hid (B9.out.trans (ba.mono (size_at hB0.out B9.out)))
          have KO9a := Lib.hid (KO9.out.ext ba)
          have OR9a := Lib.hid (own_ext OR9.out ba)
          clear oa sa ba O9 B9 KO9 OR9
          go_wp2_with (at_builtin; refine wpList_catB byteSl Oa.out Sa.out (encB_one _) (size_at hB0.out Ba.out) (by omega) (by unfold maxLen; omega) (by rfl) (by rfl) ?_; intro vb wb10 own kep new
                       have B10 := Lib.hid (Ba.out.trans (kep.below (fun k e => (Oa.out.lt k e).1) (size_at hB0.out Ba.out)))
                       have O10 : Hid (wb10.ownsRow B0 5 1 vb q9.length (encB q9)) := by rw [Hid, hq9.out, encB_append, List.length_append]; exact own
                       have KO910 := Lib.hid (kep.blk KO9a.out (fun e => own_ne_blk Oa.out KO9a.out (by decide) e rfl))
                       have OR910 := Lib.hid (own_keepF OR9a.out fun k e => kep.block k (OR9a.out.lt k e).2 (fun e2 => own_ne_own OR9a.out Oa.out (by decide) e e2 rfl))
                       obtain ⟨A10, c10, rfl, _, _⟩ := Sl.of_own O10.out
                       clear own kep new Oa Sa Ba KO9a OR9a)
          go_roundw
          case rel => exact ⟨j + 1, by omega, by go_num, by rw [EJ.out]; exact O10.out, OR910.out, KO910.out, B10.out⟩
          case measure => simp [intOf]; omega
        · have hjk : ¬ (j : Int) < (nr : Int) := by omega
          obtain rfl : j = nr := by omega
          have yk : wr.cell? ⟨go, 0, none⟩ = some (.int .u8 ((o.1.val : Nat) : Int)) := KO.out.cell 0
          have yt : wr.cell? ⟨go, 7, none⟩ = some (.string o.2.2.2) := KO.out.cell 7
          by_cases hnm : o.1.val = 2 ∨ o.1.val = 3
          · have EK : Hid (partB p (k + 1) = q8 ++ textB o.2.2.2) := by rw [Hid, EB.out, if_pos (by unfold namedK; exact decide_eq_true hnm), hq8, List.append_assoc]
            replace hq8 := Lib.hid hq8
            have HTX := Lib.hid (rtext04_any o.2.2.2 (by omega) wr)
            have lt1 := textB_len (s := o.2.2.2) hT
            rcases hnm with h2 | h3
            · have z2 : (((o.1.val : Nat) : Int) == 2) = true := by rw [beq_iff_eq]; omega
              replace h2 := Lib.hid h2
              go_wp2_with fail
              refine HTX.out.mono ?_
              rintro e wa11 ⟨va, rfl, oa, ba⟩
              obtain ⟨Aa, ca, rfl, _, sa⟩ := Sl.of_own oa
              have Oa := Lib.hid (own_ext O8.out ba)
              have Sa := Lib.hid sa
              have Ba := Lib.hid (B8.out.trans (ba.mono (size_at hB0.out B8.out)))
              clear oa sa ba O8 B8 
              go_wp2_with (at_builtin; refine wpList_catB byteSl Oa.out Sa.out (encB_one _) (size_at hB0.out Ba.out) (by omega) (by unfold maxLen; omega) (by rfl) (by rfl) ?_; intro vb wb11 own kep new
                           have B11 := Lib.hid (Ba.out.trans (kep.below (fun k e => (Oa.out.lt k e).1) (size_at hB0.out Ba.out)))
                           have O11 : Hid (wb11.ownsRow B0 5 1 vb (partB p (k + 1)).length (encB (partB p (k + 1)))) := by rw [Hid, EK.out, encB_append, List.length_append]; exact own
                           obtain ⟨A11, c11, rfl, _, _⟩ := Sl.of_own O11.out
                           clear own kep new Oa Sa Ba )
              go_roundw
              case rel => exact ⟨k + 1, by omega, by go_num, O11.out, B11.out⟩
              case measure => simp [intOf]; omega
            · have z2 : (((o.1.val : Nat) : Int) == 2) = false := by rw [beq_eq_false_iff_ne]; omega
              have z3 : (((o.1.val : Nat) : Int) == 3) = true := by rw [beq_iff_eq]; omega
              replace h3 := Lib.hid h3
              go_wp2_with fail
              refine HTX.out.mono ?_
              rintro e wa11 ⟨va, rfl, oa, ba⟩
              obtain ⟨Aa, ca, rfl, _, sa⟩ := Sl.of_own oa
              have Oa := Lib.hid (own_ext O8.out ba)
              have Sa := Lib.hid sa
              have Ba := Lib.hid (B8.out.trans (ba.mono (size_at hB0.out B8.out)))
              clear oa sa ba O8 B8 
              go_wp2_with (at_builtin; refine wpList_catB byteSl Oa.out Sa.out (encB_one _) (size_at hB0.out Ba.out) (by omega) (by unfold maxLen; omega) (by rfl) (by rfl) ?_; intro vb wb11 own kep new
                           have B11 := Lib.hid (Ba.out.trans (kep.below (fun k e => (Oa.out.lt k e).1) (size_at hB0.out Ba.out)))
                           have O11 : Hid (wb11.ownsRow B0 5 1 vb (partB p (k + 1)).length (encB (partB p (k + 1)))) := by rw [Hid, EK.out, encB_append, List.length_append]; exact own
                           obtain ⟨A11, c11, rfl, _, _⟩ := Sl.of_own O11.out
                           clear own kep new Oa Sa Ba )
              go_roundw
              case rel => exact ⟨k + 1, by omega, by go_num, O11.out, B11.out⟩
              case measure => simp [intOf]; omega
          · have EK : Hid (partB p (k + 1) = q8) := by rw [Hid, EB.out, if_neg (by unfold namedK; rw [decide_eq_false hnm]; decide), hq8, List.append_nil]
            have z2 : (((o.1.val : Nat) : Int) == 2) = false := by rw [beq_eq_false_iff_ne]; omega
            have z3 : (((o.1.val : Nat) : Int) == 3) = false := by rw [beq_eq_false_iff_ne]; omega
            replace hq8 := Lib.hid hq8
            replace hnm := Lib.hid hnm
            go_wp2_with fail
            go_roundw
            case rel => exact ⟨k + 1, by omega, by go_num, by rw [EK.out]; exact O8.out, B8.out⟩
            case measure => simp [intOf]; omega
    · have hlk : ¬ (k : Int) < (n : Int) := by omega
      have y3 : wr.cell? ⟨g, 3, none⟩ = some (.slice A' n c') := by rw [hn.out]; exact (K0.out.below B.out hgB.out).cell 3
      have eAll := Lib.hid (partB_all p (k := k) (by rw [← hn.out]; omega))
      generalize partB p k = q12 at *
      go_wp2
      go_ret
      have hwB : w.heap.size ≤ B0 := by rw [hB0.out]; exact BZ.out.size
      refine ⟨_, rfl, ?_, BZ.out.trans (B.out.mono hwB)⟩
      rw [← eAll.out]
      exact own_mono' O.out hwB
end Go.Proofs.YtdafiipedlglpaaGreatDoor
