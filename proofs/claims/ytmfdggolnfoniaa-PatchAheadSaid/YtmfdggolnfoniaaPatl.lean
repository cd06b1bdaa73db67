/- Does an operation name something that came later? Walked. -/
import Derived.Test.YtmfdggolnfoniaaPatj
namespace Go.Proofs.Ytmfdggolnfoniaa
open Go.RowKit

def isLater (id : PidV) (v : VidV) : Bool := decide (((v.1.1.val : Nat) : Int) = ((id.1.val : Nat) : Int)) && decide (((id.2.val : Nat) : Int) < ((v.1.2.val : Nat) : Int))
set_option maxRecDepth 100000 in
set_option maxHeartbeats 2000000 in
theorem later1_any (y : VidV) (id : PidV) (w : World) (g : Nat) (K : Blk w g 33 (encP id).toArray) : Calls Try.prog 54 #[.agg (encV y).toArray, .pointer (some ⟨g, 0, none⟩)] w (RetB w (.bool (isLater id y))) := by
  have B0 : Hid (Below w.heap.size w (w.alloc (.cells (encV y).toArray 49))) := below_new _ _
  have K2 : Hid (Blk (w.alloc (.cells (encV y).toArray 49)) w.heap.size 49 (encV y).toArray) := Blk.new _ _ _
  have K1 := Lib.hid (K.alloc (.cells (encV y).toArray 49))
  have a0 : (w.alloc (.cells (encV y).toArray 49)).cell? ⟨g, 0, none⟩ = some (.int .u8 ((id.1.val : Nat) : Int)) := K1.out.cell 0
  have a1 : (w.alloc (.cells (encV y).toArray 49)).cell? ⟨g, 1, none⟩ = some (.int .u16 ((id.2.val : Nat) : Int)) := K1.out.cell 1
  have b0 : (w.alloc (.cells (encV y).toArray 49)).cell? ⟨w.heap.size, 0, none⟩ = some (.int .u8 ((y.1.1.val : Nat) : Int)) := K2.out.cell 0
  have b1 : (w.alloc (.cells (encV y).toArray 49)).cell? ⟨w.heap.size, 1, none⟩ = some (.int .u16 ((y.1.2.val : Nat) : Int)) := K2.out.cell 1
  have F : Hid (isLater id y = (decide (((y.1.1.val : Nat) : Int) = ((id.1.val : Nat) : Int)) && decide (((id.2.val : Nat) : Int) < ((y.1.2.val : Nat) : Int)))) := rfl
  clear K K1 K2
  generalize isLater id y = r at *
  generalize ((id.1.val : Nat) : Int) = i1 at a0 F
  generalize ((id.2.val : Nat) : Int) = i2 at a1 F
  generalize ((y.1.1.val : Nat) : Int) = j1 at b0 F
  generalize ((y.1.2.val : Nat) : Int) = j2 at b1 F
  by_cases h1 : j1 = i1
  · have d1 : (j1 == i1) = true := beq_iff_eq.2 h1
    by_cases h2 : i2 < j2
    · have F : Hid (true = r) := by rw [Hid, F.out, decide_eq_true h1, decide_eq_true h2]; rfl
      clear h1
      go_enter Try.func54, Try.ntmps54
      go_wp2
      go_ret
      exact ⟨ret_bool F.out, B0.out⟩
    · have F : Hid (false = r) := by rw [Hid, F.out, decide_eq_true h1, decide_eq_false h2]; rfl
      clear h1
      go_enter Try.func54, Try.ntmps54
      go_wp2
      go_ret
      exact ⟨ret_bool F.out, B0.out⟩
  · have d1 : (j1 == i1) = false := beq_eq_false_iff_ne.2 h1
    have F : Hid (false = r) := by rw [Hid, F.out, decide_eq_false h1]; rfl
    clear h1
    go_enter Try.func54, Try.ntmps54
    go_wp2
    go_ret
    exact ⟨ret_bool F.out, B0.out⟩
def RetI (w : World) (b : Bool) (e : Ending) (w' : World) : Prop := ∃ r : Int, e = .returned (.int .i64 r) ∧ decide (0 ≤ r) = b ∧ Below w.heap.size w w'
theorem anyV_false {vs : List VidV} {f : VidV → Bool} {k : Nat} {x : VidV} (h : vs[k]? = some x) (hk : (vs.take k).any f = false) (hx : f x = false) : (vs.take (k + 1)).any f = false := by
  rw [take_snoc' h, List.any_append, hk]; simp [hx]
theorem anyV_true {vs : List VidV} {f : VidV → Bool} {k : Nat} {x : VidV} (h : vs[k]? = some x) (hx : f x = true) : vs.any f = true := by
  rw [List.any_eq_true]; exact ⟨x, List.mem_of_getElem? h, hx⟩
set_option maxRecDepth 100000 in
set_option maxHeartbeats 2000000 in
theorem indexLater_any (vs : List VidV) (id : PidV) (w : World) (A : Option Addr) (n c g : Nat) (hm : n ≤ 40) (h : VidsAt w A n vs) (K : Blk w g 33 (encP id).toArray) :
    Calls Try.prog 67 #[.slice A n c, .func (.func 54) #[] #[.pointer (some ⟨g, 0, none⟩)]] w (RetI w (vs.any (isLater id))) := by
  have H := Lib.hid h
  have HG := Lib.hid K
  clear h K
  go_enter Try.func67, Try.ntmps67
  go_wp2_with fail
  go_loopw [8] (fun i wr => ∃ k : Nat, k ≤ n ∧ i = .int .i64 k ∧ Hid ((vs.take k).any (isLater id) = false) ∧ Hid (Below w.heap.size w wr)) (fun i _ => n - (intOf i).toNat)
  case atStart => exact ⟨0, by omega, rfl, rfl, Below.refl _ _⟩
  case round =>
    obtain ⟨k, hk, rfl, T, B⟩ := hrel
    have hk0 : (0 : Int) ≤ (k : Int) := by omega
    by_cases hlt : k < n
    · obtain ⟨b, o, y, rfl, hb, hy, R0⟩ := H.out.at_ hlt
      have R0 := Lib.hid (rangeAt_below R0 B.out hb)
      have HC := Lib.hid (later1_any y id wr g (HG.out.ext B.out))
      have hlk : (k : Int) < (n : Int) := by omega
      by_cases he : isLater id y = true
      · have N := Lib.hid (anyV_true hy he)
        rw [he] at HC
        clear hy T he
        go_wp2_with (refine wpList_load_mid rfl 49 _ rfl _ _ (by rfl) _ _ R0.out underVid rfl infoVid ?_)
        refine HC.out.mono ?_
        rintro e w3 ⟨rfl, b3⟩
        have B3 := Lib.hid (B.out.trans (b3.mono B.out.size))
        clear b3 HC
        go_wp2_with fail
        go_ret
        exact ⟨k, rfl, by rw [N.out]; exact decide_eq_true hk0, B3.out⟩
      · have he : isLater id y = false := by simpa using he
        have N := Lib.hid (anyV_false hy T.out he)
        rw [he] at HC
        clear hy T he
        go_wp2_with (refine wpList_load_mid rfl 49 _ rfl _ _ (by rfl) _ _ R0.out underVid rfl infoVid ?_)
        refine HC.out.mono ?_
        rintro e w3 ⟨rfl, b3⟩
        have B3 := Lib.hid (B.out.trans (b3.mono B.out.size))
        clear b3 HC
        go_wp2_with fail
        go_roundw
        case rel => exact ⟨k + 1, by omega, by go_num, N.out, B3.out⟩
        case measure => simp [intOf]; omega
    · rw [List.take_of_length_le (by rw [H.out.len]; omega)] at T
      have hlk : ¬ ((k : Int) < (n : Int)) := by omega
      go_wp2
      go_ret
      exact ⟨-1, rfl, by rw [T.out]; rfl, B.out⟩
set_option maxRecDepth 100000 in
set_option maxHeartbeats 2000000 in
theorem containsLater_any (vs : List VidV) (id : PidV) (w : World) (A : Option Addr) (n c g : Nat) (hm : n ≤ 40) (h : VidsAt w A n vs) (K : Blk w g 33 (encP id).toArray) :
    Calls Try.prog 53 #[.slice A n c, .func (.func 54) #[] #[.pointer (some ⟨g, 0, none⟩)]] w (RetB w (.bool (vs.any (isLater id)))) := by
  have HI := Lib.hid (indexLater_any vs id w A n c g hm h K)
  clear h K
  generalize vs.any (isLater id) = r at *
  go_enter Try.func53, Try.ntmps53
  go_wp2_with fail
  refine HI.out.mono ?_
  rintro e w1 ⟨q, rfl, hr, b1⟩
  have F := Lib.hid hr
  have B1 := Lib.hid b1
  clear hr b1 HI
  go_wp2
  go_ret
  exact ⟨ret_bool F.out, B1.out⟩
set_option maxRecDepth 100000 in
set_option maxHeartbeats 2000000 in
theorem laterO_any (id : PidV) (o : OpV) (w : World) : Calls Try.prog 34 #[.agg (encP id).toArray, .agg (encO o).toArray] w (RetB w (.bool ((refsO o).any (isLater id)))) := by
  have K1 : Hid (Blk ((w.alloc (.cells (encP id).toArray 33)).alloc (.cells (encO o).toArray 54)) w.heap.size 33 (encP id).toArray) := (Blk.new _ _ _).alloc _
  have K2 : Hid (Blk ((w.alloc (.cells (encP id).toArray 33)).alloc (.cells (encO o).toArray 54)) (w.heap.size + 1) 54 (encO o).toArray) := Blk.newAt (by simp) _ _
  have B0 : Hid (Below w.heap.size w ((w.alloc (.cells (encP id).toArray 33)).alloc (.cells (encO o).toArray 54))) := ((Below.refl _ _).alloc (Nat.le_refl _) _).alloc (by simp) _
  go_enter Try.func34, Try.ntmps34
  go_upto_region 1 with fail
  generalize ((w.alloc (.cells (encP id).toArray 33)).alloc (.cells (encO o).toArray 54)) = w2 at *
  have R : Hid (w2.rangeAt (w.heap.size + 1) 0 (encO o)) := blk_sub K2.out fun j v hv => by simpa using hv
  have hr := refsO_le o
  clear K2
  go_wp2_with (refine wpList_load_mid rfl 54 _ rfl _ _ (by rfl) _ _ R.out underOp rfl infoOp ?_)
  refine (refsN o _).mono ?_
  rintro e w3 ⟨A, c, rfl, hc, V, b3⟩
  have K3 := Lib.hid (K1.out.ext b3)
  have B3 := Lib.hid (B0.out.trans (b3.mono B0.out.size))
  have HC := Lib.hid (containsLater_any (refsO o) id w3 A (refsO o).length c w.heap.size (by omega) V K3.out)
  clear V b3 K1 B0 R hc
  go_wp2_with fail
  refine HC.out.mono ?_
  rintro e w4 ⟨rfl, b4⟩
  have B4 := Lib.hid (B3.out.trans (b4.mono B3.out.size))
  clear b4 HC
  go_wp2
  go_ret
  exact ⟨rfl, B4.out⟩
end Go.Proofs.Ytmfdggolnfoniaa
