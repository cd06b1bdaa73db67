/- A graph: all vertices, those of a file, all files; all steps, those of a file: walked. -/
import Derived.Test.YtfnhmbflmifhcaaGreatGrk
import Derived.Test.YtfnhmbflmifhcaaGreatVids
namespace Go.Proofs.YtfnhmbflmifhcaaGreat
open Go.RowKit

def filesL (L : List PatV) : List VidV := ((vertsL L).filter fun x => decide (x.2.1.val = 1)).map (·.1)
def ofL (L : List PatV) (file : VidV) (kind : Nat) : List VertV := (vertsL L).filter fun x => decide (x.2.1.val = kind) && decide (x.2.2.1 = file)
def stepsL (L : List PatV) (file : VidV) : List EdgeV := (edgesL L).filter fun e => decide (fileV L e.1 = file)
set_option maxRecDepth 100000 in
set_option maxHeartbeats 1000000 in
theorem files1_any (x : VertV) (w : World) : Calls Tryz.prog 129 #[.agg (encX x).toArray] w (RetB w (.bool (decide (x.2.1.val = 1)))) := by
  have B0 : Hid (Below w.heap.size w (w.alloc (.cells (encX x).toArray 46))) := below_new _ _
  have K0 : Hid (Blk (w.alloc (.cells (encX x).toArray 46)) w.heap.size 46 (encX x).toArray) := Blk.new _ _ _
  go_enter Tryz.func129, Tryz.ntmps129
  go_upto_region 1 with fail
  generalize (w.alloc (.cells (encX x).toArray 46)) = w2 at *
  have y : w2.cell? ⟨w.heap.size, 3, none⟩ = some (.int .u8 ((x.2.1.val : Nat) : Int)) := K0.out.cell 3
  by_cases h : x.2.1.val = 1
  · have z : (((x.2.1.val : Nat) : Int) == 1) = true := by rw [beq_iff_eq]; omega
    have E := Lib.hid (decide_eq_true h)
    replace h := Lib.hid h
    go_wp2
    go_ret
    exact ⟨ret_bool E.out.symm, B0.out⟩
  · have z : (((x.2.1.val : Nat) : Int) == 1) = false := by rw [beq_eq_false_iff_ne]; omega
    have E := Lib.hid (decide_eq_false h)
    replace h := Lib.hid h
    go_wp2
    go_ret
    exact ⟨ret_bool E.out.symm, B0.out⟩
set_option maxRecDepth 100000 in
set_option maxHeartbeats 1000000 in
theorem steps1_any (v x : VidV) (g : Nat) (w : World) (K : Blk w g 43 (encV v).toArray) : Calls Tryz.prog 80 #[.agg (encV x).toArray, .pointer (some ⟨g, 0, none⟩)] w (RetB w (.bool (decide (x = v)))) := by
  have B0 : Hid (Below w.heap.size w (w.alloc (.cells (encV x).toArray 43))) := below_new _ _
  have K0 : Hid (Blk (w.alloc (.cells (encV x).toArray 43)) w.heap.size 43 (encV x).toArray) := Blk.new _ _ _
  have KG := Lib.hid (K.ext B0.out)
  have EQ := fun u => eqlV x v u
  clear K
  go_enter Tryz.func80, Tryz.ntmps80
  go_wp2_with (first
    | (refine wpList_load_row rfl 43 _ (by rfl) w.heap.size (by rfl) _ _ _ _ K0.out underVid rfl infoVid ?_)
    | (refine wpList_load_row rfl 43 _ (by rfl) g (by rfl) _ _ _ _ KG.out underVid rfl infoVid ?_))
  go_ret
  exact ⟨rfl, B0.out⟩
set_option maxRecDepth 100000 in
set_option maxHeartbeats 1000000 in
theorem of1_any (v : VidV) (kd : Nat) (x : VertV) (gk gf : Nat) (w : World) (Kk : w.cell? ⟨gk, 0, none⟩ = some (.int .u8 (kd : Int)) ∧ gk < w.heap.size) (K : Blk w gf 43 (encV v).toArray) : Calls Tryz.prog 78 #[.agg (encX x).toArray, .pointer (some ⟨gk, 0, none⟩), .pointer (some ⟨gf, 0, none⟩)] w (RetB w (.bool (decide (x.2.1.val = kd) && decide (x.2.2.1 = v)))) := by
  have B0 : Hid (Below w.heap.size w (w.alloc (.cells (encX x).toArray 46))) := below_new _ _
  have K0 : Hid (Blk (w.alloc (.cells (encX x).toArray 46)) w.heap.size 46 (encX x).toArray) := Blk.new _ _ _
  have KG := Lib.hid (K.ext B0.out)
  have yk : (w.alloc (.cells (encX x).toArray 46)).cell? ⟨gk, 0, none⟩ = some (.int .u8 (kd : Int)) := (B0.out.cell (p := ⟨gk, 0, none⟩) Kk.2).trans Kk.1
  have EQ := fun u => eqlV x.2.2.1 v u
  have RX := Lib.hid (vx_file (blk_pat K0.out))
  rw [Nat.zero_add] at RX
  clear K Kk
  go_enter Tryz.func78, Tryz.ntmps78
  go_upto_region 1 with fail
  generalize (w.alloc (.cells (encX x).toArray 46)) = w2 at *
  have y : w2.cell? ⟨w.heap.size, 3, none⟩ = some (.int .u8 ((x.2.1.val : Nat) : Int)) := K0.out.cell 3
  by_cases h : x.2.1.val = kd
  · have z : (((x.2.1.val : Nat) : Int) == (kd : Int)) = true := by rw [beq_iff_eq]; omega
    have E : Hid ((decide (x.2.1.val = kd) && decide (x.2.2.1 = v)) = decide (x.2.2.1 = v)) := by rw [Hid, decide_eq_true h, Bool.true_and]
    replace h := Lib.hid h
    go_wp2_with (first
      | (refine wpList_load_midG (by kernel_rfl) 43 _ (by rfl) w.heap.size 4 (by rfl) _ _ RX.out underVid rfl infoVid ?_)
      | (refine wpList_load_rowG (by kernel_rfl) 43 _ (by rfl) gf (by rfl) _ _ _ _ KG.out underVid rfl infoVid ?_))
    go_ret
    exact ⟨ret_bool E.out.symm, B0.out⟩
  · have z : (((x.2.1.val : Nat) : Int) == (kd : Int)) = false := by rw [beq_eq_false_iff_ne]; omega
    have E : Hid ((decide (x.2.1.val = kd) && decide (x.2.2.1 = v)) = false) := by rw [Hid, decide_eq_false h, Bool.false_and]
    replace h := Lib.hid h
    go_wp2
    go_ret
    exact ⟨ret_bool E.out.symm, B0.out⟩
section
variable {w : World} {F : Nat → Prop} {g : Nat} {L : List PatV}
set_option maxRecDepth 100000 in
set_option maxHeartbeats 1000000 in
theorem of20_any (hI : GraphAt w F g L) (hfew : L.length ≤ 400) (v : VidV) (kd : Nat) : Calls Tryz.prog 23 #[.pointer (some ⟨g, 0, none⟩), .agg (encV v).toArray, .int .u8 (kd : Int)] w (OwnedRet w 46 9 (ofL L v kd).length ((ofL L v kd).flatMap encX)) := by
  have K1 : Hid (Blk ((w.alloc (.cells (encV v).toArray 43)).alloc (.cells #[.int .u8 (kd : Int)] 5)) w.heap.size 43 (encV v).toArray) := (Blk.new _ _ _).alloc _
  have K2 : Hid (Blk ((w.alloc (.cells (encV v).toArray 43)).alloc (.cells #[.int .u8 (kd : Int)] 5)) (w.heap.size + 1) 5 #[.int .u8 (kd : Int)]) := Blk.newAt (by simp) _ _
  have B0 : Hid (Below w.heap.size w ((w.alloc (.cells (encV v).toArray 43)).alloc (.cells #[.int .u8 (kd : Int)] 5))) := ((Below.refl _ _).alloc (Nat.le_refl _) _).alloc (by simp) _
  have HI := Lib.hid (hI.ext B0.out)
  clear hI
  have E : Hid (ofL L v kd = (vertsL L).filter fun x => decide (x.2.1.val = kd) && decide (x.2.2.1 = v)) := rfl
  go_enter Tryz.func23, Tryz.ntmps23
  go_upto_region 1 with fail
  generalize ((w.alloc (.cells (encV v).toArray 43)).alloc (.cells #[.int .u8 (kd : Int)] 5)) = w2 at *
  have HS := Lib.hid (some20_any HI.out hfew (fun x => decide (x.2.1.val = kd) && decide (x.2.2.1 = v)) 78 (enters_of Tryz.func78 (by kernel_rfl) rfl) #[.pointer (some ⟨w.heap.size + 1, 0, none⟩), .pointer (some ⟨w.heap.size, 0, none⟩)] fun x wr hb => of1_any v kd x (w.heap.size + 1) w.heap.size wr ⟨(K2.out.ext hb).cell 0, (K2.out.ext hb).lt⟩ (K1.out.ext hb))
  rw [← E.out] at HS
  clear K1 K2 HI E
  generalize ofL L v kd = l at *
  go_wp2_with fail
  refine HS.out.mono ?_
  rintro e w3 ⟨u, rfl, o, b⟩
  have O := Lib.hid (own_mono' o B0.out.size)
  have B := Lib.hid (B0.out.trans (b.mono B0.out.size))
  clear o b HS
  go_wp2
  go_ret
  exact ⟨_, rfl, O.out, B.out⟩
set_option maxRecDepth 100000 in
set_option maxHeartbeats 1000000 in
theorem stepsOf20_any (hI : GraphAt w F g L) (hfew : L.length ≤ 400) (v : VidV) : Calls Tryz.prog 26 #[.pointer (some ⟨g, 0, none⟩), .agg (encV v).toArray] w (OwnedRet w 64 6 (stepsL L v).length ((stepsL L v).flatMap encE)) := by
  have K1 : Hid (Blk (w.alloc (.cells (encV v).toArray 43)) w.heap.size 43 (encV v).toArray) := Blk.new _ _ _
  have B0 : Hid (Below w.heap.size w (w.alloc (.cells (encV v).toArray 43))) := below_new _ _
  have HI := Lib.hid (hI.ext B0.out)
  clear hI
  have E : Hid (stepsL L v = (edgesL L).filter fun e => decide (fileV L e.1 = v)) := rfl
  go_enter Tryz.func26, Tryz.ntmps26
  go_upto_region 1 with fail
  generalize (w.alloc (.cells (encV v).toArray 43)) = w2 at *
  have HS := Lib.hid (steps20_any HI.out hfew (fun x => decide (x = v)) 80 (enters_of Tryz.func80 (by kernel_rfl) rfl) #[.pointer (some ⟨w.heap.size, 0, none⟩)] fun x wr hb => steps1_any v x w.heap.size wr (K1.out.ext hb))
  rw [← E.out] at HS
  clear K1 HI E
  generalize stepsL L v = l at *
  go_wp2_with fail
  refine HS.out.mono ?_
  rintro e w3 ⟨u, rfl, o, b⟩
  have O := Lib.hid (own_mono' o B0.out.size)
  have B := Lib.hid (B0.out.trans (b.mono B0.out.size))
  clear o b HS
  go_wp2
  go_ret
  exact ⟨_, rfl, O.out, B.out⟩
theorem own_verts {w : World} {base n c : Nat} {A : Option Addr} {l : List VertV} (h : w.ownsRow base 46 9 (.slice A n c) n (l.flatMap encX)) : Sl w w.heap.size 9 A n (l.flatMap encX) := by
  obtain ⟨A', c', e, _, hs⟩ := Sl.of_own h
  cases e
  exact hs
theorem vertsL_few (hG : GrOk L) (hfew : L.length ≤ 400) : (vertsL L).length ≤ 80000 := by
  have h1 : (vertsL L).length ≤ (idsOf L).length := by unfold vertsL idsL; rw [List.length_map]; exact setK_len _
  have h2 : (idsOf L).length ≤ opsN L := by
    unfold idsOf opsN
    have : ∀ M : List PatV, (M.flatMap idsP).length ≤ (M.map fun p => p.2.2.length).sum := by
      intro M
      induction M with
      | nil => simp
      | cons p M ih =>
        rw [List.flatMap_cons, List.length_append, List.map_cons, List.sum_cons]
        have : (idsP p).length ≤ p.2.2.length := by
          unfold idsP
          refine Nat.le_trans (List.length_filterMap_le _ _) ?_
          rw [List.length_range]
          exact Nat.le_refl _
        omega
    exact this L
  have := hG.opsN
  omega
set_option maxRecDepth 100000 in
set_option maxHeartbeats 2000000 in
theorem files20_any (hI : GraphAt w F g L) (hfew : L.length ≤ 400) : Calls Tryz.prog 58 #[.pointer (some ⟨g, 0, none⟩)] w (OwnedRet w 43 3 (filesL L).length ((filesL L).flatMap encV)) := by
  have HS := some20_any hI hfew (fun x => decide (x.2.1.val = 1)) 129 (enters_of Tryz.func129 (by kernel_rfl) rfl) #[] fun x wr _ => files1_any x wr
  have hl0 := vertsL_few hI.ok hfew
  have E : Hid (filesL L = ((vertsL L).filter fun x => decide (x.2.1.val = 1)).map (·.1)) := rfl
  have hl1 := List.length_filter_le (fun x : VertV => decide (x.2.1.val = 1)) (vertsL L)
  generalize (vertsL L).filter (fun x => decide (x.2.1.val = 1)) = l at *
  have HS := Lib.hid HS
  have hl : l.length ≤ 80000 := by omega
  have hnf : Hid ((filesL L).length = l.length) := by rw [Hid, E.out, List.length_map]
  clear hI hl0 hl1
  generalize filesL L = fl at *
  obtain ⟨n, hn⟩ : ∃ n, n = l.length := ⟨_, rfl⟩
  rw [← hn] at HS hl hnf
  replace hn := Lib.hid hn
  go_enter Tryz.func58, Tryz.ntmps58
  go_wp2_with fail
  refine HS.out.mono ?_
  rintro e w2 ⟨v, rfl, o, b⟩
  obtain ⟨A, c, rfl, _, _⟩ := Sl.of_own o
  have SV := Lib.hid (own_verts o)
  have B2 := Lib.hid b
  have BS := Lib.hid (Below.refl w2.heap.size w2)
  clear o b HS
  go_wp2_with fail
  go_loopw [9, 3] (fun i v wr => ∃ k : Nat, k ≤ n ∧ i = .int .i64 k ∧ Hid (wr.ownsRow w2.heap.size 43 3 v k ((fl.take k).flatMap encV)) ∧ Hid (Below w2.heap.size w2 wr)) (fun i _ _ => n - (intOf i).toNat)
  case atStart => exact ⟨0, by omega, rfl, World.ownsRow_nil _ _ _ _, BS.out⟩
  case round =>
    clear BS
    obtain ⟨k, hk, rfl, O, B⟩ := hrel
    have hk0 : (0 : Int) ≤ (k : Int) := by omega
    have hbs := B.out.size
    by_cases hlt : k < n
    · have hlk : (k : Int) < (n : Int) := by omega
      have hkl : k < l.length := by rw [← hn.out]; exact hlt
      obtain ⟨b, o, rfl, hb, R⟩ := (SV.out.below B.out (Nat.le_refl _)).rowAt hn.out.symm (fun x _ => encX_len x) hkl
      have hx : l[k]? = some l[k] := List.getElem?_eq_getElem hkl
      generalize l[k] = x at *
      have EN : Hid (fl.take (k + 1) = fl.take k ++ [x.1]) := by
        rw [Hid, E.out]
        exact take_snoc' (by rw [List.getElem?_map, hx]; rfl)
      have KZ : Hid (Blk (wr.alloc (.cells zeroX 46)) wr.heap.size 46 zeroX) := Blk.new _ _ _
      have KX : Hid (Blk ((wr.alloc (.cells zeroX 46)).setRow wr.heap.size (encX x).toArray) wr.heap.size 46 (encX x).toArray) := KZ.out.row _
      have BN : Hid (Below wr.heap.size wr ((wr.alloc (.cells zeroX 46)).setRow wr.heap.size (encX x).toArray)) := below_setRow (below_new wr _) (Nat.le_refl _) _
      have O4 := Lib.hid (own_ext O.out BN.out)
      have B4 := Lib.hid (B.out.trans (BN.out.mono B.out.size))
      have R := Lib.hid R
      clear hx O B
      go_upto_region 5 with (first
        | (refine wpList_load_mid rfl 46 _ (by rfl) b (o + k * 9) (by rfl) _ _ R.out underVert rfl infoVert ?_)
        | (refine wpList_alloced (allocVert _) ?_)
        | (refine wpList_store_row rfl 46 _ _ (by rfl) wr.heap.size (encX x).toArray (by rfl) (by rfl) _ _ KZ.out infoVert rfl (encX_all _) ?_))
      generalize ((wr.alloc (.cells zeroX 46)).setRow wr.heap.size (encX x).toArray) = w4 at *
      clear KZ BN R
      generalize wr.heap.size = gx at *
      have RI := Lib.hid (vx_id (blk_pat KX.out))
      have hbs := B4.out.size
      go_wp2_with (first
        | (refine wpList_load_mid rfl 43 _ (by rfl) gx 0 (by rfl) _ _ RI.out underVid rfl infoVid ?_)
        | (refine wpList_lit1 vidSl (encV_len x.1) (by omega) (by rfl) ?_)
        | (at_builtin; refine wpList_push vidSl O4.out (encV x.1) rfl (encV_one x.1) hbs (by omega) (by unfold maxLen; omega) (by rfl) (by rfl) (by rfl) ?_; intro v1 w6 own1 bel1))
      have O6 : Hid (w6.ownsRow w2.heap.size 43 3 v1 (k + 1) ((fl.take (k + 1)).flatMap encV)) := by
        rw [Hid, EN.out, List.flatMap_append]; simpa using own1
      have B6 := Lib.hid (B4.out.trans bel1)
      clear own1 bel1 O4 B4 KX RI EN
      go_roundw
      case rel => exact ⟨k + 1, by omega, by go_num, O6.out, B6.out⟩
      case measure => simp [intOf]; omega
    · have hlk : ¬ (k : Int) < (n : Int) := by omega
      obtain rfl : k = n := by omega
      rw [List.take_of_length_le (by rw [hnf.out]; omega)] at O
      obtain ⟨A9, c9, rfl, _, _⟩ := Sl.of_own O.out
      have BF := Lib.hid (B2.out.trans (B.out.mono B2.out.size))
      go_wp2
      go_ret
      refine ⟨_, rfl, ?_, BF.out⟩
      rw [hnf.out]
      exact own_mono' O.out B2.out.size
end
end Go.Proofs.YtfnhmbflmifhcaaGreat
