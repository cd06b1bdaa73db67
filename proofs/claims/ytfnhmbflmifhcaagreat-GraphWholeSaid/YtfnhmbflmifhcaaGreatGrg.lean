/- A graph: whether what an operation names is there, and of the kinds that it takes: walked. -/
import Derived.Test.YtfnhmbflmifhcaaGreatGrf
namespace Go.Proofs.YtfnhmbflmifhcaaGreat
open Go.RowKit

theorem kindIs_of {f : VidV → Option RawV} {v : VidV} {r : RawV} (h : f v = some r) (k : Nat) : kindIs f v k = decide (r.1.val = k) := by unfold kindIs; rw [h]
theorem kindIs_none {f : VidV → Option RawV} {v : VidV} (h : f v = none) (k : Nat) : kindIs f v k = false := by unfold kindIs; rw [h]
theorem refB_23 {f : VidV → Option RawV} {o : OpV} (h : o.1.val = 2 ∨ o.1.val = 3) : refB f o = kindIs f o.2.1 1 := by unfold refB; rw [if_pos h]
theorem refB_5 {f : VidV → Option RawV} {o : OpV} (h : o.1.val = 5) : refB f o = (f o.2.1).isSome := by unfold refB; rw [if_neg (by omega), if_pos h]
theorem refB_4 {f : VidV → Option RawV} {o : OpV} (h : o.1.val = 4) : refB f o = (kindIs f o.2.1 3 && (kindIs f o.2.2.1 3 && decide (fileF f o.2.1 = fileF f o.2.2.1))) := by unfold refB; rw [if_neg (by omega), if_neg (by omega), if_pos h]
theorem refB_1 {f : VidV → Option RawV} {o : OpV} (h : ¬ (o.1.val = 2 ∨ o.1.val = 3 ∨ o.1.val = 4 ∨ o.1.val = 5)) : refB f o = true := by unfold refB; rw [if_neg (by omega), if_neg (by omega), if_neg (by omega)]
set_option maxRecDepth 100000 in
set_option maxHeartbeats 8000000 in
theorem refs20_any {w : World} {F : Nat → Prop} {g : Nat} {L : List PatV} (hP : GraphM w F g L) (p : PatV) (hn : ∀ q ∈ L, q.1 ≠ p.1) (cs : List Value) (hp : PatAt w cs p) (o : OpV) :
    Calls Tryz.prog 67 #[.pointer (some ⟨g, 0, none⟩), .agg cs.toArray, .agg (encO o).toArray] w (RetB w (.bool (refB (rawV (L ++ [p])) o))) := by
  have hp0 := Lib.hid hp
  obtain ⟨⟨A, c, A', c', rfl, _, _⟩, _, _⟩ := hp
  obtain ⟨PC, hPC⟩ : ∃ PC, PC = (patC p.1 A p.2.1.length c A' p.2.2.length c').toArray := ⟨_, rfl⟩
  have HPA0 : Hid (∀ w', Below w.heap.size w w' → PatAt w' (patC p.1 A p.2.1.length c A' p.2.2.length c') p) := fun w' h => hp0.out.ext h
  have hPs : Hid (PC.size = 4) := by rw [hPC]; rfl
  have HLK : Hid (∀ (w' : World) (v : VidV), Below w.heap.size w w' → Calls Tryz.prog 143 #[.pointer (some ⟨g, 0, none⟩), .agg PC, .agg (encV v).toArray] w' (RetVert w' (lookX L p v).1 (lookX L p v).2)) := fun w' v h => by
    rw [hPC]; exact look20_any (hP.ext h) p _ (hp0.out.ext h) v
  rw [← hPC]
  have K4 : Hid (Blk ((w.alloc (.cells PC 37)).alloc (.cells (encO o).toArray 110)) w.heap.size 37 PC) := (Blk.new _ _ _).alloc _
  have K5 : Hid (Blk ((w.alloc (.cells PC 37)).alloc (.cells (encO o).toArray 110)) (w.heap.size + 1) 110 (encO o).toArray) := Blk.newAt (by simp) _ _
  have B0 : Hid (Below w.heap.size w ((w.alloc (.cells PC 37)).alloc (.cells (encO o).toArray 110))) := ((Below.refl _ _).alloc (Nat.le_refl _) _).alloc (by simp) _
  clear hPC hp0 HPA0 hP
  go_enter Tryz.func67, Tryz.ntmps67
  go_upto_region 1 with fail
  generalize ((w.alloc (.cells PC 37)).alloc (.cells (encO o).toArray 110)) = w1 at *
  generalize w.heap.size + 1 = g5 at *
  obtain ⟨g4, hg4⟩ : ∃ g4, g4 = w.heap.size := ⟨_, rfl⟩
  rw [← hg4] at K4 ⊢
  replace hg4 := Lib.hid hg4
  have RA := Lib.hid (opv_at (blk_pat K5.out))
  rw [Nat.zero_add] at RA
  have hX := lookX_raw hn o.2.1
  have HX := Lib.hid (HLK.out w1 o.2.1 B0.out)
  generalize hx : (lookX L p o.2.1).1 = x at hX HX
  generalize hok : (lookX L p o.2.1).2 = ok at hX HX
  clear hx hok
  go_wp2_with (first
    | (refine wpList_load_row rfl 37 _ (by rfl) g4 (by rfl) _ _ _ _ K4.out underPat rfl (by rw [hPs.out]; exact infoPat) ?_)
    | (refine wpList_load_mid rfl 43 _ (by rfl) g5 1 (by rfl) _ _ RA.out underVid rfl infoVid ?_))
  refine HX.out.mono ?_
  rintro e w2 ⟨rfl, b2⟩
  have KZ : Hid (Blk (w2.alloc (.cells zeroX 46)) w2.heap.size 46 zeroX) := Blk.new _ _ _
  have K7 : Hid (Blk ((w2.alloc (.cells zeroX 46)).setRow w2.heap.size (encX x).toArray) w2.heap.size 46 (encX x).toArray) := KZ.out.row _
  have BN : Hid (Below w2.heap.size w2 ((w2.alloc (.cells zeroX 46)).setRow w2.heap.size (encX x).toArray)) := below_setRow (below_new w2 _) (Nat.le_refl _) _
  have B2 := Lib.hid (B0.out.trans (b2.mono B0.out.size))
  have B3 := Lib.hid (B2.out.trans (BN.out.mono B2.out.size))
  have K4 := Lib.hid ((K4.out.ext b2).ext BN.out)
  have K5 := Lib.hid ((K5.out.ext b2).ext BN.out)
  clear RA HX B0 b2 B2
  go_upto_region 2 with (first
    | (refine wpList_alloced (allocVert _) ?_)
    | (refine wpList_store_row rfl 46 _ _ (by rfl) w2.heap.size (encX x).toArray (by rfl) (by rfl) _ _ KZ.out infoVert rfl (encX_all _) ?_))
  generalize ((w2.alloc (.cells zeroX 46)).setRow w2.heap.size (encX x).toArray) = w3 at *
  generalize w2.heap.size = g7 at *
  clear KZ BN
  have yk : w3.cell? ⟨g5, 0, none⟩ = some (.int .u8 ((o.1.val : Nat) : Int)) := K5.out.cell 0
  have xk : w3.cell? ⟨g7, 3, none⟩ = some (.int .u8 ((x.2.1.val : Nat) : Int)) := K7.out.cell 3
  by_cases c23 : o.1.val = 2 ∨ o.1.val = 3
  · have E := Lib.hid (refB_23 (f := rawV (L ++ [p])) c23)
    rcases c23 with c2 | c3
    · have za2 : (((o.1.val : Nat) : Int) == 2) = true := by rw [beq_iff_eq]; omega
      have za3 : (((o.1.val : Nat) : Int) == 3) = false := by rw [beq_eq_false_iff_ne]; omega
      have za4 : (((o.1.val : Nat) : Int) == 4) = false := by rw [beq_eq_false_iff_ne]; omega
      have za5 : (((o.1.val : Nat) : Int) == 5) = false := by rw [beq_eq_false_iff_ne]; omega
      replace c2 := Lib.hid c2
      rcases hX with ⟨hr, rfl⟩ | ⟨r, hr, rfl, hk, _⟩
      · have E2 := Lib.hid (E.out.trans (kindIs_none hr 1))
        clear hr
        go_wp2
        go_ret
        exact ⟨ret_bool E2.out.symm, B3.out⟩
      · have E2 := Lib.hid (E.out.trans (kindIs_of hr 1))
        rw [← hk] at E2
        clear hr hk
        by_cases h1 : x.2.1.val = 1
        · rw [decide_eq_true h1] at E2
          have q1 : (((x.2.1.val : Nat) : Int) == 1) = true := by rw [beq_iff_eq]; omega
          replace h1 := Lib.hid h1
          go_wp2
          go_ret
          exact ⟨ret_bool E2.out.symm, B3.out⟩
        · rw [decide_eq_false h1] at E2
          have q1 : (((x.2.1.val : Nat) : Int) == 1) = false := by rw [beq_eq_false_iff_ne]; omega
          replace h1 := Lib.hid h1
          go_wp2
          go_ret
          exact ⟨ret_bool E2.out.symm, B3.out⟩
    · have za2 : (((o.1.val : Nat) : Int) == 2) = false := by rw [beq_eq_false_iff_ne]; omega
      have za3 : (((o.1.val : Nat) : Int) == 3) = true := by rw [beq_iff_eq]; omega
      have za4 : (((o.1.val : Nat) : Int) == 4) = false := by rw [beq_eq_false_iff_ne]; omega
      have za5 : (((o.1.val : Nat) : Int) == 5) = false := by rw [beq_eq_false_iff_ne]; omega
      replace c3 := Lib.hid c3
      rcases hX with ⟨hr, rfl⟩ | ⟨r, hr, rfl, hk, _⟩
      · have E2 := Lib.hid (E.out.trans (kindIs_none hr 1))
        clear hr
        go_wp2
        go_ret
        exact ⟨ret_bool E2.out.symm, B3.out⟩
      · have E2 := Lib.hid (E.out.trans (kindIs_of hr 1))
        rw [← hk] at E2
        clear hr hk
        by_cases h1 : x.2.1.val = 1
        · rw [decide_eq_true h1] at E2
          have q1 : (((x.2.1.val : Nat) : Int) == 1) = true := by rw [beq_iff_eq]; omega
          replace h1 := Lib.hid h1
          go_wp2
          go_ret
          exact ⟨ret_bool E2.out.symm, B3.out⟩
        · rw [decide_eq_false h1] at E2
          have q1 : (((x.2.1.val : Nat) : Int) == 1) = false := by rw [beq_eq_false_iff_ne]; omega
          replace h1 := Lib.hid h1
          go_wp2
          go_ret
          exact ⟨ret_bool E2.out.symm, B3.out⟩
  · by_cases c5 : o.1.val = 5
    · have E := Lib.hid (refB_5 (f := rawV (L ++ [p])) c5)
      have za2 : (((o.1.val : Nat) : Int) == 2) = false := by rw [beq_eq_false_iff_ne]; omega
      have za3 : (((o.1.val : Nat) : Int) == 3) = false := by rw [beq_eq_false_iff_ne]; omega
      have za4 : (((o.1.val : Nat) : Int) == 4) = false := by rw [beq_eq_false_iff_ne]; omega
      have za5 : (((o.1.val : Nat) : Int) == 5) = true := by rw [beq_iff_eq]; omega
      replace c5 := Lib.hid c5
      rcases hX with ⟨hr, rfl⟩ | ⟨r, hr, rfl, hk, _⟩
      · have E2 : Hid (refB (rawV (L ++ [p])) o = false) := by rw [Hid, E.out, hr]; rfl
        clear hr
        go_wp2
        go_ret
        exact ⟨ret_bool E2.out.symm, B3.out⟩
      · have E2 : Hid (refB (rawV (L ++ [p])) o = true) := by rw [Hid, E.out, hr]; rfl
        clear hr hk
        go_wp2
        go_ret
        exact ⟨ret_bool E2.out.symm, B3.out⟩
    · by_cases c4 : o.1.val = 4
      · have E := Lib.hid (refB_4 (f := rawV (L ++ [p])) c4)
        have za2 : (((o.1.val : Nat) : Int) == 2) = false := by rw [beq_eq_false_iff_ne]; omega
        have za3 : (((o.1.val : Nat) : Int) == 3) = false := by rw [beq_eq_false_iff_ne]; omega
        have za4 : (((o.1.val : Nat) : Int) == 4) = true := by rw [beq_iff_eq]; omega
        have za5 : (((o.1.val : Nat) : Int) == 5) = false := by rw [beq_eq_false_iff_ne]; omega
        replace c4 := Lib.hid c4
        have RT := Lib.hid (opv_to (blk_pat K5.out))
        rw [Nat.zero_add] at RT
        have hY := lookX_raw hn o.2.2.1
        have HY := Lib.hid (HLK.out w3 o.2.2.1 B3.out)
        generalize hy : (lookX L p o.2.2.1).1 = y at hY HY
        generalize hok : (lookX L p o.2.2.1).2 = is at hY HY
        clear hy hok
        go_wp2_with (first
          | (refine wpList_load_row rfl 37 _ (by rfl) g4 (by rfl) _ _ _ _ K4.out underPat rfl (by rw [hPs.out]; exact infoPat) ?_)
          | (refine wpList_load_mid rfl 43 _ (by rfl) g5 4 (by rfl) _ _ RT.out underVid rfl infoVid ?_))
        refine HY.out.mono ?_
        rintro e w4 ⟨rfl, b4⟩
        have KZ : Hid (Blk (w4.alloc (.cells zeroX 46)) w4.heap.size 46 zeroX) := Blk.new _ _ _
        have K9 : Hid (Blk ((w4.alloc (.cells zeroX 46)).setRow w4.heap.size (encX y).toArray) w4.heap.size 46 (encX y).toArray) := KZ.out.row _
        have BN : Hid (Below w4.heap.size w4 ((w4.alloc (.cells zeroX 46)).setRow w4.heap.size (encX y).toArray)) := below_setRow (below_new w4 _) (Nat.le_refl _) _
        have B4 := Lib.hid (B3.out.trans (b4.mono B3.out.size))
        have B5 := Lib.hid (B4.out.trans (BN.out.mono B4.out.size))
        have K7 := Lib.hid ((K7.out.ext b4).ext BN.out)
        clear RT HY B3 b4 B4 yk xk K4 K5 HLK
        go_upto_region 10 with (first
          | (refine wpList_alloced (allocVert _) ?_)
          | (refine wpList_store_row rfl 46 _ _ (by rfl) w4.heap.size (encX y).toArray (by rfl) (by rfl) _ _ KZ.out infoVert rfl (encX_all _) ?_))
        generalize ((w4.alloc (.cells zeroX 46)).setRow w4.heap.size (encX y).toArray) = w5 at *
        generalize w4.heap.size = g9 at *
        clear KZ BN
        have xk : w5.cell? ⟨g7, 3, none⟩ = some (.int .u8 ((x.2.1.val : Nat) : Int)) := K7.out.cell 3
        have yk : w5.cell? ⟨g9, 3, none⟩ = some (.int .u8 ((y.2.1.val : Nat) : Int)) := K9.out.cell 3
        have RX := Lib.hid (vx_file (blk_pat K7.out))
        have RY := Lib.hid (vx_file (blk_pat K9.out))
        rw [Nat.zero_add] at RX RY
        rcases hX with ⟨hr, rfl⟩ | ⟨r, hr, rfl, hk, hf⟩
        · have E2 : Hid (refB (rawV (L ++ [p])) o = false) := by rw [Hid, E.out, kindIs_none hr]; rfl
          clear hr hY
          go_wp2
          go_ret
          exact ⟨ret_bool E2.out.symm, B5.out⟩
        · rcases hY with ⟨hs, rfl⟩ | ⟨s, hs, rfl, hk2, hf2⟩
          · have E2 : Hid (refB (rawV (L ++ [p])) o = false) := by rw [Hid, E.out, kindIs_none hs, Bool.false_and, Bool.and_false]
            clear hr hs hk hf
            go_wp2
            go_ret
            exact ⟨ret_bool E2.out.symm, B5.out⟩
          · have E2 : Hid (refB (rawV (L ++ [p])) o = (decide (x.2.1.val = 3) && (decide (y.2.1.val = 3) && decide (x.2.2.1 = y.2.2.1)))) := by rw [Hid, E.out, kindIs_of hr, kindIs_of hs, fileF_of hr, fileF_of hs, hk, hk2, hf, hf2]
            clear hr hs hk hf hk2 hf2
            by_cases h1 : x.2.1.val = 3
            · have q1 : (((x.2.1.val : Nat) : Int) == 3) = true := by rw [beq_iff_eq]; omega
              rw [decide_eq_true h1, Bool.true_and] at E2
              replace h1 := Lib.hid h1
              by_cases h2 : y.2.1.val = 3
              · have q2 : (((y.2.1.val : Nat) : Int) == 3) = true := by rw [beq_iff_eq]; omega
                rw [decide_eq_true h2, Bool.true_and] at E2
                replace h2 := Lib.hid h2
                have EQ := fun u => eqlV x.2.2.1 y.2.2.1 u
                go_wp2_with (first
                  | (refine wpList_load_midG (by kernel_rfl) 43 _ (by rfl) g7 4 (by rfl) _ _ RX.out underVid rfl infoVid ?_)
                  | (refine wpList_load_midG (by kernel_rfl) 43 _ (by rfl) g9 4 (by rfl) _ _ RY.out underVid rfl infoVid ?_))
                go_ret
                exact ⟨ret_bool E2.out.symm, B5.out⟩
              · have q2 : (((y.2.1.val : Nat) : Int) == 3) = false := by rw [beq_eq_false_iff_ne]; omega
                rw [decide_eq_false h2, Bool.false_and] at E2
                replace h2 := Lib.hid h2
                go_wp2
                go_ret
                exact ⟨ret_bool E2.out.symm, B5.out⟩
            · have q1 : (((x.2.1.val : Nat) : Int) == 3) = false := by rw [beq_eq_false_iff_ne]; omega
              rw [decide_eq_false h1, Bool.false_and] at E2
              replace h1 := Lib.hid h1
              go_wp2
              go_ret
              exact ⟨ret_bool E2.out.symm, B5.out⟩
      · have E := Lib.hid (refB_1 (f := rawV (L ++ [p])) (o := o) (by omega))
        have za2 : (((o.1.val : Nat) : Int) == 2) = false := by rw [beq_eq_false_iff_ne]; omega
        have za3 : (((o.1.val : Nat) : Int) == 3) = false := by rw [beq_eq_false_iff_ne]; omega
        have za4 : (((o.1.val : Nat) : Int) == 4) = false := by rw [beq_eq_false_iff_ne]; omega
        have za5 : (((o.1.val : Nat) : Int) == 5) = false := by rw [beq_eq_false_iff_ne]; omega
        go_wp2
        go_ret
        exact ⟨ret_bool E.out.symm, B3.out⟩
end Go.Proofs.YtfnhmbflmifhcaaGreat
