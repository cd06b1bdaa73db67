/- WHAT A PATCH NAMES COMES AHEAD: the plain law, and the statement walked. -/
import Derived.Test.YtmfdggolnfoniaaPatx
namespace Go.Proofs.Ytmfdggolnfoniaa
open Go.RowKit

theorem patB_parts {p : PatV} (h : patB p = true) : p.2.1 = depsV p.1 p.2.2 ∧ 1 ≤ p.2.2.length ∧ p.2.2.length ≤ 200 ∧ ∀ (k : Nat) o, p.2.2[k]? = some o → oneR p k o = true := by
  rw [patB_head, Bool.and_eq_true] at h
  have h1 := h.1
  unfold headB at h1
  simp only [Bool.and_eq_true, decide_eq_true_eq] at h1
  exact ⟨h1.2.2.2, h1.2.1, h1.2.2.1, fun k o ho => onesB_get h.2 (List.getElem?_eq_some_iff.1 ho).1 ho⟩
theorem ahead_rise {p : PatV} (h : patB p = true) {k : Nat} {x y : PidV} (h0 : 0 < k) (hx : p.2.1[k - 1]? = some x) (hy : p.2.1[k]? = some y) : keyP x < keyP y := by
  have hr : RiseK keyP p.2.1 := by rw [(patB_parts h).1]; exact setK_rise keyP_inj _
  exact rise_adj hr h0 hx hy
theorem oneR_parts {p : PatV} {k : Nat} {o : OpV} (h : oneR p k o = true) : goodO p.1 k o = true ∧ ∀ v ∈ refsO o, isLater p.1 v = false := by
  unfold oneR at h
  simp only [Bool.and_eq_true, Bool.not_eq_true'] at h
  exact ⟨h.1, fun v hv => by
    have := List.any_eq_false.1 h.2.1 v hv
    simpa using this⟩
theorem dep_of {id : PidV} {l : List OpV} {o : OpV} {v : VidV} (ho : o ∈ l) (hv : v ∈ refsO o) (hne : v.1 ≠ id) : v.1 ∈ depsV id l := by
  unfold depsV
  rw [setK_mem keyP_inj]
  unfold rawDeps
  refine List.mem_append_right _ (List.mem_flatMap.2 ⟨o, ho, ?_⟩)
  unfold opDeps
  exact List.mem_map.2 ⟨v, List.mem_filter.2 ⟨hv, by simpa using hne⟩, rfl⟩
theorem ahead_low {p : PatV} (h : patB p = true) {d : PidV} (hd : d ∈ p.2.1) : ¬ (d.1 = p.1.1 ∧ p.1.2.val ≤ d.2.val) := by
  obtain ⟨h1, h2, h3, h4⟩ := patB_parts h
  rw [h1] at hd
  unfold depsV at hd
  rw [setK_mem keyP_inj] at hd
  unfold rawDeps at hd
  rintro ⟨e1, e2⟩
  rcases List.mem_append.1 hd with hd | hd
  · unfold firstDep at hd
    split at hd
    · rename_i hs
      obtain rfl := List.mem_singleton.1 hd
      simp only at e2
      omega
    · cases hd
  · obtain ⟨o, ho, hd⟩ := List.mem_flatMap.1 hd
    unfold opDeps at hd
    obtain ⟨v, hv, rfl⟩ := List.mem_map.1 hd
    obtain ⟨hv, hne⟩ := List.mem_filter.1 hv
    obtain ⟨k, hk⟩ := List.mem_iff_getElem?.1 ho
    have hl := (oneR_parts (h4 k o hk)).2 v hv
    have hne : v.1 ≠ p.1 := by simpa using hne
    unfold isLater at hl
    have hlt : p.1.2.val < v.1.2.val := by
      rcases Nat.lt_or_ge p.1.2.val v.1.2.val with h | h
      · exact h
      · exact absurd (Prod.ext e1 (Fin.ext (by omega))) hne
    rw [decide_eq_true (by rw [e1]), decide_eq_true (by omega)] at hl
    cases hl
theorem veqV_iff (x y : VidV) : veqV (oldV x) (oldV y) = decide (x = y) := by
  unfold veqV oldV
  by_cases h : x = y
  · subst h; simp
  · rw [decide_eq_false h]
    simp only [Bool.and_eq_false_iff, decide_eq_false_iff_not]
    by_cases h1 : ((x.1.1.val : Nat) : Int) = ((y.1.1.val : Nat) : Int)
    · by_cases h2 : ((x.1.2.val : Nat) : Int) = ((y.1.2.val : Nat) : Int)
      · exact .inr fun h3 => h (Prod.ext (Prod.ext (fin_eq h1) (fin_eq h2)) (fin_eq h3))
      · exact .inl (.inr h2)
    · exact .inl (.inl h1)
theorem good_none {id : PidV} {i : Int} {o : OpV} (h : goodO id i o = true) : ∀ v ∈ [o.2.1, o.2.2.1], v = vid0 ∨ v ∈ refsO o := by
  obtain ⟨k1, k5⟩ := goodO_kind h
  have e0 : oldV vid0 = ⟨0, 0, 0⟩ := rfl
  unfold goodO opGood at h
  rw [Bool.and_eq_true] at h
  have h2 := h.2
  unfold tailOk at h2
  intro v hv
  by_cases c1 : o.1.val = 1
  · rw [if_pos (by omega), ← e0, veqV_iff, veqV_iff] at h2
    simp only [Bool.and_eq_true, decide_eq_true_eq] at h2
    left
    simp only [List.mem_cons, List.not_mem_nil, or_false] at hv
    rcases hv with rfl | rfl
    · exact h2.2.1
    · exact h2.1
  rw [if_neg (by omega)] at h2
  by_cases c4 : o.1.val = 4
  · right
    have e : refsO o = [o.2.1, o.2.2.1] := by unfold refsO; rw [if_neg (by omega), if_pos c4]
    rw [e]; exact hv
  have e : refsO o = [o.2.1] := by unfold refsO; rw [if_pos (by omega)]
  rw [e]
  have ht : o.2.2.1 = vid0 := by
    by_cases c2 : o.1.val = 2
    · rw [if_pos (by omega), ← e0, veqV_iff] at h2
      simp only [Bool.and_eq_true, decide_eq_true_eq] at h2
      exact h2.1
    rw [if_neg (by omega)] at h2
    by_cases c3 : o.1.val = 3
    · rw [if_pos (by omega), ← e0, veqV_iff] at h2
      simp only [Bool.and_eq_true, decide_eq_true_eq] at h2
      exact h2.1
    rw [if_neg (by omega), if_neg (by omega), if_pos (by omega), ← e0, veqV_iff] at h2
    simp only [Bool.and_eq_true, decide_eq_true_eq] at h2
    exact h2.1
  simp only [List.mem_cons, List.not_mem_nil, or_false] at hv
  rcases hv with rfl | rfl
  · exact .inr (by simp)
  · exact .inl ht
theorem ahead_names {p : PatV} (h : patB p = true) {i : Nat} {o : OpV} (ho : p.2.2[i]? = some o) : ∀ v ∈ [o.2.1, o.2.2.1], v = vid0 ∨ (v.1 = p.1 → v.2.val < i) ∧ (v.1 ≠ p.1 → v.1 ∈ p.2.1) := by
  obtain ⟨h1, h2, h3, h4⟩ := patB_parts h
  obtain ⟨hg, hl⟩ := oneR_parts (h4 i o ho)
  intro v hv
  rcases good_none hg v hv with e | e
  · exact .inl e
  · refine .inr ⟨fun he => ?_, fun he => ?_⟩
    · have := goodO_refs hg v e he; omega
    · rw [h1]; exact dep_of (List.mem_of_getElem? ho) e he
theorem allocPd (w : World) : (Instr.alloc 33 true (.tuple #[])).run Try.prog w = .ok (.pointer (some ⟨w.heap.size, 0, none⟩)) (w.alloc (.cells #[.int .u8 0, .int .u16 0] 33)) := by kernel_rfl
set_option maxRecDepth 100000 in
set_option maxHeartbeats 8000000 in
theorem patchAhead_walk (w : World) (p : PatV) (cs : List Value) (hp : PatAt w cs p) : Calls Try.prog 6 #[.agg cs.toArray] w (RetB w (.bool true)) := by
  have HP := Lib.hid hp
  obtain ⟨⟨A, c, A', c', rfl, P1, O1⟩, m1, m2⟩ := hp
  have K1 : Hid (Blk (w.alloc (.cells (patC p.1 A p.2.1.length c A' p.2.2.length c').toArray 37)) w.heap.size 37 (patC p.1 A p.2.1.length c A' p.2.2.length c').toArray) := Blk.new _ _ _
  have B0 : Hid (Below w.heap.size w (w.alloc (.cells (patC p.1 A p.2.1.length c A' p.2.2.length c').toArray 37))) := below_new _ _
  go_enter Try.func6, Try.ntmps6
  go_upto_region 1 with fail
  generalize (w.alloc (.cells (patC p.1 A p.2.1.length c A' p.2.2.length c').toArray 37)) = w2 at *
  have PA := Lib.hid (HP.out.ext B0.out)
  have P1 := Lib.hid (P1.ext B0.out)
  have O1 := Lib.hid (O1.ext B0.out)
  obtain ⟨g1, hg1⟩ : ∃ g, g = w.heap.size := ⟨_, rfl⟩
  rw [← hg1] at K1 ⊢
  clear hg1 HP
  have HF1 := Lib.hid (few18_any p w2 _ PA.out)
  cases hf : fewP p
  · rw [fewN_false hf] at HF1
    go_wp2_with (refine wpList_load_row rfl 37 _ (by rfl) g1 (by rfl) _ _ _ _ K1.out underPat rfl infoPat ?_)
    refine HF1.out.mono ?_
    rintro e w3 ⟨rfl, bn⟩
    have B3 := Lib.hid (B0.out.trans (bn.mono B0.out.size))
    clear bn HF1
    go_wp2_with fail
    refine (works18 _).mono ?_
    rintro e w4 ⟨rfl, bn⟩
    have B4 := Lib.hid (B3.out.trans (bn.mono B3.out.size))
    clear bn
    go_wp2
    go_ret
    exact ⟨rfl, B4.out⟩
  rw [fewN_true hf] at HF1
  have hn1 : p.2.1.length ≤ 100 := (fewP_len hf).1
  have hn2 : p.2.2.length ≤ 260 := (fewP_len hf).2
  clear hf m1 m2
  go_wp2_with (refine wpList_load_row rfl 37 _ (by rfl) g1 (by rfl) _ _ _ _ K1.out underPat rfl infoPat ?_)
  refine HF1.out.mono ?_
  rintro e w3 ⟨rfl, bn⟩
  have B3 := Lib.hid (B0.out.trans (bn.mono B0.out.size))
  have HG := Lib.hid (good18_any p w3 _ (PA.out.ext bn))
  have K1 := Lib.hid (K1.out.ext bn)
  have P1 := Lib.hid (P1.out.ext bn)
  have O1 := Lib.hid (O1.out.ext bn)
  clear bn HF1 B0 PA
  have a0 : w3.cell? ⟨g1, 0, none⟩ = some (.int .u8 ((p.1.1.val : Nat) : Int)) := K1.out.cell 0
  have a1 : w3.cell? ⟨g1, 1, none⟩ = some (.int .u16 ((p.1.2.val : Nat) : Int)) := K1.out.cell 1
  have a2 : w3.cell? ⟨g1, 2, none⟩ = some (.slice A p.2.1.length c) := K1.out.cell 2
  have a3 : w3.cell? ⟨g1, 3, none⟩ = some (.slice A' p.2.2.length c') := K1.out.cell 3
  cases hg : patB p
  · rw [hg] at HG
    go_wp2_with fail
    refine HG.out.mono ?_
    rintro e w4 ⟨rfl, bn⟩
    have B4 := Lib.hid (B3.out.trans (bn.mono B3.out.size))
    clear bn HG a0 a1 a2 a3
    go_wp2_with fail
    refine (works18 _).mono ?_
    rintro e w5 ⟨rfl, bn⟩
    have B5 := Lib.hid (B4.out.trans (bn.mono B4.out.size))
    clear bn
    go_wp2
    go_ret
    exact ⟨rfl, B5.out⟩
  rw [hg] at HG
  have HR := Lib.hid (fun (k : Nat) (x y : PidV) (h0 : 0 < k) (hx : p.2.1[k - 1]? = some x) (hy : p.2.1[k]? = some y) => ahead_rise hg h0 hx hy)
  have HL := Lib.hid (fun (d : PidV) (hd : d ∈ p.2.1) => ahead_low hg hd)
  have HN := Lib.hid (fun (i : Nat) (o : OpV) (ho : p.2.2[i]? = some o) => ahead_names hg ho)
  have hpos : 1 ≤ p.2.2.length := (patB_parts hg).2.1
  clear hg
  go_wp2_with fail
  refine HG.out.mono ?_
  rintro e w5 ⟨rfl, bn⟩
  have B5 := Lib.hid (B3.out.trans (bn.mono B3.out.size))
  have K1 := Lib.hid (K1.out.ext bn)
  have P1 := Lib.hid (P1.out.ext bn)
  have O1 := Lib.hid (O1.out.ext bn)
  clear bn HG B3 a0 a1 a2 a3
  go_wp2_with fail
  go_loopw [3] (fun i wr => ∃ k : Nat, k ≤ p.2.1.length ∧ i = .int .i64 k ∧ Hid (Below w5.heap.size w5 wr)) (fun i _ => p.2.1.length - (intOf i).toNat)
  case atStart => exact ⟨0, by omega, rfl, Below.refl _ _⟩
  case round =>
    obtain ⟨k, hk, rfl, B⟩ := hrel
    have hk0 : (0 : Int) ≤ (k : Int) := by omega
    have K4 := Lib.hid (K1.out.ext B.out)
    by_cases hlt : k < p.2.1.length
    · have hlk : (k : Int) < (p.2.1.length : Int) := by omega
      obtain ⟨b, off, d, rfl, hb, hd, R0⟩ := P1.out.at_ hlt
      have R0 := Lib.hid (rangeAt_below R0 B.out hb)
      have a2 : wr.cell? ⟨g1, 2, none⟩ = some (.slice (some ⟨b, off, none⟩) p.2.1.length c) := K4.out.cell 2
      have HS2 : Hid ((Try.prog.info? 33).map (·.size) = some (encP d).toArray.size) := infoPid
      have KD : Hid (Blk ((wr.alloc (.cells #[.int .u8 0, .int .u16 0] 33)).setRow wr.heap.size (encP d).toArray) wr.heap.size 33 (encP d).toArray) := (Blk.new _ _ _).row _
      have BD : Hid (Below wr.heap.size wr ((wr.alloc (.cells #[.int .u8 0, .int .u16 0] 33)).setRow wr.heap.size (encP d).toArray)) := below_setRow ((Below.refl _ _).alloc (Nat.le_refl _) _) (Nat.le_refl _) _
      have NL := HL.out d (List.mem_of_getElem? hd)
      go_upto_region 7 with (first
        | (refine wpList_load_mid rfl 33 _ (by rfl) b (off + k * 2) (by rfl) _ _ R0.out underPid rfl infoPid ?_)
        | (refine wpList_alloced (allocPd _) ?_)
        | (refine wpList_store_row rfl 33 _ _ (by rfl) wr.heap.size (encP d).toArray (by rfl) (by rfl) _ _ (Blk.new _ _ _) HS2.out rfl (all_oneCell_toArray (encP_one d)) ?_))
      generalize hw6 : ((wr.alloc (.cells #[.int .u8 0, .int .u16 0] 33)).setRow wr.heap.size (encP d).toArray) = w6 at *
      clear hw6 a2 R0 HS2
      have K6 := Lib.hid (K4.out.ext BD.out)
      have B6 := Lib.hid (B.out.trans (BD.out.mono B.out.size))
      generalize wr.heap.size = gd at *
      clear BD B K4
      simp only [Act.put, List.setIfInBounds_toArray, List.set_cons_zero, List.set_cons_succ]
      go_cut [60] (fun s wx => s = .bool false ∧ Below w6.heap.size w6 wx)
      case first =>
        have hgl : g1 < w6.heap.size := K6.out.lt
        have hdl : gd < w6.heap.size := KD.out.lt
        have x0 := ext_cell (show w6.cell? ⟨g1, 0, none⟩ = some (.int .u8 ((p.1.1.val : Nat) : Int)) from K6.out.cell 0) hgl
        have x1 := ext_cell (show w6.cell? ⟨g1, 1, none⟩ = some (.int .u16 ((p.1.2.val : Nat) : Int)) from K6.out.cell 1) hgl
        have x2 := ext_cell (show w6.cell? ⟨g1, 2, none⟩ = some (.slice (some ⟨b, off, none⟩) p.2.1.length c) from K6.out.cell 2) hgl
        have y0 := ext_cell (show w6.cell? ⟨gd, 0, none⟩ = some (.int .u8 ((d.1.val : Nat) : Int)) from KD.out.cell 0) hdl
        have y1 := ext_cell (show w6.cell? ⟨gd, 1, none⟩ = some (.int .u16 ((d.2.val : Nat) : Int)) from KD.out.cell 1) hdl
        have NL2 : ¬ (((d.1.val : Nat) : Int) = ((p.1.1.val : Nat) : Int) ∧ ((p.1.2.val : Nat) : Int) ≤ ((d.2.val : Nat) : Int)) := fun ⟨e1, e2⟩ => NL ⟨fin_eq e1, by omega⟩
        by_cases hz : 0 < k
        · obtain ⟨j, rfl⟩ : ∃ j, k = j + 1 := ⟨k - 1, by omega⟩
          obtain ⟨b', off', d', hA, hb', hd', R1⟩ := P1.out.at_ (k := j) (by omega)
          injection hA with hA
          injection hA with hA1 hA2 _
          subst hA1 hA2
          have hlt6 : b < w6.heap.size := Nat.lt_of_lt_of_le hb B6.out.size
          have R1 := rangeAt_below R1 B6.out hb
          have z0 := ext_cell (show w6.cell? ⟨b, off + j * 2, none⟩ = some (.int .u8 ((d'.1.val : Nat) : Int)) from R1 0 _ rfl) hlt6
          have z1 := ext_cell (show w6.cell? ⟨b, off + j * 2 + 1, none⟩ = some (.int .u16 ((d'.2.val : Nat) : Int)) from R1 1 _ rfl) hlt6
          have HC : Hid (∀ u : World, Calls Try.prog 25 #[.agg #[.int .u8 ((d'.1.val : Nat) : Int), .int .u16 ((d'.2.val : Nat) : Int)], .agg #[.int .u8 ((d.1.val : Nat) : Int), .int .u16 ((d.2.val : Nat) : Int)]] u (RetB u (.int .i64 (-1)))) := fun u => by
            have h1 := HR.out (j + 1) d' d hz (by simpa using hd') hd
            have h2 := rcmpP d' d u
            rw [signV_lt h1] at h2
            exact h2
          have ej : (((j + 1 : Nat) : Int) - 1) = (j : Int) := by omega
          have d0 : decide ((0 : Int) < ((j + 1 : Nat) : Int)) = true := decide_eq_true (by omega)
          have dj : (j : Int) < (p.2.1.length : Int) := by omega
          have dj0 : (0 : Int) ≤ (j : Int) := by omega
          clear R1 KD K6 hd hd' NL HR HL HN O1
          generalize ((d.1.val : Nat) : Int) = da at *
          generalize ((d.2.val : Nat) : Int) = dz at *
          generalize ((p.1.1.val : Nat) : Int) = pa at *
          generalize ((p.1.2.val : Nat) : Int) = pz at *
          by_cases e1 : da = pa
          · have d1 : (da == pa) = true := beq_iff_eq.2 e1
            have d2 : decide (pz ≤ dz) = false := decide_eq_false fun h => NL2 ⟨e1, h⟩
            clear e1 NL2
            refine wp_region_ext mixedS (by kernel_rfl) ?_
            repeat (first | go_big_quiet_skip | go_big_quiet_step ((go_at_call 25; with_reducible exact ext_call (HC.out _))))
            refine wpQuiet_nil ?_
            rintro _ ⟨z, rfl⟩
            have W := Lib.hid z.h
            generalize z.w = w7 at *
            go_wp2_with fail
            go_meet
            case rel => exact ⟨rfl, W.out⟩
          · have d1 : (da == pa) = false := beq_eq_false_iff_ne.2 e1
            clear e1 NL2
            refine wp_region_ext mixedS (by kernel_rfl) ?_
            repeat (first | go_big_quiet_skip | go_big_quiet_step ((go_at_call 25; with_reducible exact ext_call (HC.out _))))
            refine wpQuiet_nil ?_
            rintro _ ⟨z, rfl⟩
            have W := Lib.hid z.h
            generalize z.w = w7 at *
            go_wp2_with fail
            go_meet
            case rel => exact ⟨rfl, W.out⟩
        · obtain rfl : k = 0 := by omega
          clear KD K6 hd NL HR HL HN O1
          generalize ((d.1.val : Nat) : Int) = da at *
          generalize ((d.2.val : Nat) : Int) = dz at *
          generalize ((p.1.1.val : Nat) : Int) = pa at *
          generalize ((p.1.2.val : Nat) : Int) = pz at *
          by_cases e1 : da = pa
          · have d1 : (da == pa) = true := beq_iff_eq.2 e1
            have d2 : decide (pz ≤ dz) = false := decide_eq_false fun h => NL2 ⟨e1, h⟩
            clear e1 NL2
            refine wp_region_ext mixedS (by kernel_rfl) ?_
            repeat (first | go_big_quiet_skip | go_big_quiet_step (fail))
            refine wpQuiet_nil ?_
            rintro _ ⟨z, rfl⟩
            have W := Lib.hid z.h
            generalize z.w = w7 at *
            go_wp2_with fail
            go_meet
            case rel => exact ⟨rfl, W.out⟩
          · have d1 : (da == pa) = false := beq_eq_false_iff_ne.2 e1
            clear e1 NL2
            refine wp_region_ext mixedS (by kernel_rfl) ?_
            repeat (first | go_big_quiet_skip | go_big_quiet_step (fail))
            refine wpQuiet_nil ?_
            rintro _ ⟨z, rfl⟩
            have W := Lib.hid z.h
            generalize z.w = w7 at *
            go_wp2_with fail
            go_meet
            case rel => exact ⟨rfl, W.out⟩
      case rest =>
        obtain ⟨w7, rfl⟩ : ∃ w7, w7 = wc := ⟨_, rfl⟩
        obtain ⟨rfl, bn⟩ := hcut
        have B7 := Lib.hid (B6.out.trans (bn.mono B6.out.size))
        clear bn B6 KD K6
        go_wp2_with fail
        go_roundw
        case rel => exact ⟨k + 1, by omega, by go_num, B7.out⟩
        case measure => simp [intOf]; omega
    · have hlk : ¬ ((k : Int) < (p.2.1.length : Int)) := by omega
      have B6 := Lib.hid (B5.out.trans (B.out.mono B5.out.size))
      have P1 := Lib.hid (P1.out.ext B.out)
      have O1 := Lib.hid (O1.out.ext B.out)
      have a2 : wr.cell? ⟨g1, 2, none⟩ = some (.slice A p.2.1.length c) := K4.out.cell 2
      clear B B5 K1 HR HL
      obtain ⟨w6, rfl⟩ : ∃ w6 : World, w6 = wr := ⟨_, rfl⟩
      go_wp2_with fail
      clear a2 hlk
      go_loopw [5] (fun i wr => ∃ k : Nat, k ≤ p.2.2.length ∧ i = .int .i64 k ∧ Hid (Below w6.heap.size w6 wr)) (fun i _ => p.2.2.length - (intOf i).toNat)
      case atStart => exact ⟨0, by omega, rfl, Below.refl _ _⟩
      case round =>
        obtain ⟨i, hi, rfl, B⟩ := hrel
        have hi0 : (0 : Int) ≤ (i : Int) := by omega
        have K5 := Lib.hid (K4.out.ext B.out)
        have a3 : wr.cell? ⟨g1, 3, none⟩ = some (.slice A' p.2.2.length c') := K5.out.cell 3
        by_cases hlt : i < p.2.2.length
        · have hli : (i : Int) < (p.2.2.length : Int) := by omega
          obtain ⟨b, off, o, rfl, hb, ho, R0, hok⟩ := O1.out.at_ hlt
          have R0 := Lib.hid (rangeAt_below R0 B.out hb)
          have HS2 : Hid ((Try.prog.info? 54).map (·.size) = some (encO o).toArray.size) := infoOp
          have K2 : Hid (Blk ((wr.alloc (.cells #[.int .u8 0, .int .u8 0, .int .u16 0, .int .u8 0, .int .u8 0, .int .u16 0, .int .u8 0, .string ByteArray.empty] 54)).setRow wr.heap.size (encO o).toArray) wr.heap.size 54 (encO o).toArray) := (Blk.new _ _ _).row _
          have BD : Hid (Below wr.heap.size wr ((wr.alloc (.cells #[.int .u8 0, .int .u8 0, .int .u16 0, .int .u8 0, .int .u8 0, .int .u16 0, .int .u8 0, .string ByteArray.empty] 54)).setRow wr.heap.size (encO o).toArray)) := below_setRow ((Below.refl _ _).alloc (Nat.le_refl _) _) (Nat.le_refl _) _
          have NM := Lib.hid (HN.out i o ho)
          clear ho
          go_upto_region 13 with (first
            | (refine wpList_load_mid rfl 54 _ (by rfl) b (off + i * 8) (by rfl) _ _ R0.out underOp rfl infoOp ?_)
            | (refine wpList_alloced (allocOp _) ?_)
            | (refine wpList_store_row rfl 54 _ _ (by rfl) wr.heap.size (encO o).toArray (by rfl) (by rfl) _ _ (Blk.new _ _ _) HS2.out rfl (all_oneCell_toArray (encO_one o)) ?_))
          generalize hw7 : ((wr.alloc (.cells #[.int .u8 0, .int .u8 0, .int .u16 0, .int .u8 0, .int .u8 0, .int .u16 0, .int .u8 0, .string ByteArray.empty] 54)).setRow wr.heap.size (encO o).toArray) = w7 at *
          clear hw7 a3 R0 HS2
          have B7 := Lib.hid (B.out.trans (BD.out.mono B.out.size))
          have K7 := Lib.hid (K5.out.ext BD.out)
          generalize wr.heap.size = go at *
          have e1 : w7.cell? ⟨go, 1, none⟩ = some (.int .u8 ((o.2.1.1.1.val : Nat) : Int)) := K2.out.cell 1
          have e2 : w7.cell? ⟨go, 2, none⟩ = some (.int .u16 ((o.2.1.1.2.val : Nat) : Int)) := K2.out.cell 2
          have e3 : w7.cell? ⟨go, 3, none⟩ = some (.int .u8 ((o.2.1.2.val : Nat) : Int)) := K2.out.cell 3
          have e4 : w7.cell? ⟨go, 4, none⟩ = some (.int .u8 ((o.2.2.1.1.1.val : Nat) : Int)) := K2.out.cell 4
          have e5 : w7.cell? ⟨go, 5, none⟩ = some (.int .u16 ((o.2.2.1.1.2.val : Nat) : Int)) := K2.out.cell 5
          have e6 : w7.cell? ⟨go, 6, none⟩ = some (.int .u8 ((o.2.2.1.2.val : Nat) : Int)) := K2.out.cell 6
          have V : Hid (VidsAt (w7.alloc (.cells ([o.2.1, o.2.2.1].flatMap encV).toArray 49)) (some ⟨w7.heap.size, 0, none⟩) 2 [o.2.1, o.2.2.1]) := ⟨rfl, sl_fresh w7 _ 49 3 2 _ rfl rfl⟩
          have B8 : Hid (Below w6.heap.size w6 (w7.alloc (.cells ([o.2.1, o.2.2.1].flatMap encV).toArray 49))) := B7.out.alloc B7.out.size _
          have K8 : Hid (Blk (w7.alloc (.cells ([o.2.1, o.2.2.1].flatMap encV).toArray 49)) g1 37 (patC p.1 A p.2.1.length c (some ⟨b, off, none⟩) p.2.2.length c').toArray) := K7.out.alloc _
          clear B B7 BD K5 K7 K2
          go_upto_region 14 with fail
          obtain ⟨w8, hw8⟩ : ∃ w8, w8 = w7.alloc (.cells ([o.2.1, o.2.2.1].flatMap encV).toArray 49) := ⟨_, rfl⟩
          change Code.wp _ _ _ _ (w7.alloc (.cells ([o.2.1, o.2.2.1].flatMap encV).toArray 49))
          rw [← hw8] at V B8 K8 ⊢
          generalize w7.heap.size = gl at *
          clear hw8 e1 e2 e3 e4 e5 e6
          go_wp2_with fail
          go_loopw [8] (fun z wx => ∃ m : Nat, m ≤ 2 ∧ z = .int .i64 m ∧ Hid (Below w8.heap.size w8 wx)) (fun z _ => 2 - (intOf z).toNat)
          case atStart => exact ⟨0, by omega, rfl, Below.refl _ _⟩
          case round =>
            obtain ⟨m, hm, rfl, B⟩ := hrel
            have hm0 : (0 : Int) ≤ (m : Int) := by omega
            by_cases hlt2 : m < 2
            · have hlm : (m : Int) < 2 := by omega
              obtain ⟨b2, o2, y, hA, hb2, hy, R1⟩ := (V.out.ext B.out).at_ hlt2
              injection hA with hA
              injection hA with hA1 hA2 _
              subst hA1 hA2
              have NY := NM.out y (List.mem_of_getElem? hy)
              have K9 := Lib.hid (K8.out.ext B.out)
              have t0 : wr.cell? ⟨gl, m * 3, none⟩ = some (.int .u8 ((y.1.1.val : Nat) : Int)) := by have := R1 0 _ rfl; simpa using this
              have t1 : wr.cell? ⟨gl, m * 3 + 1, none⟩ = some (.int .u16 ((y.1.2.val : Nat) : Int)) := by have := R1 1 _ rfl; simpa using this
              have t2 : wr.cell? ⟨gl, m * 3 + 2, none⟩ = some (.int .u8 ((y.2.val : Nat) : Int)) := by have := R1 2 _ rfl; simpa using this
              have a0 : wr.cell? ⟨g1, 0, none⟩ = some (.int .u8 ((p.1.1.val : Nat) : Int)) := K9.out.cell 0
              have a1 : wr.cell? ⟨g1, 1, none⟩ = some (.int .u16 ((p.1.2.val : Nat) : Int)) := K9.out.cell 1
              have u0 := (u8_in y.2).1
              have u1 := (u8_in y.2).2
              by_cases q0 : y = vid0
              · have EV : ∀ u : World, (binOp .eql 49 (.agg #[.int .u8 ((y.1.1.val : Nat) : Int), .int .u16 ((y.1.2.val : Nat) : Int), .int .u8 ((y.2.val : Nat) : Int)]) (.agg #[.int .u8 0, .int .u16 0, .int .u8 0])).run Try.prog u = .ok (.bool true) u := fun u => (eqlV y vid0 u).trans (by rw [decide_eq_true q0])
                clear q0 hy R1 NY
                go_wp2_with fail
                go_quiet (fail)
                go_wp2_with fail
                go_roundw
                case rel => exact ⟨m + 1, by omega, by go_num, below_drewN B.out _⟩
                case measure => simp [intOf]; omega
              · have EV : ∀ u : World, (binOp .eql 49 (.agg #[.int .u8 ((y.1.1.val : Nat) : Int), .int .u16 ((y.1.2.val : Nat) : Int), .int .u8 ((y.2.val : Nat) : Int)]) (.agg #[.int .u8 0, .int .u16 0, .int .u8 0])).run Try.prog u = .ok (.bool false) u := fun u => (eqlV y vid0 u).trans (by rw [decide_eq_false q0])
                have NY := NY.resolve_left q0
                by_cases q1 : y.1 = p.1
                · have EP : ∀ u : World, (binOp .eql 33 (.agg #[.int .u8 ((y.1.1.val : Nat) : Int), .int .u16 ((y.1.2.val : Nat) : Int)]) (.agg #[.int .u8 ((p.1.1.val : Nat) : Int), .int .u16 ((p.1.2.val : Nat) : Int)])).run Try.prog u = .ok (.bool true) u := fun u => (eqlP y.1 p.1 u).trans (by rw [decide_eq_true q1])
                  have dN : decide (((y.2.val : Nat) : Int) < (i : Int)) = true := decide_eq_true (by have := NY.1 q1; omega)
                  have dN2 : decide (y.2.val < i) = true := decide_eq_true (NY.1 q1)
                  clear q0 q1 hy R1 NY
                  generalize y.2.val = ny at *
                  go_wp2_with fail
                  go_quiet (fail)
                  go_wp2_with fail
                  go_roundw
                  case rel => exact ⟨m + 1, by omega, by go_num, below_drewN B.out _⟩
                  case measure => simp [intOf]; omega
                · have EP : ∀ u : World, (binOp .eql 33 (.agg #[.int .u8 ((y.1.1.val : Nat) : Int), .int .u16 ((y.1.2.val : Nat) : Int)]) (.agg #[.int .u8 ((p.1.1.val : Nat) : Int), .int .u16 ((p.1.2.val : Nat) : Int)])).run Try.prog u = .ok (.bool false) u := fun u => (eqlP y.1 p.1 u).trans (by rw [decide_eq_false q1])
                  have MEM := Lib.hid (NY.2 q1)
                  clear q0 q1 hy NY
                  go_wp2_with fail
                  go_quiet (fail)
                  clear EP EV
                  have PW := Lib.hid (P1.out.ext (B8.out.trans (B.out.mono B8.out.size)))
                  have a2 : wr.cell? ⟨g1, 2, none⟩ = some (.slice A p.2.1.length c) := K9.out.cell 2
                  go_wp2_with fail
                  go_loopw [9, 10] (fun s z wx => ∃ j : Nat, j ≤ p.2.1.length ∧ z = .int .i64 j ∧ s = .bool (decide (y.1 ∈ p.2.1.take j)) ∧ ∃ u, wx = wr.drewN u) (fun _ z _ => p.2.1.length - (intOf z).toNat)
                  case atStart => exact ⟨0, by omega, rfl, by simp, _, rfl⟩
                  case round =>
                    obtain ⟨j, hj, rfl, rfl, u, rfl⟩ := hrel
                    have hj0 : (0 : Int) ≤ (j : Int) := by omega
                    by_cases hlt3 : j < p.2.1.length
                    · have hlj : (j : Int) < (p.2.1.length : Int) := by omega
                      obtain ⟨bx, ox, x, rfl, hbx, hx, R4⟩ := PW.out.at_ hlt3
                      have c0 : wr.cell? ⟨bx, ox + j * 2, none⟩ = some (.int .u8 ((x.1.val : Nat) : Int)) := R4 0 _ rfl
                      have c1 : wr.cell? ⟨bx, ox + j * 2 + 1, none⟩ = some (.int .u16 ((x.2.val : Nat) : Int)) := R4 1 _ rfl
                      have MS : Hid (y.1 ∈ p.2.1.take (j + 1) ↔ (y.1 ∈ p.2.1.take j ∨ x = y.1)) := by
                        rw [Hid, take_snoc' hx, List.mem_append, List.mem_singleton]
                        exact or_congr Iff.rfl ⟨fun e => e.symm, fun e => e.symm⟩
                      clear R4 hx
                      by_cases hin : y.1 ∈ p.2.1.take j
                      · have N : Hid (decide (y.1 ∈ p.2.1.take (j + 1)) = true) := decide_eq_true (MS.out.2 (.inl hin))
                        rw [decide_eq_true hin]
                        clear MS hin
                        go_wp2_with fail
                        go_quiet (fail)
                        go_wp2_with fail
                        go_roundw
                        case rel => exact ⟨j + 1, by omega, by go_num, by rw [N.out], _, rfl⟩
                        case measure => simp [intOf]; omega
                      · rw [decide_eq_false hin]
                        by_cases hxy : x = y.1
                        · have N : Hid (decide (y.1 ∈ p.2.1.take (j + 1)) = true) := decide_eq_true (MS.out.2 (.inr hxy))
                          have EX : ∀ u : World, (binOp .eql 33 (.agg #[.int .u8 ((x.1.val : Nat) : Int), .int .u16 ((x.2.val : Nat) : Int)]) (.agg #[.int .u8 ((y.1.1.val : Nat) : Int), .int .u16 ((y.1.2.val : Nat) : Int)])).run Try.prog u = .ok (.bool true) u := fun u => (eqlP x y.1 u).trans (by rw [decide_eq_true hxy])
                          clear MS hin hxy
                          go_wp2_with fail
                          go_quiet (fail)
                          go_wp2_with fail
                          go_roundw
                          case rel => exact ⟨j + 1, by omega, by go_num, by rw [N.out], _, rfl⟩
                          case measure => simp [intOf]; omega
                        · have N : Hid (decide (y.1 ∈ p.2.1.take (j + 1)) = false) := decide_eq_false fun h => (MS.out.1 h).elim hin hxy
                          have EX : ∀ u : World, (binOp .eql 33 (.agg #[.int .u8 ((x.1.val : Nat) : Int), .int .u16 ((x.2.val : Nat) : Int)]) (.agg #[.int .u8 ((y.1.1.val : Nat) : Int), .int .u16 ((y.1.2.val : Nat) : Int)])).run Try.prog u = .ok (.bool false) u := fun u => (eqlP x y.1 u).trans (by rw [decide_eq_false hxy])
                          clear MS hin hxy
                          go_wp2_with fail
                          go_quiet (fail)
                          go_wp2_with fail
                          go_roundw
                          case rel => exact ⟨j + 1, by omega, by go_num, by rw [N.out], _, rfl⟩
                          case measure => simp [intOf]; omega
                    · have hlj : ¬ ((j : Int) < (p.2.1.length : Int)) := by omega
                      rw [List.take_of_length_le (by omega), decide_eq_true MEM.out]
                      clear PW t0 t1 t2 MEM
                      go_wp2_with fail
                      go_roundw
                      case rel => exact ⟨m + 1, by omega, by go_num, below_drewN B.out _⟩
                      case measure => simp [intOf]; omega
            · have hlm : ¬ ((m : Int) < 2) := by omega
              have B9 := Lib.hid (B8.out.trans (B.out.mono B8.out.size))
              clear B B8 V K8
              go_wp2_with fail
              go_roundw
              case rel => exact ⟨i + 1, by omega, by go_num, B9.out⟩
              case measure => simp [intOf]; omega
        · have hli : ¬ ((i : Int) < (p.2.2.length : Int)) := by omega
          have B7 := Lib.hid (B6.out.trans (B.out.mono B6.out.size))
          have dp : decide (0 < p.2.2.length) = true := decide_eq_true (by omega)
          have dp2 : decide ((0 : Int) < (p.2.2.length : Int)) = true := decide_eq_true (by omega)
          have dp3 : 0 < p.2.2.length := by omega
          clear B K5 B6 hpos
          go_wp2_with fail
          refine (works18 _).mono ?_
          rintro e w8 ⟨rfl, bn⟩
          have B8 := Lib.hid (B7.out.trans (bn.mono B7.out.size))
          clear bn
          go_wp2
          go_ret
          exact ⟨rfl, B8.out⟩
end Go.Proofs.Ytmfdggolnfoniaa
