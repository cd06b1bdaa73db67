/- Whether a patch may be: the document's, walked. -/
import Derived.Test.YtihggkmjalofiaaDoorPatq
import Derived.Deep.RegionHeld3
namespace Go.Proofs.YtihggkmjalofiaaDoor
open Go.RowKit

def headB (p : PatV) : Bool := pidOk ((p.1.1.val : Nat) : Int) ((p.1.2.val : Nat) : Int) && (decide (1 ≤ p.2.2.length) && (decide (p.2.2.length ≤ 200) && decide (p.2.1 = depsV p.1 p.2.2)))
theorem patB_head (p : PatV) : patB p = (headB p && onesB p p.2.2.length) := by
  unfold patB headB
  simp only [Bool.and_assoc]
theorem headB_len {p : PatV} (h : headB p = true) : p.2.2.length ≤ 200 := by
  unfold headB at h
  simp only [Bool.and_eq_true, decide_eq_true_eq] at h
  exact h.2.2.1
theorem u16_in (v : Fin 65536) : 0 ≤ ((v.val : Nat) : Int) ∧ ((v.val : Nat) : Int) < 65536 := ⟨by omega, by have := v.isLt; omega⟩
theorem ret_drewn {w w' : World} (h : ∃ n, w' = w.drewN n) : Below w.heap.size w w' := by obtain ⟨n, rfl⟩ := h; exact below_drewN (Below.refl _ _) _
set_option maxRecDepth 100000 in
set_option maxHeartbeats 8000000 in
theorem rgood18_any (p : PatV) (w : World) (cs : List Value) (hp : PatAt w cs p) :
    Calls Tryd.prog 18 #[.agg cs.toArray] w (RetB w (.bool (patB p))) := by
  have HPAT := Lib.hid hp
  obtain ⟨⟨A, c, A', c', rfl, P1, O1⟩, m1, m2⟩ := hp
  have hm2 := m2
  unfold maxLen at hm2
  have K1 : Hid (Blk (w.alloc (.cells (patC p.1 A p.2.1.length c A' p.2.2.length c').toArray 33)) w.heap.size 33 (patC p.1 A p.2.1.length c A' p.2.2.length c').toArray) := Blk.new _ _ _
  have B0 : Hid (Below w.heap.size w (w.alloc (.cells (patC p.1 A p.2.1.length c A' p.2.2.length c').toArray 33))) := below_new _ _
  go_enter Tryd.func18, Tryd.ntmps18
  go_upto_region 1 with fail
  generalize hw2 : (w.alloc (.cells (patC p.1 A p.2.1.length c A' p.2.2.length c').toArray 33)) = w2 at *
  clear hw2
  have PA := Lib.hid (HPAT.out.ext B0.out)
  have O1 := Lib.hid (O1.ext B0.out)
  have P1 := Lib.hid (P1.ext B0.out)
  generalize hg1 : w.heap.size = g1 at K1 ⊢
  clear hg1 HPAT
  have GV : Hid (patB p = (headB p && onesB p p.2.2.length)) := patB_head p
  go_cut [30] (fun s wx => s = .bool (!headB p) ∧ Below w2.heap.size w2 wx)
  case first =>
    clear GV PA
    have a0 : w2.cell? ⟨g1, 0, none⟩ = some (.int .u8 ((p.1.1.val : Nat) : Int)) := K1.out.cell 0
    have a1 : w2.cell? ⟨g1, 1, none⟩ = some (.int .u16 ((p.1.2.val : Nat) : Int)) := K1.out.cell 1
    have a2 : w2.cell? ⟨g1, 2, none⟩ = some (.slice A p.2.1.length c) := K1.out.cell 2
    have a3 : w2.cell? ⟨g1, 3, none⟩ = some (.slice A' p.2.2.length c') := K1.out.cell 3
    have hgl : g1 < w2.heap.size := K1.out.lt
    have HG : Hid (∀ u : World, Calls Tryd.prog 29 #[.agg #[.int .u8 ((p.1.1.val : Nat) : Int), .int .u16 ((p.1.2.val : Nat) : Int)]] u (RetB u (.bool (pidOk ((p.1.1.val : Nat) : Int) ((p.1.2.val : Nat) : Int))))) := fun u => rpgood_any _ _ u (u8_in _) (u16_in _)
    have FH : Hid (headB p = (pidOk ((p.1.1.val : Nat) : Int) ((p.1.2.val : Nat) : Int) && (decide (1 ≤ p.2.2.length) && (decide (p.2.2.length ≤ 200) && decide (p.2.1 = depsV p.1 p.2.2))))) := rfl
    generalize hok : pidOk ((p.1.1.val : Nat) : Int) ((p.1.2.val : Nat) : Int) = ok at *
    clear hok
    have HD : Hid (∀ u : World, Below w2.heap.size w2 u → p.2.2.length ≤ 300 → Calls Tryd.prog 30 #[.agg #[.int .u8 ((p.1.1.val : Nat) : Int), .int .u16 ((p.1.2.val : Nat) : Int)], .slice A' p.2.2.length c'] u (RetSl u 2 (depsV p.1 p.2.2).length ((depsV p.1 p.2.2).flatMap encP))) := fun u hu hl => rdepsP p.1 p.2.2 u A' p.2.2.length c' hl (O1.out.ext hu)
    have KS : Hid (∀ w', Below w2.heap.size w2 w' → (Below w2.heap.size w2 w' ∧ w'.cell? ⟨g1, 0, none⟩ = some (.int .u8 ((p.1.1.val : Nat) : Int)) ∧ w'.cell? ⟨g1, 1, none⟩ = some (.int .u16 ((p.1.2.val : Nat) : Int)) ∧ w'.cell? ⟨g1, 2, none⟩ = some (.slice A p.2.1.length c) ∧ w'.cell? ⟨g1, 3, none⟩ = some (.slice A' p.2.2.length c'))) := fun w' h =>
      ⟨h, (h.cell (p := ⟨g1, 0, none⟩) hgl).trans a0, (h.cell (p := ⟨g1, 1, none⟩) hgl).trans a1, (h.cell (p := ⟨g1, 2, none⟩) hgl).trans a2, (h.cell (p := ⟨g1, 3, none⟩) hgl).trans a3⟩
    have HE := Lib.hid (fun (u : World) (A1 : Option Addr) (c1 : Nat) (h : Below w2.heap.size w2 u) (hs : Sl u u.heap.size 2 A1 (depsV p.1 p.2.2).length ((depsV p.1 p.2.2).flatMap encP)) => rsameP p.2.1 (depsV p.1 p.2.2) u A A1 p.2.1.length (depsV p.1 p.2.2).length c c1 (P1.out.ext h) ⟨rfl, hs⟩ m1)
    have c0 := ext_cell a0 hgl
    have c1 := ext_cell a1 hgl
    have c2 := ext_cell a2 hgl
    have c3 := ext_cell a3 hgl
    clear K1 P1
    by_cases h1 : 1 ≤ p.2.2.length
    · have d1 : decide ((p.2.2.length : Int) < 1) = false := decide_eq_false (by omega)
      have n1 : decide (p.2.2.length < 1) = false := decide_eq_false (by omega)
      by_cases h2 : p.2.2.length ≤ 200
      · have d2 : decide ((200 : Int) < (p.2.2.length : Int)) = false := decide_eq_false (by omega)
        have n2 : decide (200 < p.2.2.length) = false := decide_eq_false (by omega)
        have HD := Lib.hid (fun u hu => HD.out u hu (by omega))
        generalize hdv : depsV p.1 p.2.2 = dv at *
        clear hdv
        cases ok
        · have F : Hid (headB p = false) := by rw [Hid, FH.out]; rfl
          clear h1 h2 FH KS HE HD
          refine wp_region_ext mixedS (by kernel_rfl) ?_
          repeat (first | go_big_quiet_skip | go_big_quiet_step ((go_at_call 29; with_reducible exact ext_call (HG.out _))))
          refine wpQuiet_nil ?_
          rintro _ ⟨z, rfl⟩
          have W := Lib.hid z.h
          generalize z.w = w3 at *
          go_wp2_with fail
          go_meet
          case rel => exact ⟨by rw [F.out]; rfl, W.out⟩
        · by_cases h3 : p.2.1 = dv
          · have F : Hid (headB p = true) := by rw [Hid, FH.out, decide_eq_true h1, decide_eq_true h2, decide_eq_true h3]; rfl
            rw [decide_eq_true h3] at HE
            clear h1 h2 h3 FH c0 c1 c2 c3 a0 a1 a2 a3
            go_region_held3 (fun w' => (Below w2.heap.size w2 w' ∧ w'.cell? ⟨g1, 0, none⟩ = some (.int .u8 ((p.1.1.val : Nat) : Int)) ∧ w'.cell? ⟨g1, 1, none⟩ = some (.int .u16 ((p.1.2.val : Nat) : Int)) ∧ w'.cell? ⟨g1, 2, none⟩ = some (.slice A p.2.1.length c) ∧ w'.cell? ⟨g1, 3, none⟩ = some (.slice A' p.2.2.length c')))
              (first | assumption | exact KS.out _ ((Below.refl _ _).drew) | (refine KS.out _ (ext_trans ?_ hb); go_split_ands; assumption))
              (first
                | (go_at_call 29; refine (HG.out _).mono ?_; rintro e w3 ⟨rfl, hb⟩)
                | (go_at_call 30; refine (HD.out _ (by first | assumption | (go_split_ands; assumption))).mono ?_; rintro e w3 ⟨A1, c1, rfl, hc1, hs1, hb⟩)
                | (go_at_call 28; refine (HE.out _ _ _ (by first | assumption | (go_split_ands; assumption)) hs1).mono ?_; rintro e w3 ⟨rfl, hn⟩; have hb := ret_drewn hn))
            all_goals (go_split_ands; go_wp2_with fail; go_meet)
            all_goals exact ⟨by rw [F.out]; rfl, by assumption⟩
          · have F : Hid (headB p = false) := by rw [Hid, FH.out, decide_eq_true h1, decide_eq_true h2, decide_eq_false h3]; rfl
            rw [decide_eq_false h3] at HE
            clear h1 h2 h3 FH c0 c1 c2 c3 a0 a1 a2 a3
            go_region_held3 (fun w' => (Below w2.heap.size w2 w' ∧ w'.cell? ⟨g1, 0, none⟩ = some (.int .u8 ((p.1.1.val : Nat) : Int)) ∧ w'.cell? ⟨g1, 1, none⟩ = some (.int .u16 ((p.1.2.val : Nat) : Int)) ∧ w'.cell? ⟨g1, 2, none⟩ = some (.slice A p.2.1.length c) ∧ w'.cell? ⟨g1, 3, none⟩ = some (.slice A' p.2.2.length c')))
              (first | assumption | exact KS.out _ ((Below.refl _ _).drew) | (refine KS.out _ (ext_trans ?_ hb); go_split_ands; assumption))
              (first
                | (go_at_call 29; refine (HG.out _).mono ?_; rintro e w3 ⟨rfl, hb⟩)
                | (go_at_call 30; refine (HD.out _ (by first | assumption | (go_split_ands; assumption))).mono ?_; rintro e w3 ⟨A1, c1, rfl, hc1, hs1, hb⟩)
                | (go_at_call 28; refine (HE.out _ _ _ (by first | assumption | (go_split_ands; assumption)) hs1).mono ?_; rintro e w3 ⟨rfl, hn⟩; have hb := ret_drewn hn))
            all_goals (go_split_ands; go_wp2_with fail; go_meet)
            all_goals exact ⟨by rw [F.out]; rfl, by assumption⟩
      · have d2 : decide ((200 : Int) < (p.2.2.length : Int)) = true := decide_eq_true (by omega)
        have n2 : decide (200 < p.2.2.length) = true := decide_eq_true (by omega)
        have F : Hid (headB p = false) := by rw [Hid, FH.out, decide_eq_false h2]; simp
        clear h1 h2 FH KS HE HD
        cases ok
        · refine wp_region_ext mixedS (by kernel_rfl) ?_
          repeat (first | go_big_quiet_skip | go_big_quiet_step ((go_at_call 29; with_reducible exact ext_call (HG.out _))))
          refine wpQuiet_nil ?_
          rintro _ ⟨z, rfl⟩
          have W := Lib.hid z.h
          generalize z.w = w3 at *
          go_wp2_with fail
          go_meet
          case rel => exact ⟨by rw [F.out]; rfl, W.out⟩
        · refine wp_region_ext mixedS (by kernel_rfl) ?_
          repeat (first | go_big_quiet_skip | go_big_quiet_step ((go_at_call 29; with_reducible exact ext_call (HG.out _))))
          refine wpQuiet_nil ?_
          rintro _ ⟨z, rfl⟩
          have W := Lib.hid z.h
          generalize z.w = w3 at *
          go_wp2_with fail
          go_meet
          case rel => exact ⟨by rw [F.out]; rfl, W.out⟩
    · have d1 : decide ((p.2.2.length : Int) < 1) = true := decide_eq_true (by omega)
      have n1 : decide (p.2.2.length < 1) = true := decide_eq_true (by omega)
      have F : Hid (headB p = false) := by rw [Hid, FH.out, decide_eq_false h1]; simp
      clear h1 FH KS HE HD
      cases ok
      · refine wp_region_ext mixedS (by kernel_rfl) ?_
        repeat (first | go_big_quiet_skip | go_big_quiet_step ((go_at_call 29; with_reducible exact ext_call (HG.out _))))
        refine wpQuiet_nil ?_
        rintro _ ⟨z, rfl⟩
        have W := Lib.hid z.h
        generalize z.w = w3 at *
        go_wp2_with fail
        go_meet
        case rel => exact ⟨by rw [F.out]; rfl, W.out⟩
      · refine wp_region_ext mixedS (by kernel_rfl) ?_
        repeat (first | go_big_quiet_skip | go_big_quiet_step ((go_at_call 29; with_reducible exact ext_call (HG.out _))))
        refine wpQuiet_nil ?_
        rintro _ ⟨z, rfl⟩
        have W := Lib.hid z.h
        generalize z.w = w3 at *
        go_wp2_with fail
        go_meet
        case rel => exact ⟨by rw [F.out]; rfl, W.out⟩
  case rest =>
    obtain ⟨wx, rfl⟩ : ∃ wx, wx = wc := ⟨_, rfl⟩
    obtain ⟨rfl, hbx⟩ := hcut
    have K1 := Lib.hid (K1.out.ext hbx)
    have PA := Lib.hid (PA.out.ext hbx)
    have O1 := Lib.hid (O1.out.ext hbx)
    have B3 := Lib.hid (B0.out.trans (hbx.mono B0.out.size))
    have a0 : wx.cell? ⟨g1, 0, none⟩ = some (.int .u8 ((p.1.1.val : Nat) : Int)) := K1.out.cell 0
    have a1 : wx.cell? ⟨g1, 1, none⟩ = some (.int .u16 ((p.1.2.val : Nat) : Int)) := K1.out.cell 1
    have a3 : wx.cell? ⟨g1, 3, none⟩ = some (.slice A' p.2.2.length c') := K1.out.cell 3
    clear hbx B0 P1
    cases hh : headB p
    · rw [hh] at GV
      clear hh
      go_wp2
      go_ret
      exact ⟨ret_bool (by rw [GV.out]; rfl), B3.out⟩
    rw [hh] at GV
    have GV : Hid (patB p = onesB p p.2.2.length) := GV.out
    have HL : Hid (p.2.2.length ≤ 200) := headB_len hh
    clear hh
    simp only [Bool.not_true]
    go_wp2_with fail
    go_loopw [3] (fun i wr => ∃ k : Nat, k ≤ p.2.2.length ∧ i = .int .i64 k ∧ Hid (onesB p k = true) ∧ Hid (Below wx.heap.size wx wr)) (fun i _ => p.2.2.length - (intOf i).toNat)
    case atStart => exact ⟨0, by omega, rfl, rfl, Below.refl _ _⟩
    case round =>
      obtain ⟨k, hk, rfl, T, B⟩ := hrel
      have hk0 : (0 : Int) ≤ (k : Int) := by omega
      have b3 : wr.cell? ⟨g1, 3, none⟩ = some (.slice A' p.2.2.length c') := (K1.out.ext B.out).cell 3
      by_cases hlt : k < p.2.2.length
      · have hlk : (k : Int) < (p.2.2.length : Int) := by omega
        obtain ⟨o, ho⟩ : ∃ o, p.2.2[k]? = some o := ⟨_, List.getElem?_eq_getElem hlt⟩
        have K4 := Lib.hid (K1.out.ext B.out)
        have HC := Lib.hid (one18_any p k o wr _ (PA.out.ext B.out) ho)
        have N1 := Lib.hid (onesB_snoc ho)
        have N2 := Lib.hid (onesB_false ho hlt)
        clear ho a0 a1 a3
        generalize oneR p k o = r at *
        cases r
        · have N := Lib.hid (N2.out rfl)
          clear N1 N2
          go_wp2_with (refine wpList_load_row rfl 33 _ (by rfl) g1 (by rfl) _ _ _ _ K4.out underPat rfl infoPat ?_)
          refine HC.out.mono ?_
          rintro e w5 ⟨rfl, b5⟩
          have B5 := Lib.hid (B.out.trans (b5.mono B.out.size))
          clear b5 HC b3
          go_wp2
          go_ret
          exact ⟨ret_bool (by rw [GV.out, N.out]), B3.out.trans (B5.out.mono B3.out.size)⟩
        · have N : Hid (onesB p (k + 1) = true) := by rw [Hid, N1.out, T.out]; rfl
          clear N1 N2
          go_wp2_with (refine wpList_load_row rfl 33 _ (by rfl) g1 (by rfl) _ _ _ _ K4.out underPat rfl infoPat ?_)
          refine HC.out.mono ?_
          rintro e w5 ⟨rfl, b5⟩
          have B5 := Lib.hid (B.out.trans (b5.mono B.out.size))
          clear b5 HC b3
          go_wp2_with fail
          go_roundw
          case rel => exact ⟨k + 1, by omega, by go_num, N.out, B5.out⟩
          case measure => simp [intOf]; omega
      · have hk : k = p.2.2.length := by omega
        subst hk
        have hlk : ¬ ((p.2.2.length : Int) < (p.2.2.length : Int)) := by omega
        go_wp2
        go_ret
        exact ⟨ret_bool (by rw [GV.out, T.out]), B3.out.trans (B.out.mono B3.out.size)⟩
end Go.Proofs.YtihggkmjalofiaaDoor
