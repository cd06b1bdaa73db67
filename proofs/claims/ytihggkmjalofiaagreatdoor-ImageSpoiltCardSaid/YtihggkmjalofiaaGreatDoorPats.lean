/- Whether a patch may be: the program's, walked. -/
import Derived.Test.YtihggkmjalofiaaGreatDoorPatr
import Derived.Test.YtihggkmjalofiaaGreatDoorPatf
import Derived.Test.YtihggkmjalofiaaGreatDoorGen
namespace Go.Proofs.YtihggkmjalofiaaGreatDoor
open Go.RowKit
open Go.ChangeMaps (setBlock)

theorem kLawO : Go.WideMaps.KeyLaw Tryz.prog 122 := deep_law_laid (by kernel_rfl) (m := 4) (by omega) (of_decide_eq_true (by kernel_rfl)) (by kernel_rfl) (by kernel_rfl)
theorem kMapO : Tryz.prog.underlying 270 = some (.map 122 3) := by kernel_rfl
theorem kZeroI (u : World) : (zeroValue 3).run Tryz.prog u = .ok (.int .i64 0) u := by kernel_rfl
theorem lit_u8 (v : Fin 256) : (Lit.int .u8 ((v.val : Nat) : Int)).wf = true := by
  have := v.isLt
  simp [Lit.wf, IntKind.min, IntKind.max, IntKind.signed, IntKind.bits]; omega
theorem lit_u16 (v : Fin 65536) : (Lit.int .u16 ((v.val : Nat) : Int)).wf = true := by
  have := v.isLt
  simp [Lit.wf, IntKind.min, IntKind.max, IntKind.signed, IntKind.bits]; omega
theorem kKeyO (o : OpV) (ho : o.ok) : ∃ kl, keyOf Tryz.prog 122 (.agg (encO o).toArray) = some kl := by
  have : FlatOk [.int .u8, .int .u8, .int .u16, .int .u8, .int .u8, .int .u16, .int .u8, .str] (encO o) :=
    ⟨⟨_, rfl, lit_u8 _⟩, ⟨_, rfl, lit_u8 _⟩, ⟨_, rfl, lit_u16 _⟩, ⟨_, rfl, lit_u8 _⟩, ⟨_, rfl, lit_u8 _⟩, ⟨_, rfl, lit_u16 _⟩, ⟨_, rfl, lit_u8 _⟩, ⟨_, rfl, ho⟩, trivial⟩
  exact keyOf_flat (by kernel_rfl) (by kernel_rfl) (by kernel_rfl) (by kernel_rfl) (of_decide_eq_true (by kernel_rfl)) this
theorem makeO (w : World) : (Instr.makeMap 270 none).run Tryz.prog w = .ok (.map (some w.heap.size)) (w.alloc (.map #[] 0)) := by kernel_rfl
def aggO (o : OpV) : Value := .agg (encO o).toArray
theorem aggO_inj (x y : OpV) (h : aggO x = aggO y) : x = y := by
  injection h with h
  have h := congrArg Array.toList h
  simp only [encO, List.cons.injEq, Value.int.injEq, Value.string.injEq, true_and, and_true] at h
  obtain ⟨h1, h2, h3, h4, h5, h6, h7, h8⟩ := h
  exact Prod.ext (fin_eq h1) (Prod.ext (Prod.ext (Prod.ext (fin_eq h2) (fin_eq h3)) (fin_eq h4)) (Prod.ext (Prod.ext (Prod.ext (fin_eq h5) (fin_eq h6)) (fin_eq h7)) h8))
theorem oneP_false {p : PatV} {k : Nat} {o : OpV} (ho : p.2.2[k]? = some o) (hk : k < p.2.2.length) (h : oneP p k o = false) : onesB p p.2.2.length = false := onesB_false ho hk (by rw [← ones_eq hk]; exact h)
theorem oneP_true {p : PatV} {k : Nat} {o : OpV} (ho : p.2.2[k]? = some o) (hk : k < p.2.2.length) (hT : onesB p k = true) (h : oneP p k o = true) : onesB p (k + 1) = true := by rw [onesB_snoc ho, hT, ← ones_eq hk, h]; rfl
set_option maxRecDepth 100000 in
set_option maxHeartbeats 8000000 in
theorem good18_any (p : PatV) (w : World) (cs : List Value) (hp : PatAt w cs p) :
    Calls Tryz.prog 95 #[.agg cs.toArray] w (RetB w (.bool (patB p))) := by
  have HPAT := Lib.hid hp
  obtain ⟨⟨A, c, A', c', rfl, P1, O1⟩, m1, m2⟩ := hp
  have hm2 := m2
  unfold maxLen at hm2
  have K1 : Hid (Blk (w.alloc (.cells (patC p.1 A p.2.1.length c A' p.2.2.length c').toArray 31)) w.heap.size 31 (patC p.1 A p.2.1.length c A' p.2.2.length c').toArray) := Blk.new _ _ _
  have B0 : Hid (Below w.heap.size w (w.alloc (.cells (patC p.1 A p.2.1.length c A' p.2.2.length c').toArray 31))) := below_new _ _
  go_enter Tryz.func95, Tryz.ntmps95
  go_upto_region 1 with fail
  generalize hw2 : (w.alloc (.cells (patC p.1 A p.2.1.length c A' p.2.2.length c').toArray 31)) = w2 at *
  clear hw2
  have PA := Lib.hid (HPAT.out.ext B0.out)
  have O1 := Lib.hid (O1.ext B0.out)
  have P1 := Lib.hid (P1.ext B0.out)
  generalize hg1 : w.heap.size = g1 at K1 ⊢
  clear hg1 HPAT
  have GV : Hid (patB p = (headB p && onesB p p.2.2.length)) := patB_head p
  go_cut [32] (fun s wx => s = .bool (!headB p) ∧ Below w2.heap.size w2 wx)
  case first =>
    clear GV PA
    have a0 : w2.cell? ⟨g1, 0, none⟩ = some (.int .u8 ((p.1.1.val : Nat) : Int)) := K1.out.cell 0
    have a1 : w2.cell? ⟨g1, 1, none⟩ = some (.int .u16 ((p.1.2.val : Nat) : Int)) := K1.out.cell 1
    have a2 : w2.cell? ⟨g1, 2, none⟩ = some (.slice A p.2.1.length c) := K1.out.cell 2
    have a3 : w2.cell? ⟨g1, 3, none⟩ = some (.slice A' p.2.2.length c') := K1.out.cell 3
    have hgl : g1 < w2.heap.size := K1.out.lt
    have HG : Hid (∀ u : World, Calls Tryz.prog 181 #[.agg #[.int .u8 ((p.1.1.val : Nat) : Int), .int .u16 ((p.1.2.val : Nat) : Int)]] u (RetB u (.bool (pidOk ((p.1.1.val : Nat) : Int) ((p.1.2.val : Nat) : Int))))) := fun u => pgood_any _ _ u (u8_in _) (u16_in _)
    have FH : Hid (headB p = (pidOk ((p.1.1.val : Nat) : Int) ((p.1.2.val : Nat) : Int) && (decide (1 ≤ p.2.2.length) && (decide (p.2.2.length ≤ 200) && decide (p.2.1 = depsV p.1 p.2.2))))) := rfl
    generalize hok : pidOk ((p.1.1.val : Nat) : Int) ((p.1.2.val : Nat) : Int) = ok at *
    clear hok
    have HD : Hid (∀ u : World, Below w2.heap.size w2 u → p.2.2.length ≤ 300 → Calls Tryz.prog 182 #[.agg #[.int .u8 ((p.1.1.val : Nat) : Int), .int .u16 ((p.1.2.val : Nat) : Int)], .slice A' p.2.2.length c'] u (OwnedRet u 27 2 (depsV p.1 p.2.2).length ((depsV p.1 p.2.2).flatMap encP))) := fun u hu hl => depsP p.1 p.2.2 u A' p.2.2.length c' hl (O1.out.ext hu)
    have KS : Hid (∀ w', Below w2.heap.size w2 w' → (Below w2.heap.size w2 w' ∧ w'.cell? ⟨g1, 0, none⟩ = some (.int .u8 ((p.1.1.val : Nat) : Int)) ∧ w'.cell? ⟨g1, 1, none⟩ = some (.int .u16 ((p.1.2.val : Nat) : Int)) ∧ w'.cell? ⟨g1, 2, none⟩ = some (.slice A p.2.1.length c) ∧ w'.cell? ⟨g1, 3, none⟩ = some (.slice A' p.2.2.length c'))) := fun w' h =>
      ⟨h, (h.cell (p := ⟨g1, 0, none⟩) hgl).trans a0, (h.cell (p := ⟨g1, 1, none⟩) hgl).trans a1, (h.cell (p := ⟨g1, 2, none⟩) hgl).trans a2, (h.cell (p := ⟨g1, 3, none⟩) hgl).trans a3⟩
    have HE := Lib.hid (fun (u : World) (A1 : Option Addr) (c1 : Nat) (h : Below w2.heap.size w2 u) (hs : Sl u u.heap.size 2 A1 (depsV p.1 p.2.2).length ((depsV p.1 p.2.2).flatMap encP)) => equalP p.2.1 (depsV p.1 p.2.2) u A A1 p.2.1.length (depsV p.1 p.2.2).length c c1 (P1.out.ext h) ⟨rfl, hs⟩ m1)
    have c0 := ext_cell a0 hgl
    have c1 := ext_cell a1 hgl
    have c2 := ext_cell a2 hgl
    have c3 := ext_cell a3 hgl
    clear K1 P1
    by_cases h1 : 1 ≤ p.2.2.length
    · have d1 : decide ((p.2.2.length : Int) < 1) = false := decide_eq_false (by omega)
      have n1 : decide (p.2.2.length < 1) = false := decide_eq_false (by omega)
      by_cases h2 : p.2.2.length ≤ 200
      · have d2 : decide ((200 : Int) < (p.2.2.length : Int)) = false := decide_eq_false (by omega)
        have n2 : decide (200 < p.2.2.length) = false := decide_eq_false (by omega)
        have HD := Lib.hid (fun u hu => HD.out u hu (by omega))
        generalize hdv : depsV p.1 p.2.2 = dv at *
        clear hdv
        cases ok
        · have F : Hid (headB p = false) := by rw [Hid, FH.out]; rfl
          clear h1 h2 FH KS HE HD
          refine wp_region_ext mixedS (by kernel_rfl) ?_
          repeat (first | go_big_quiet_skip | go_big_quiet_step ((go_at_call 181; with_reducible exact ext_call (HG.out _))))
          refine wpQuiet_nil ?_
          rintro _ ⟨z, rfl⟩
          have W := Lib.hid z.h
          generalize z.w = w3 at *
          go_wp2_with fail
          go_meet
          case rel => exact ⟨by rw [F.out]; rfl, W.out⟩
        · by_cases h3 : p.2.1 = dv
          · have F : Hid (headB p = true) := by rw [Hid, FH.out, decide_eq_true h1, decide_eq_true h2, decide_eq_true h3]; rfl
            rw [decide_eq_true h3] at HE
            clear h1 h2 h3 FH c0 c1 c2 c3 a0 a1 a2 a3
            go_region_held3 (fun w' => (Below w2.heap.size w2 w' ∧ w'.cell? ⟨g1, 0, none⟩ = some (.int .u8 ((p.1.1.val : Nat) : Int)) ∧ w'.cell? ⟨g1, 1, none⟩ = some (.int .u16 ((p.1.2.val : Nat) : Int)) ∧ w'.cell? ⟨g1, 2, none⟩ = some (.slice A p.2.1.length c) ∧ w'.cell? ⟨g1, 3, none⟩ = some (.slice A' p.2.2.length c')))
              (first | assumption | exact KS.out _ ((Below.refl _ _).drew) | (refine KS.out _ (ext_trans ?_ hb); go_split_ands; assumption))
              (first
                | (go_at_call 181; refine (HG.out _).mono ?_; rintro e w3 ⟨rfl, hb⟩)
                | (go_at_call 182; refine (HD.out _ (by first | assumption | (go_split_ands; assumption))).mono ?_; rintro e w3 ⟨v1, rfl, ho1, hb⟩; obtain ⟨A1, c1, rfl, hc1, hs1⟩ := Sl.of_own ho1)
                | (go_at_call 63; refine (HE.out _ _ _ (by first | assumption | (go_split_ands; assumption)) hs1).mono ?_; rintro e w3 ⟨rfl, hn⟩; have hb := ret_drewn hn))
            all_goals (go_split_ands; go_wp2_with fail; go_meet)
            all_goals exact ⟨by rw [F.out]; rfl, by assumption⟩
          · have F : Hid (headB p = false) := by rw [Hid, FH.out, decide_eq_true h1, decide_eq_true h2, decide_eq_false h3]; rfl
            rw [decide_eq_false h3] at HE
            clear h1 h2 h3 FH c0 c1 c2 c3 a0 a1 a2 a3
            go_region_held3 (fun w' => (Below w2.heap.size w2 w' ∧ w'.cell? ⟨g1, 0, none⟩ = some (.int .u8 ((p.1.1.val : Nat) : Int)) ∧ w'.cell? ⟨g1, 1, none⟩ = some (.int .u16 ((p.1.2.val : Nat) : Int)) ∧ w'.cell? ⟨g1, 2, none⟩ = some (.slice A p.2.1.length c) ∧ w'.cell? ⟨g1, 3, none⟩ = some (.slice A' p.2.2.length c')))
              (first | assumption | exact KS.out _ ((Below.refl _ _).drew) | (refine KS.out _ (ext_trans ?_ hb); go_split_ands; assumption))
              (first
                | (go_at_call 181; refine (HG.out _).mono ?_; rintro e w3 ⟨rfl, hb⟩)
                | (go_at_call 182; refine (HD.out _ (by first | assumption | (go_split_ands; assumption))).mono ?_; rintro e w3 ⟨v1, rfl, ho1, hb⟩; obtain ⟨A1, c1, rfl, hc1, hs1⟩ := Sl.of_own ho1)
                | (go_at_call 63; refine (HE.out _ _ _ (by first | assumption | (go_split_ands; assumption)) hs1).mono ?_; rintro e w3 ⟨rfl, hn⟩; have hb := ret_drewn hn))
            all_goals (go_split_ands; go_wp2_with fail; go_meet)
            all_goals exact ⟨by rw [F.out]; rfl, by assumption⟩
      · have d2 : decide ((200 : Int) < (p.2.2.length : Int)) = true := decide_eq_true (by omega)
        have n2 : decide (200 < p.2.2.length) = true := decide_eq_true (by omega)
        have F : Hid (headB p = false) := by rw [Hid, FH.out, decide_eq_false h2]; simp
        clear h1 h2 FH KS HE HD
        cases ok
        · refine wp_region_ext mixedS (by kernel_rfl) ?_
          repeat (first | go_big_quiet_skip | go_big_quiet_step ((go_at_call 181; with_reducible exact ext_call (HG.out _))))
          refine wpQuiet_nil ?_
          rintro _ ⟨z, rfl⟩
          have W := Lib.hid z.h
          generalize z.w = w3 at *
          go_wp2_with fail
          go_meet
          case rel => exact ⟨by rw [F.out]; rfl, W.out⟩
        · refine wp_region_ext mixedS (by kernel_rfl) ?_
          repeat (first | go_big_quiet_skip | go_big_quiet_step ((go_at_call 181; with_reducible exact ext_call (HG.out _))))
          refine wpQuiet_nil ?_
          rintro _ ⟨z, rfl⟩
          have W := Lib.hid z.h
          generalize z.w = w3 at *
          go_wp2_with fail
          go_meet
          case rel => exact ⟨by rw [F.out]; rfl, W.out⟩
    · have d1 : decide ((p.2.2.length : Int) < 1) = true := decide_eq_true (by omega)
      have n1 : decide (p.2.2.length < 1) = true := decide_eq_true (by omega)
      have F : Hid (headB p = false) := by rw [Hid, FH.out, decide_eq_false h1]; simp
      clear h1 FH KS HE HD
      cases ok
      · refine wp_region_ext mixedS (by kernel_rfl) ?_
        repeat (first | go_big_quiet_skip | go_big_quiet_step ((go_at_call 181; with_reducible exact ext_call (HG.out _))))
        refine wpQuiet_nil ?_
        rintro _ ⟨z, rfl⟩
        have W := Lib.hid z.h
        generalize z.w = w3 at *
        go_wp2_with fail
        go_meet
        case rel => exact ⟨by rw [F.out]; rfl, W.out⟩
      · refine wp_region_ext mixedS (by kernel_rfl) ?_
        repeat (first | go_big_quiet_skip | go_big_quiet_step ((go_at_call 181; with_reducible exact ext_call (HG.out _))))
        refine wpQuiet_nil ?_
        rintro _ ⟨z, rfl⟩
        have W := Lib.hid z.h
        generalize z.w = w3 at *
        go_wp2_with fail
        go_meet
        case rel => exact ⟨by rw [F.out]; rfl, W.out⟩
  case rest =>
    obtain ⟨wx, rfl⟩ : ∃ wx, wx = wc := ⟨_, rfl⟩
    obtain ⟨rfl, hbx⟩ := hcut
    have K1 := Lib.hid (K1.out.ext hbx)
    have PA := Lib.hid (PA.out.ext hbx)
    have O1 := Lib.hid (O1.out.ext hbx)
    have B3 := Lib.hid (B0.out.trans (hbx.mono B0.out.size))
    have a0 : wx.cell? ⟨g1, 0, none⟩ = some (.int .u8 ((p.1.1.val : Nat) : Int)) := K1.out.cell 0
    have a1 : wx.cell? ⟨g1, 1, none⟩ = some (.int .u16 ((p.1.2.val : Nat) : Int)) := K1.out.cell 1
    have a3 : wx.cell? ⟨g1, 3, none⟩ = some (.slice A' p.2.2.length c') := K1.out.cell 3
    clear hbx B0 P1
    cases hh : headB p
    · rw [hh] at GV
      clear hh
      go_wp2
      go_ret
      exact ⟨ret_bool (by rw [GV.out]; rfl), B3.out⟩
    rw [hh] at GV
    have GV : Hid (patB p = onesB p p.2.2.length) := GV.out
    have HL : Hid (p.2.2.length ≤ 200) := headB_len hh
    clear hh
    simp only [Bool.not_true]
    have hmk := makeO
    have a3m : ∀ o : Obj, (wx.alloc o).cell? ⟨g1, 3, none⟩ = some (.slice A' p.2.2.length c') := fun o => (K1.out.alloc o).cell 3
    go_wp2_with fail
    clear hmk a3m
    have M0 : Hid (MapIs Tryz.prog 122 (wx.alloc (.map #[] 0)) wx.heap.size []) := MapIs.made _ _ _
    have BM : Hid (Below wx.heap.size wx (wx.alloc (.map #[] 0))) := (Below.refl _ _).alloc (Nat.le_refl _) _
    go_loopw [37] (fun i wr => ∃ (k : Nat) (l : List (Value × Value)) (us : List OpV), k ≤ p.2.2.length ∧ us.length ≤ k ∧ i = .int .i64 k ∧ Hid (onesB p k = true) ∧ Hid (us = uniqU (p.2.2.take k)) ∧ Hid (l.map (·.1) = us.map aggO) ∧ Hid (∀ q ∈ l, ∃ z : Int, q.2 = .int .i64 z ∧ 1 ≤ z ∧ z ≤ k) ∧ Hid (MapIs Tryz.prog 122 wr wx.heap.size l) ∧ Hid (Below wx.heap.size wx wr)) (fun i _ => p.2.2.length - (intOf i).toNat)
    case atStart => exact ⟨0, [], [], by omega, by simp, rfl, rfl, rfl, rfl, by simp [Hid], M0.out, BM.out⟩
    case round =>
      clear M0 BM
      obtain ⟨k, l, us, hk, hus, rfl, T, US, KS, VS, M, B⟩ := hrel
      have hk0 : (0 : Int) ≤ (k : Int) := by omega
      by_cases hlt : k < p.2.2.length
      · have hlk : (k : Int) < (p.2.2.length : Int) := by omega
        obtain ⟨b, off, o, rfl, hb, ho, R0, hok⟩ := O1.out.at_ hlt
        have R0 := Lib.hid (rangeAt_below R0 B.out hb)
        have HS2 : Hid ((Tryz.prog.info? 122).map (·.size) = some (encO o).toArray.size) := infoOp
        have K2 : Hid (Blk ((wr.alloc (.cells #[.int .u8 0, .int .u8 0, .int .u16 0, .int .u8 0, .int .u8 0, .int .u16 0, .int .u8 0, .string ByteArray.empty] 122)).setRow wr.heap.size (encO o).toArray) wr.heap.size 122 (encO o).toArray) := (Blk.new _ _ _).row _
        have B4 : Hid (Below wr.heap.size wr ((wr.alloc (.cells #[.int .u8 0, .int .u8 0, .int .u16 0, .int .u8 0, .int .u8 0, .int .u16 0, .int .u8 0, .string ByteArray.empty] 122)).setRow wr.heap.size (encO o).toArray)) := below_setRow ((Below.refl _ _).alloc (Nat.le_refl _) _) (Nat.le_refl _) _
        have P1 := Lib.hid (uniqU_snoc ho)
        rw [← US.out] at P1
        have UM : Hid (o ∈ us ↔ o ∈ p.2.2.take k) := by rw [US.out]; exact uniqU_mem _ _
        have N1 := Lib.hid (fun h => oneP_true ho hlt T.out h)
        have N2 := Lib.hid (fun h => oneP_false ho hlt h)
        have hw0 := M.out.lt
        clear ho a0 a1 a3 T US
        go_upto_region 7 with (first
          | (refine wpList_load_mid rfl 122 _ (by rfl) b (off + k * 8) (by rfl) _ _ R0.out underOp rfl infoOp ?_)
          | (refine wpList_alloced (allocOp _) ?_)
          | (refine wpList_store_row rfl 122 _ _ (by rfl) wr.heap.size (encO o).toArray (by rfl) (by rfl) _ _ (Blk.new _ _ _) HS2.out rfl (all_oneCell_toArray (encO_one o)) ?_))
        generalize hw4 : ((wr.alloc (.cells #[.int .u8 0, .int .u8 0, .int .u16 0, .int .u8 0, .int .u8 0, .int .u16 0, .int .u8 0, .string ByteArray.empty] 122)).setRow wr.heap.size (encO o).toArray) = w4 at *
        clear hw4
        have K1 := Lib.hid ((K1.out.ext B.out).ext B4.out)
        have PA := Lib.hid ((PA.out.ext B.out).ext B4.out)
        have M := Lib.hid (M.out.ext B4.out)
        have B5 := Lib.hid (B.out.trans (B4.out.mono B.out.size))
        clear B B4 R0
        generalize hg2 : wr.heap.size = g2 at *
        clear hg2
        have FO : Hid (oneP p k o = (goodO p.1 k o && (!((refsO o).any (isLater p.1)) && ((decide (o.1.val = 5) || suitsV p o) && (makesB ((o.1.val : Nat) : Int) || !decide (o ∈ p.2.2.take k)))))) := rfl
        have HG := Lib.hid (fun u => goodN p.1 (k : Int) o hok u)
        have HL := Lib.hid (fun u => laterO_any p.1 o u)
        have HR : Hid (goodO p.1 (k : Int) o = true → ∀ v ∈ refsO o, v.1 = p.1 → v.2.val < p.2.2.length) := fun hg v hv he => by have := goodO_refs hg v hv he; omega
        have HSU := Lib.hid (fun (u : World) (hu : PatAt u (patC p.1 A p.2.1.length c (some ⟨b, off, none⟩) p.2.2.length c') p) (hg : goodO p.1 (k : Int) o = true) => suits_any p o u _ hu (HR.out hg))
        obtain ⟨t7, ht7⟩ : ∃ t7, t7 = (goodO p.1 (k : Int) o && (!((refsO o).any (isLater p.1)) && (decide (o.1.val = 5) || suitsV p o))) := ⟨_, rfl⟩
        have FT : Hid (oneP p k o = (t7 && (makesB ((o.1.val : Nat) : Int) || !decide (o ∈ p.2.2.take k)))) := by rw [Hid, FO.out, ht7]; simp only [Bool.and_assoc]
        have HT7 := Lib.hid ht7
        clear ht7 FO HR
        have BW := Lib.hid (Below.refl w4.heap.size w4)
        simp only [Act.put]
        go_cut [64] (fun s wx => s = .bool (!t7) ∧ Below w4.heap.size w4 wx)
        case first =>
          clear FT N1 N2 UM P1 KS VS
          have e0 : w4.cell? ⟨g2, 0, none⟩ = some (.int .u8 ((o.1.val : Nat) : Int)) := K2.out.cell 0
          have e1 : w4.cell? ⟨g2, 1, none⟩ = some (.int .u8 ((o.2.1.1.1.val : Nat) : Int)) := K2.out.cell 1
          have e2 : w4.cell? ⟨g2, 2, none⟩ = some (.int .u16 ((o.2.1.1.2.val : Nat) : Int)) := K2.out.cell 2
          have e3 : w4.cell? ⟨g2, 3, none⟩ = some (.int .u8 ((o.2.1.2.val : Nat) : Int)) := K2.out.cell 3
          have e4 : w4.cell? ⟨g2, 4, none⟩ = some (.int .u8 ((o.2.2.1.1.1.val : Nat) : Int)) := K2.out.cell 4
          have e5 : w4.cell? ⟨g2, 5, none⟩ = some (.int .u16 ((o.2.2.1.1.2.val : Nat) : Int)) := K2.out.cell 5
          have e6 : w4.cell? ⟨g2, 6, none⟩ = some (.int .u8 ((o.2.2.1.2.val : Nat) : Int)) := K2.out.cell 6
          have e7 : w4.cell? ⟨g2, 7, none⟩ = some (.string o.2.2.2) := K2.out.cell 7
          have a0 : w4.cell? ⟨g1, 0, none⟩ = some (.int .u8 ((p.1.1.val : Nat) : Int)) := K1.out.cell 0
          have a1 : w4.cell? ⟨g1, 1, none⟩ = some (.int .u16 ((p.1.2.val : Nat) : Int)) := K1.out.cell 1
          have a2 : w4.cell? ⟨g1, 2, none⟩ = some (.slice A p.2.1.length c) := K1.out.cell 2
          have a3 : w4.cell? ⟨g1, 3, none⟩ = some (.slice (some ⟨b, off, none⟩) p.2.2.length c') := K1.out.cell 3
          have KE := kind_eq o 5
          generalize hgo : goodO p.1 (k : Int) o = gd at *
          generalize hlo : (refsO o).any (isLater p.1) = lt at *
          generalize hso : suitsV p o = su at *
          clear hgo hlo hso
          cases gd
          · have HT7 : Hid (t7 = false) := HT7.out
            clear HL HSU KE
            go_wp2_with fail
            refine (HG.out _).mono ?_
            rintro e w5 ⟨rfl, bn⟩
            have BX := Lib.hid (BW.out.trans (bn.mono BW.out.size))
            clear bn e0 e1 e2 e3 e4 e5 e6 e7 a0 a1 a2 a3
            go_wp2_with fail
            go_meet
            case rel => exact ⟨by simp [HT7.out], BX.out⟩
          cases lt
          rotate_left
          · have HT7 : Hid (t7 = false) := HT7.out
            clear HSU KE
            go_wp2_with fail
            refine (HG.out _).mono ?_
            rintro e w5 ⟨rfl, bn⟩
            have BX := Lib.hid (BW.out.trans (bn.mono BW.out.size))
            have K1 := Lib.hid (K1.out.ext bn)
            have K2 := Lib.hid (K2.out.ext bn)
            clear bn e0 e1 e2 e3 e4 e5 e6 e7 a0 a1 a2 a3
            have e0 : w5.cell? ⟨g2, 0, none⟩ = some (.int .u8 ((o.1.val : Nat) : Int)) := K2.out.cell 0
            have e1 : w5.cell? ⟨g2, 1, none⟩ = some (.int .u8 ((o.2.1.1.1.val : Nat) : Int)) := K2.out.cell 1
            have e2 : w5.cell? ⟨g2, 2, none⟩ = some (.int .u16 ((o.2.1.1.2.val : Nat) : Int)) := K2.out.cell 2
            have e3 : w5.cell? ⟨g2, 3, none⟩ = some (.int .u8 ((o.2.1.2.val : Nat) : Int)) := K2.out.cell 3
            have e4 : w5.cell? ⟨g2, 4, none⟩ = some (.int .u8 ((o.2.2.1.1.1.val : Nat) : Int)) := K2.out.cell 4
            have e5 : w5.cell? ⟨g2, 5, none⟩ = some (.int .u16 ((o.2.2.1.1.2.val : Nat) : Int)) := K2.out.cell 5
            have e6 : w5.cell? ⟨g2, 6, none⟩ = some (.int .u8 ((o.2.2.1.2.val : Nat) : Int)) := K2.out.cell 6
            have e7 : w5.cell? ⟨g2, 7, none⟩ = some (.string o.2.2.2) := K2.out.cell 7
            have a0 : w5.cell? ⟨g1, 0, none⟩ = some (.int .u8 ((p.1.1.val : Nat) : Int)) := K1.out.cell 0
            have a1 : w5.cell? ⟨g1, 1, none⟩ = some (.int .u16 ((p.1.2.val : Nat) : Int)) := K1.out.cell 1
            have a2 : w5.cell? ⟨g1, 2, none⟩ = some (.slice A p.2.1.length c) := K1.out.cell 2
            have a3 : w5.cell? ⟨g1, 3, none⟩ = some (.slice (some ⟨b, off, none⟩) p.2.2.length c') := K1.out.cell 3
            go_wp2_with fail
            refine (HL.out _).mono ?_
            rintro e w6 ⟨rfl, bn⟩
            have BY := Lib.hid (BX.out.trans (bn.mono BX.out.size))
            clear bn e0 e1 e2 e3 e4 e5 e6 e7 a0 a1 a2 a3
            go_wp2_with fail
            go_meet
            case rel => exact ⟨by simp [HT7.out], BY.out⟩
          by_cases h5 : o.1.val = 5
          · have HT7 : Hid (t7 = true) := by rw [Hid, HT7.out, decide_eq_true h5]; rfl
            have d5 : (((o.1.val : Nat) : Int) != 5) = false := by rw [h5]; rfl
            clear HSU KE h5
            go_wp2_with fail
            refine (HG.out _).mono ?_
            rintro e w5 ⟨rfl, bn⟩
            have BX := Lib.hid (BW.out.trans (bn.mono BW.out.size))
            have K1 := Lib.hid (K1.out.ext bn)
            have K2 := Lib.hid (K2.out.ext bn)
            clear bn e0 e1 e2 e3 e4 e5 e6 e7 a0 a1 a2 a3
            have e0 : w5.cell? ⟨g2, 0, none⟩ = some (.int .u8 ((o.1.val : Nat) : Int)) := K2.out.cell 0
            have e1 : w5.cell? ⟨g2, 1, none⟩ = some (.int .u8 ((o.2.1.1.1.val : Nat) : Int)) := K2.out.cell 1
            have e2 : w5.cell? ⟨g2, 2, none⟩ = some (.int .u16 ((o.2.1.1.2.val : Nat) : Int)) := K2.out.cell 2
            have e3 : w5.cell? ⟨g2, 3, none⟩ = some (.int .u8 ((o.2.1.2.val : Nat) : Int)) := K2.out.cell 3
            have e4 : w5.cell? ⟨g2, 4, none⟩ = some (.int .u8 ((o.2.2.1.1.1.val : Nat) : Int)) := K2.out.cell 4
            have e5 : w5.cell? ⟨g2, 5, none⟩ = some (.int .u16 ((o.2.2.1.1.2.val : Nat) : Int)) := K2.out.cell 5
            have e6 : w5.cell? ⟨g2, 6, none⟩ = some (.int .u8 ((o.2.2.1.2.val : Nat) : Int)) := K2.out.cell 6
            have e7 : w5.cell? ⟨g2, 7, none⟩ = some (.string o.2.2.2) := K2.out.cell 7
            have a0 : w5.cell? ⟨g1, 0, none⟩ = some (.int .u8 ((p.1.1.val : Nat) : Int)) := K1.out.cell 0
            have a1 : w5.cell? ⟨g1, 1, none⟩ = some (.int .u16 ((p.1.2.val : Nat) : Int)) := K1.out.cell 1
            have a2 : w5.cell? ⟨g1, 2, none⟩ = some (.slice A p.2.1.length c) := K1.out.cell 2
            have a3 : w5.cell? ⟨g1, 3, none⟩ = some (.slice (some ⟨b, off, none⟩) p.2.2.length c') := K1.out.cell 3
            go_wp2_with fail
            refine (HL.out _).mono ?_
            rintro e w6 ⟨rfl, bn⟩
            have BY := Lib.hid (BX.out.trans (bn.mono BX.out.size))
            have K1 := Lib.hid (K1.out.ext bn)
            have K2 := Lib.hid (K2.out.ext bn)
            clear bn e0 e1 e2 e3 e4 e5 e6 e7 a0 a1 a2 a3
            have e0 : w6.cell? ⟨g2, 0, none⟩ = some (.int .u8 ((o.1.val : Nat) : Int)) := K2.out.cell 0
            have e1 : w6.cell? ⟨g2, 1, none⟩ = some (.int .u8 ((o.2.1.1.1.val : Nat) : Int)) := K2.out.cell 1
            have e2 : w6.cell? ⟨g2, 2, none⟩ = some (.int .u16 ((o.2.1.1.2.val : Nat) : Int)) := K2.out.cell 2
            have e3 : w6.cell? ⟨g2, 3, none⟩ = some (.int .u8 ((o.2.1.2.val : Nat) : Int)) := K2.out.cell 3
            have e4 : w6.cell? ⟨g2, 4, none⟩ = some (.int .u8 ((o.2.2.1.1.1.val : Nat) : Int)) := K2.out.cell 4
            have e5 : w6.cell? ⟨g2, 5, none⟩ = some (.int .u16 ((o.2.2.1.1.2.val : Nat) : Int)) := K2.out.cell 5
            have e6 : w6.cell? ⟨g2, 6, none⟩ = some (.int .u8 ((o.2.2.1.2.val : Nat) : Int)) := K2.out.cell 6
            have e7 : w6.cell? ⟨g2, 7, none⟩ = some (.string o.2.2.2) := K2.out.cell 7
            have a0 : w6.cell? ⟨g1, 0, none⟩ = some (.int .u8 ((p.1.1.val : Nat) : Int)) := K1.out.cell 0
            have a1 : w6.cell? ⟨g1, 1, none⟩ = some (.int .u16 ((p.1.2.val : Nat) : Int)) := K1.out.cell 1
            have a2 : w6.cell? ⟨g1, 2, none⟩ = some (.slice A p.2.1.length c) := K1.out.cell 2
            have a3 : w6.cell? ⟨g1, 3, none⟩ = some (.slice (some ⟨b, off, none⟩) p.2.2.length c') := K1.out.cell 3
            go_wp2_with fail
            go_meet
            case rel => exact ⟨by simp [HT7.out], BY.out⟩
          have HT7 : Hid (t7 = su) := by rw [Hid, HT7.out, decide_eq_false h5]; rfl
          have d5 : (((o.1.val : Nat) : Int) != 5) = true := bne_iff_ne.2 (by omega)
          clear KE h5
          go_wp2_with fail
          refine (HG.out _).mono ?_
          rintro e w5 ⟨rfl, bn⟩
          have BX := Lib.hid (BW.out.trans (bn.mono BW.out.size))
          have K1 := Lib.hid (K1.out.ext bn)
          have K2 := Lib.hid (K2.out.ext bn)
          have PA := Lib.hid (PA.out.ext bn)
          clear bn e0 e1 e2 e3 e4 e5 e6 e7 a0 a1 a2 a3
          have e0 : w5.cell? ⟨g2, 0, none⟩ = some (.int .u8 ((o.1.val : Nat) : Int)) := K2.out.cell 0
          have e1 : w5.cell? ⟨g2, 1, none⟩ = some (.int .u8 ((o.2.1.1.1.val : Nat) : Int)) := K2.out.cell 1
          have e2 : w5.cell? ⟨g2, 2, none⟩ = some (.int .u16 ((o.2.1.1.2.val : Nat) : Int)) := K2.out.cell 2
          have e3 : w5.cell? ⟨g2, 3, none⟩ = some (.int .u8 ((o.2.1.2.val : Nat) : Int)) := K2.out.cell 3
          have e4 : w5.cell? ⟨g2, 4, none⟩ = some (.int .u8 ((o.2.2.1.1.1.val : Nat) : Int)) := K2.out.cell 4
          have e5 : w5.cell? ⟨g2, 5, none⟩ = some (.int .u16 ((o.2.2.1.1.2.val : Nat) : Int)) := K2.out.cell 5
          have e6 : w5.cell? ⟨g2, 6, none⟩ = some (.int .u8 ((o.2.2.1.2.val : Nat) : Int)) := K2.out.cell 6
          have e7 : w5.cell? ⟨g2, 7, none⟩ = some (.string o.2.2.2) := K2.out.cell 7
          have a0 : w5.cell? ⟨g1, 0, none⟩ = some (.int .u8 ((p.1.1.val : Nat) : Int)) := K1.out.cell 0
          have a1 : w5.cell? ⟨g1, 1, none⟩ = some (.int .u16 ((p.1.2.val : Nat) : Int)) := K1.out.cell 1
          have a2 : w5.cell? ⟨g1, 2, none⟩ = some (.slice A p.2.1.length c) := K1.out.cell 2
          have a3 : w5.cell? ⟨g1, 3, none⟩ = some (.slice (some ⟨b, off, none⟩) p.2.2.length c') := K1.out.cell 3
          go_wp2_with fail
          refine (HL.out _).mono ?_
          rintro e w6 ⟨rfl, bn⟩
          have BY := Lib.hid (BX.out.trans (bn.mono BX.out.size))
          have K1 := Lib.hid (K1.out.ext bn)
          have K2 := Lib.hid (K2.out.ext bn)
          have PA := Lib.hid (PA.out.ext bn)
          clear bn e0 e1 e2 e3 e4 e5 e6 e7 a0 a1 a2 a3
          have e0 : w6.cell? ⟨g2, 0, none⟩ = some (.int .u8 ((o.1.val : Nat) : Int)) := K2.out.cell 0
          have e1 : w6.cell? ⟨g2, 1, none⟩ = some (.int .u8 ((o.2.1.1.1.val : Nat) : Int)) := K2.out.cell 1
          have e2 : w6.cell? ⟨g2, 2, none⟩ = some (.int .u16 ((o.2.1.1.2.val : Nat) : Int)) := K2.out.cell 2
          have e3 : w6.cell? ⟨g2, 3, none⟩ = some (.int .u8 ((o.2.1.2.val : Nat) : Int)) := K2.out.cell 3
          have e4 : w6.cell? ⟨g2, 4, none⟩ = some (.int .u8 ((o.2.2.1.1.1.val : Nat) : Int)) := K2.out.cell 4
          have e5 : w6.cell? ⟨g2, 5, none⟩ = some (.int .u16 ((o.2.2.1.1.2.val : Nat) : Int)) := K2.out.cell 5
          have e6 : w6.cell? ⟨g2, 6, none⟩ = some (.int .u8 ((o.2.2.1.2.val : Nat) : Int)) := K2.out.cell 6
          have e7 : w6.cell? ⟨g2, 7, none⟩ = some (.string o.2.2.2) := K2.out.cell 7
          have a0 : w6.cell? ⟨g1, 0, none⟩ = some (.int .u8 ((p.1.1.val : Nat) : Int)) := K1.out.cell 0
          have a1 : w6.cell? ⟨g1, 1, none⟩ = some (.int .u16 ((p.1.2.val : Nat) : Int)) := K1.out.cell 1
          have a2 : w6.cell? ⟨g1, 2, none⟩ = some (.slice A p.2.1.length c) := K1.out.cell 2
          have a3 : w6.cell? ⟨g1, 3, none⟩ = some (.slice (some ⟨b, off, none⟩) p.2.2.length c') := K1.out.cell 3
          have HSU := Lib.hid (HSU.out w6 PA.out (by trivial))
          go_wp2_with fail
          refine HSU.out.mono ?_
          rintro e w7 ⟨rfl, bn⟩
          have BZ := Lib.hid (BY.out.trans (bn.mono BY.out.size))
          clear bn e0 e1 e2 e3 e4 e5 e6 e7 a0 a1 a2 a3
          cases su
          · go_wp2_with fail
            go_meet
            case rel => exact ⟨by simp [HT7.out], BZ.out⟩
          · go_wp2_with fail
            go_meet
            case rel => exact ⟨by simp [HT7.out], BZ.out⟩
        case rest =>
          obtain ⟨w5, rfl⟩ : ∃ w5, w5 = wc := ⟨_, rfl⟩
          obtain ⟨rfl, bn⟩ := hcut
          have K1 := Lib.hid (K1.out.ext bn)
          have K2 := Lib.hid (K2.out.ext bn)
          have PA := Lib.hid (PA.out.ext bn)
          have M := Lib.hid (M.out.ext bn)
          have B6 := Lib.hid (B5.out.trans (bn.mono B5.out.size))
          clear bn HG HL HSU HT7 BW B5
          cases t7
          · have N := Lib.hid (N2.out (by rw [FT.out]; rfl))
            clear N1 N2 FT
            go_wp2
            go_ret
            exact ⟨ret_bool (by rw [GV.out, N.out]), B3.out.trans (B6.out.mono B3.out.size)⟩
          simp only [Bool.not_true]
          have FT : Hid (oneP p k o = (makesB ((o.1.val : Nat) : Int) || !decide (o ∈ p.2.2.take k))) := FT.out
          have hg : g2 ≠ wx.heap.size := by omega
          obtain ⟨kl, hkey⟩ := kKeyO o hok
          have hl200 := HL.out
          have hlen : l.length ≤ 1000 := by
            have h1 := congrArg List.length KS.out
            rw [List.length_map, List.length_map] at h1
            omega
          obtain ⟨c0, st, o1, hget, hlook, hentry, hlook2, hstore⟩ := M.out.entry kLawO kMapO kZeroI (by unfold maxLen; omega) hkey
          have hc0 := uniqNew aggO_inj (x := o) KS.out hget
          have hz : ∃ z : Int, c0 = .int .i64 z ∧ 0 ≤ z ∧ z ≤ k ∧ ((o ∉ us ∧ z = 0) ∨ (o ∈ us ∧ 1 ≤ z)) := by
            rcases hc0 with ⟨h1, rfl⟩ | ⟨h1, h2⟩
            · exact ⟨0, rfl, by omega, by omega, .inl ⟨h1, rfl⟩⟩
            · obtain ⟨z, hz, h3, h4⟩ := VS.out _ h2
              exact ⟨z, hz, by omega, h4, .inr ⟨h1, h3⟩⟩
          obtain ⟨z, rfl, hz0, hz1, hzz⟩ := hz
          obtain ⟨o2, l', hst, hput, hmap⟩ := hstore (.int .i64 (z + 1))
          have PUT := Lib.hid hput
          have hlt1 : wx.heap.size < w5.heap.size := M.out.lt
          have hl1 := hlook w5.drew rfl
          have he1 := hentry w5.drew rfl
          have hw2 : (setBlock w5.drew wx.heap.size o1).heap[wx.heap.size]? = some o1 := setBlock_heap hlt1
          have hl2 := hlook2 _ hw2
          have hs2 := hst _ hw2
          have MAP := Lib.hid (hmap (setBlock w5.drew wx.heap.size o1) (by simpa [setBlock] using hlt1))
          have BB : Hid (Below wx.heap.size wx (setBlock (setBlock w5.drew wx.heap.size o1) wx.heap.size o2)) := setBlock_below (setBlock_below B6.out.drew (Nat.le_refl _) _) (Nat.le_refl _) _
          have ha : ∀ u : World, (binOp .add 3 (.int .i64 z) (.int .i64 1)).run Tryz.prog u = .ok (.int .i64 (z + 1)) u := fun u => by
            have e : IntKind.i64.wrap (z + 1) = z + 1 := IntWalk.i64_in _ (by omega)
            simp [go_sem, e]
          have hgd : ∀ (u : World) (x y : Operand), (eqGuard .add 3 x y (.int .i64 z) (.int .i64 1)).run Tryz.prog u = .ok () u := fun u x y => by simp [eqGuard]
          have KS1 : Blk w5.drew g2 122 (encO o).toArray := K2.out
          have KS2 : Blk (setBlock w5.drew wx.heap.size o1) g2 122 (encO o).toArray := Blk.setBlock K2.out hg _
          have KS3 : Blk (setBlock (setBlock w5.drew wx.heap.size o1) wx.heap.size o2) g2 122 (encO o).toArray := Blk.setBlock (Blk.setBlock K2.out hg _) hg _
          have F1 := Lib.hid (uniqKeep aggO_inj KS.out o PUT.out)
          have F2 : Hid (∀ q ∈ l', ∃ z : Int, q.2 = .int .i64 z ∧ 1 ≤ z ∧ z ≤ ((k + 1 : Nat) : Int)) := by
            intro q hq
            rcases PUT.out with ⟨_, rfl⟩ | ⟨j, v0, _, rfl⟩
            · rcases List.mem_append.1 hq with hq | hq
              · obtain ⟨y, h1, h2, h3⟩ := VS.out q hq; exact ⟨y, h1, h2, by omega⟩
              · rw [List.mem_singleton] at hq; subst hq; exact ⟨z + 1, rfl, by omega, by omega⟩
            · rcases List.mem_or_eq_of_mem_set hq with hq | rfl
              · obtain ⟨y, h1, h2, h3⟩ := VS.out q hq; exact ⟨y, h1, h2, by omega⟩
              · exact ⟨z + 1, rfl, by omega, by omega⟩
          obtain ⟨v3, hget3, hlook3⟩ := MAP.out.look kLawO kMapO kZeroI hkey
          obtain rfl : v3 = .int .i64 (z + 1) := GetL.one MAP.out.apart hget3 (.inr (putL_mem PUT.out))
          have hl3 := hlook3 _ rfl
          have ZZ := Lib.hid hzz
          have HS2 : Hid ((Tryz.prog.info? 122).map (·.size) = some (encO o).toArray.size) := infoOp
          have UL : Hid ((addU us o).length ≤ k + 1) := by
            unfold Hid addU
            split
            · omega
            · rw [List.length_append, List.length_singleton]; omega
          clear hstore hget hput hmap hkey hlook hentry hlook2 hst hw2 KS VS PUT hc0 hget3 hlook3 hzz M K1 K2 PA B6
          generalize (setBlock w5.drew wx.heap.size o1) = w6 at *
          generalize (setBlock w6 wx.heap.size o2) = w7 at *
          go_upto_region 9 with fail
          go_cut [65] (fun s wx' => s = .map (some wx.heap.size) ∧ wx' = w7)
          case first =>
            refine wp_region_held (S := fun w' => Blk w' g2 122 (encO o).toArray) mixedS ?_
            change wpAnyH _ _ _ _ _ _ _ _ w5.drew
            generalize w5.drew = wd at *
            simp only [List.size_toArray, List.length_cons, List.length_nil]
            refine take_move (i := 0) rfl (by kernel_rfl) (by kernel_rfl) (by kernel_rfl) (fun _ _ _ h => h) rfl rfl KS1 ?_
            simp only [Act.put, List.setIfInBounds_toArray, List.set_cons_zero, List.set_cons_succ]
            refine take_row (i := 1) rfl (by kernel_rfl) (by kernel_rfl) (by kernel_rfl) (fun _ _ _ h => h) rfl rfl (fun _ h => h) underOp rfl HS2.out KS1 ?_
            simp only [Act.put, List.setIfInBounds_toArray, List.set_cons_zero, List.set_cons_succ]
            refine wpAnyH_all (rs := [2, 4]) (by kernel_rfl) (by simp) ?_
            intro i hi
            simp only [List.mem_cons, List.not_mem_nil, or_false] at hi
            rcases hi with rfl | rfl
            · refine wpOp_of rfl rfl (wp_looked rfl rfl hl1 ?_)
              refine ⟨KS1, ?_⟩
              simp only [Act.put, List.setIfInBounds_toArray, List.set_cons_zero, List.set_cons_succ]
              refine wpAnyH_all (rs := [3, 4]) (by kernel_rfl) (by simp) ?_
              intro i hi
              simp only [List.mem_cons, List.not_mem_nil, or_false] at hi
              rcases hi with rfl | rfl
              · refine wpOp_of rfl rfl (wp_computed rfl rfl (hgd _ _ _) (ha _) ?_)
                refine ⟨KS1, ?_⟩
                simp only [Act.put, List.setIfInBounds_toArray, List.set_cons_zero, List.set_cons_succ]
                refine wpAnyH_all (rs := [4]) (by kernel_rfl) (by simp) ?_
                intro i hi
                simp only [List.mem_cons, List.not_mem_nil, or_false] at hi
                subst hi
                refine wpOp_of rfl rfl (wp_entered rfl rfl he1 ?_)
                refine ⟨KS2, ?_⟩
                simp only [Act.put, List.setIfInBounds_toArray, List.set_cons_zero, List.set_cons_succ]
                refine wpAnyH_all (rs := [5]) (by kernel_rfl) (by simp) ?_
                intro i hi
                simp only [List.mem_cons, List.not_mem_nil, or_false] at hi
                subst hi
                refine wpOp_of rfl rfl (wp_extracted rfl rfl ?_)
                refine ⟨KS2, ?_⟩
                simp only [Act.put, List.setIfInBounds_toArray, List.set_cons_zero, List.set_cons_succ]
                refine wpAnyH_all (rs := [6]) (by kernel_rfl) (by simp) ?_
                intro i hi
                simp only [List.mem_cons, List.not_mem_nil, or_false] at hi
                subst hi
                refine wpOp_of rfl rfl (wp_estored rfl rfl rfl hs2 ?_)
                refine ⟨KS3, ?_⟩
                refine wpAnyH_done (by kernel_rfl) ?_ _
                go_wp2_with fail
                go_meet
                exact ⟨rfl, rfl⟩
              · refine wpOp_of rfl rfl (wp_entered rfl rfl he1 ?_)
                refine ⟨KS2, ?_⟩
                simp only [Act.put, List.setIfInBounds_toArray, List.set_cons_zero, List.set_cons_succ]
                refine wpAnyH_all (rs := [3, 5]) (by kernel_rfl) (by simp) ?_
                intro i hi
                simp only [List.mem_cons, List.not_mem_nil, or_false] at hi
                rcases hi with rfl | rfl
                · refine wpOp_of rfl rfl (wp_computed rfl rfl (hgd _ _ _) (ha _) ?_)
                  refine ⟨KS2, ?_⟩
                  simp only [Act.put, List.setIfInBounds_toArray, List.set_cons_zero, List.set_cons_succ]
                  refine wpAnyH_all (rs := [5]) (by kernel_rfl) (by simp) ?_
                  intro i hi
                  simp only [List.mem_cons, List.not_mem_nil, or_false] at hi
                  subst hi
                  refine wpOp_of rfl rfl (wp_extracted rfl rfl ?_)
                  refine ⟨KS2, ?_⟩
                  simp only [Act.put, List.setIfInBounds_toArray, List.set_cons_zero, List.set_cons_succ]
                  refine wpAnyH_all (rs := [6]) (by kernel_rfl) (by simp) ?_
                  intro i hi
                  simp only [List.mem_cons, List.not_mem_nil, or_false] at hi
                  subst hi
                  refine wpOp_of rfl rfl (wp_estored rfl rfl rfl hs2 ?_)
                  refine ⟨KS3, ?_⟩
                  refine wpAnyH_done (by kernel_rfl) ?_ _
                  go_wp2_with fail
                  go_meet
                  exact ⟨rfl, rfl⟩
                · refine wpOp_of rfl rfl (wp_extracted rfl rfl ?_)
                  refine ⟨KS2, ?_⟩
                  simp only [Act.put, List.setIfInBounds_toArray, List.set_cons_zero, List.set_cons_succ]
                  refine wpAnyH_all (rs := [3]) (by kernel_rfl) (by simp) ?_
                  intro i hi
                  simp only [List.mem_cons, List.not_mem_nil, or_false] at hi
                  subst hi
                  refine wpOp_of rfl rfl (wp_computed rfl rfl (hgd _ _ _) (ha _) ?_)
                  refine ⟨KS2, ?_⟩
                  simp only [Act.put, List.setIfInBounds_toArray, List.set_cons_zero, List.set_cons_succ]
                  refine wpAnyH_all (rs := [6]) (by kernel_rfl) (by simp) ?_
                  intro i hi
                  simp only [List.mem_cons, List.not_mem_nil, or_false] at hi
                  subst hi
                  refine wpOp_of rfl rfl (wp_estored rfl rfl rfl hs2 ?_)
                  refine ⟨KS3, ?_⟩
                  refine wpAnyH_done (by kernel_rfl) ?_ _
                  go_wp2_with fail
                  go_meet
                  exact ⟨rfl, rfl⟩
            · refine wpOp_of rfl rfl (wp_entered rfl rfl he1 ?_)
              refine ⟨KS2, ?_⟩
              simp only [Act.put, List.setIfInBounds_toArray, List.set_cons_zero, List.set_cons_succ]
              refine wpAnyH_all (rs := [2, 5]) (by kernel_rfl) (by simp) ?_
              intro i hi
              simp only [List.mem_cons, List.not_mem_nil, or_false] at hi
              rcases hi with rfl | rfl
              · refine wpOp_of rfl rfl (wp_looked rfl rfl hl2 ?_)
                refine ⟨KS2, ?_⟩
                simp only [Act.put, List.setIfInBounds_toArray, List.set_cons_zero, List.set_cons_succ]
                refine wpAnyH_all (rs := [3, 5]) (by kernel_rfl) (by simp) ?_
                intro i hi
                simp only [List.mem_cons, List.not_mem_nil, or_false] at hi
                rcases hi with rfl | rfl
                · refine wpOp_of rfl rfl (wp_computed rfl rfl (hgd _ _ _) (ha _) ?_)
                  refine ⟨KS2, ?_⟩
                  simp only [Act.put, List.setIfInBounds_toArray, List.set_cons_zero, List.set_cons_succ]
                  refine wpAnyH_all (rs := [5]) (by kernel_rfl) (by simp) ?_
                  intro i hi
                  simp only [List.mem_cons, List.not_mem_nil, or_false] at hi
                  subst hi
                  refine wpOp_of rfl rfl (wp_extracted rfl rfl ?_)
                  refine ⟨KS2, ?_⟩
                  simp only [Act.put, List.setIfInBounds_toArray, List.set_cons_zero, List.set_cons_succ]
                  refine wpAnyH_all (rs := [6]) (by kernel_rfl) (by simp) ?_
                  intro i hi
                  simp only [List.mem_cons, List.not_mem_nil, or_false] at hi
                  subst hi
                  refine wpOp_of rfl rfl (wp_estored rfl rfl rfl hs2 ?_)
                  refine ⟨KS3, ?_⟩
                  refine wpAnyH_done (by kernel_rfl) ?_ _
                  go_wp2_with fail
                  go_meet
                  exact ⟨rfl, rfl⟩
                · refine wpOp_of rfl rfl (wp_extracted rfl rfl ?_)
                  refine ⟨KS2, ?_⟩
                  simp only [Act.put, List.setIfInBounds_toArray, List.set_cons_zero, List.set_cons_succ]
                  refine wpAnyH_all (rs := [3]) (by kernel_rfl) (by simp) ?_
                  intro i hi
                  simp only [List.mem_cons, List.not_mem_nil, or_false] at hi
                  subst hi
                  refine wpOp_of rfl rfl (wp_computed rfl rfl (hgd _ _ _) (ha _) ?_)
                  refine ⟨KS2, ?_⟩
                  simp only [Act.put, List.setIfInBounds_toArray, List.set_cons_zero, List.set_cons_succ]
                  refine wpAnyH_all (rs := [6]) (by kernel_rfl) (by simp) ?_
                  intro i hi
                  simp only [List.mem_cons, List.not_mem_nil, or_false] at hi
                  subst hi
                  refine wpOp_of rfl rfl (wp_estored rfl rfl rfl hs2 ?_)
                  refine ⟨KS3, ?_⟩
                  refine wpAnyH_done (by kernel_rfl) ?_ _
                  go_wp2_with fail
                  go_meet
                  exact ⟨rfl, rfl⟩
              · refine wpOp_of rfl rfl (wp_extracted rfl rfl ?_)
                refine ⟨KS2, ?_⟩
                simp only [Act.put, List.setIfInBounds_toArray, List.set_cons_zero, List.set_cons_succ]
                refine wpAnyH_all (rs := [2]) (by kernel_rfl) (by simp) ?_
                intro i hi
                simp only [List.mem_cons, List.not_mem_nil, or_false] at hi
                subst hi
                refine wpOp_of rfl rfl (wp_looked rfl rfl hl2 ?_)
                refine ⟨KS2, ?_⟩
                simp only [Act.put, List.setIfInBounds_toArray, List.set_cons_zero, List.set_cons_succ]
                refine wpAnyH_all (rs := [3]) (by kernel_rfl) (by simp) ?_
                intro i hi
                simp only [List.mem_cons, List.not_mem_nil, or_false] at hi
                subst hi
                refine wpOp_of rfl rfl (wp_computed rfl rfl (hgd _ _ _) (ha _) ?_)
                refine ⟨KS2, ?_⟩
                simp only [Act.put, List.setIfInBounds_toArray, List.set_cons_zero, List.set_cons_succ]
                refine wpAnyH_all (rs := [6]) (by kernel_rfl) (by simp) ?_
                intro i hi
                simp only [List.mem_cons, List.not_mem_nil, or_false] at hi
                subst hi
                refine wpOp_of rfl rfl (wp_estored rfl rfl rfl hs2 ?_)
                refine ⟨KS3, ?_⟩
                refine wpAnyH_done (by kernel_rfl) ?_ _
                go_wp2_with fail
                go_meet
                exact ⟨rfl, rfl⟩
          case rest =>
            obtain ⟨rfl, hwc⟩ := hcut
            rw [hwc]
            clear hwc
            have K3 := Lib.hid KS3
            have e0 : w7.cell? ⟨g2, 0, none⟩ = some (.int .u8 ((o.1.val : Nat) : Int)) := KS3.cell 0
            clear KS1 KS2 KS3 hl1 hl2 he1 hs2 ha hgd
            have mk0 := (u8_in o.1).1
            have mk1 := (u8_in o.1).2
            rcases ZZ.out with ⟨hnew, rfl⟩ | ⟨hold, hz2⟩
            · have N := Lib.hid (N1.out (by rw [FT.out, decide_eq_false (fun h => hnew (UM.out.2 h))]; simp))
              clear ZZ hnew N1 N2 FT UM
              have d6 : ((1 : Int) < 0 + 1) = False := by simp
              go_wp2_with (first
                | (refine wpList_load_row rfl 122 _ (by rfl) g2 (by rfl) _ _ _ _ K3.out underOp rfl infoOp ?_)
                | (refine wpList_lookedU (by rfl) (by rfl) hl3 ?_))
              go_roundw
              case rel => exact ⟨k + 1, l', addU us o, by omega, UL.out, by go_num, N.out, P1.out.symm, F1.out, F2.out, MAP.out, BB.out⟩
              case measure => simp [intOf]; omega
            · have d6 : (1 : Int) < z + 1 := by omega
              have hmem := Lib.hid (UM.out.1 hold)
              have HM := Lib.hid (makes_any ((o.1.val : Nat) : Int) w7 ⟨mk0, mk1⟩)
              cases hmk : makesB ((o.1.val : Nat) : Int)
              · rw [hmk] at HM FT
                have N := Lib.hid (N2.out (by rw [FT.out, decide_eq_true hmem.out]; rfl))
                clear ZZ hold N1 N2 FT UM hmk
                go_wp2_with (first
                  | (refine wpList_load_row rfl 122 _ (by rfl) g2 (by rfl) _ _ _ _ K3.out underOp rfl infoOp ?_)
                  | (refine wpList_lookedU (by rfl) (by rfl) hl3 ?_)
                  | (refine HM.out.mono ?_; rintro e w8 ⟨rfl, rfl⟩))
                go_ret
                exact ⟨ret_bool (by rw [GV.out, N.out]), B3.out.trans (BB.out.mono B3.out.size)⟩
              · rw [hmk] at HM FT
                have N := Lib.hid (N1.out (by rw [FT.out]; rfl))
                clear ZZ hold N1 N2 FT UM hmk
                go_wp2_with (first
                  | (refine wpList_load_row rfl 122 _ (by rfl) g2 (by rfl) _ _ _ _ K3.out underOp rfl infoOp ?_)
                  | (refine wpList_lookedU (by rfl) (by rfl) hl3 ?_)
                  | (refine HM.out.mono ?_; rintro e w8 ⟨rfl, rfl⟩))
                go_roundw
                case rel => exact ⟨k + 1, l', addU us o, by omega, UL.out, by go_num, N.out, P1.out.symm, F1.out, F2.out, MAP.out, BB.out⟩
                case measure => simp [intOf]; omega
      · have hk : k = p.2.2.length := by omega
        subst hk
        have hlk : ¬ ((p.2.2.length : Int) < (p.2.2.length : Int)) := by omega
        go_wp2
        go_ret
        exact ⟨ret_bool (by rw [GV.out, T.out]), B3.out.trans (B.out.mono B3.out.size)⟩
end Go.Proofs.YtihggkmjalofiaaGreatDoor
