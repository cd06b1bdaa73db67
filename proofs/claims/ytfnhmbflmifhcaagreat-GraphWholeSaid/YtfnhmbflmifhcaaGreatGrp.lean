/- What is applied hangs together: the statement walked. -/
import Derived.Test.YtfnhmbflmifhcaaGreatGrs
import Derived.Test.YtfnhmbflmifhcaaGreatVrefs
namespace Go.Proofs.YtfnhmbflmifhcaaGreat
open Go.RowKit

theorem kind_vert {L : List PatV} {v : VidV} {k : Nat} (h : kindIs (rawV L) v k = true) : (vertV L v).isSome = true ∧ (vertD L v).1 = v ∧ (vertD L v).2.1.val = k ∧ (vertD L v).2.2.1 = fileV L v := by
  unfold kindIs at h
  cases hr : rawV L v with
  | none => rw [hr] at h; cases h
  | some r =>
    rw [hr] at h
    have h := of_decide_eq_true h
    have e : vertV L v = some (v, r.1, r.2.1, r.2.2, deadV L v) := by unfold vertV; rw [hr]; rfl
    have e2 : vertD L v = (v, r.1, r.2.1, r.2.2, deadV L v) := by unfold vertD; rw [e]; rfl
    refine ⟨by rw [e]; rfl, by rw [e2], by rw [e2]; exact h, ?_⟩
    rw [e2]
    unfold fileV fileF
    rw [hr]
/-- a graph is handed back that is the call's own -/
def RetBuilt (w : World) (L : List PatV) (e : Ending) (w' : World) : Prop := ∃ F g, e = .returned (.pointer (some ⟨g, 0, none⟩)) ∧ GraphAt w' F g L ∧ (∀ k, F k → w.heap.size ≤ k) ∧ Below w.heap.size w w'
set_option maxRecDepth 100000 in
set_option maxHeartbeats 4000000 in
theorem build20_any (w : World) (l : List PatV) (A : Option Addr) (n c : Nat) (hm : n ≤ maxLen) (h : PatsAt w A n l) : Calls Tryz.prog 18 #[.slice A n c] w (RetBuilt w (runG [] l)) := by
  have H0 := Lib.hid h
  have hln := Lib.hid h.len
  unfold maxLen at hm
  clear h
  go_enter Tryz.func18, Tryz.ntmps18
  go_wp2_with fail
  refine (new20_any _).mono ?_
  rintro e w4 ⟨F, g, rfl, hA, hF, b4⟩
  have GA := Lib.hid hA
  have B4 := Lib.hid b4
  have hFw := Lib.hid hF
  clear hA hF b4
  go_wp2_with fail
  go_loopw [4] (fun i wr => ∃ s : Nat, s ≤ n ∧ i = .int .i64 s ∧ Hid (GraphAt wr F g (runG [] (l.take s))) ∧ Hid (Below w.heap.size w wr)) (fun i _ => n - (intOf i).toNat)
  case atStart => exact ⟨0, by omega, rfl, GA.out, B4.out⟩
  case round =>
    clear GA B4
    obtain ⟨s, hs, rfl, GA, B⟩ := hrel
    obtain ⟨wi, rfl⟩ : ∃ wx, wx = wr := ⟨_, rfl⟩
    have hs0 : (0 : Int) ≤ (s : Int) := by omega
    by_cases hst : s < n
    · have hsk : (s : Int) < (n : Int) := by omega
      obtain ⟨b, o, p, r, rfl, hb, hp, pa, R⟩ := H0.out.at_ hst
      have PI := Lib.hid (pa.in_.ext B.out)
      have RP := Lib.hid (rangeAt_below R B.out hb)
      obtain ⟨⟨A1, c1, A2, c2, rfl, _, _⟩, _, _⟩ := pa
      have LP := Lib.hid (runG_snoc [] hp)
      have hA1 := Lib.hid (apply20_any GA.out p _ PI.out (fun x (h1 : x < w.heap.size) h2 => Nat.not_lt.2 (hFw.out x h2) h1))
      clear R hb hp
      go_wp2_with (refine wpList_load_mid rfl 37 _ (by rfl) b (o + s * 4) (by rfl) _ _ RP.out underPat rfl infoPat ?_)
      refine hA1.out.mono ?_
      rintro e w6 ⟨rfl, kp, hG⟩
      have GA6 := Lib.hid hG
      have B6 := Lib.hid (B.out.trans (kp.below (B := w.heap.size) hFw.out B.out.size))
      clear hG kp hA1 GA RP PI B
      go_wp2_with fail
      go_roundw
      case rel => exact ⟨s + 1, by omega, by go_num, by rw [LP.out]; exact GA6.out, B6.out⟩
      case measure => simp [intOf]; omega
    · have hsk : ¬ (s : Int) < (n : Int) := by omega
      have GA7 : Hid (GraphAt wi F g (runG [] l)) := by
        have h1 := GA.out
        rw [List.take_of_length_le (by rw [hln.out]; omega)] at h1
        exact h1
      clear GA
      go_wp2
      go_ret
      exact ⟨F, g, rfl, GA7.out, hFw.out, B.out⟩
theorem cmpV_lt {x y : VidV} (h : keyV x < keyV y) (w : World) : Calls Tryz.prog 32 #[.agg (encV x).toArray, .agg (encV y).toArray] w (RetB w (.int .i64 (-1))) := by
  have := rcmpVQ x y w
  rw [signV_lt h] at this
  exact this
theorem rise_at {l : List VertV} (h : RiseK keyX l) {k : Nat} {x y : VertV} (hx : l[k]? = some x) (hy : l[k + 1]? = some y) : keyV x.1 < keyV y.1 := by
  obtain ⟨h1, rfl⟩ := List.getElem?_eq_some_iff.1 hx
  obtain ⟨h2, rfl⟩ := List.getElem?_eq_some_iff.1 hy
  exact List.pairwise_iff_getElem.1 h k (k + 1) h1 h2 (by omega)
theorem indexX20 (b o n c k : Nat) (hk : k < n) (w : World) : (Instr.indexAt 53 (.slice (some ⟨b, o, none⟩) n c) (.int .i64 ((k : Nat) : Int))).run Tryz.prog w = .ok (.pointer (some ⟨b, o + k * 9, none⟩)) w := by
  have h0 : (0 : Int) ≤ (k : Int) := by omega
  have h1 : (k : Int) < (n : Int) := by omega
  simp [go_sem, h0, h1]
theorem fieldX0 (b o : Nat) (w : World) : (Instr.fieldAt 46 (.pointer (some ⟨b, o, none⟩)) 0).run Tryz.prog w = .ok (.pointer (some ⟨b, o, none⟩)) w := by simp [go_sem]
theorem fieldX1 (g : Nat) (w : World) : (Instr.fieldAt 46 (.pointer (some ⟨g, 0, none⟩)) 1).run Tryz.prog w = .ok (.pointer (some ⟨g, 3, none⟩)) w := by simp [go_sem]
theorem subOne (j : Nat) (h : 0 < j) (hj : j ≤ 80000) (w : World) : (binOp .sub 3 (.int .i64 (j : Int)) (.int .i64 1)).run Tryz.prog w = .ok (.int .i64 ((j - 1 : Nat) : Int)) w := by
  have : IntKind.i64.wrap ((j : Int) - 1) = ((j - 1 : Nat) : Int) := by rw [IntKind.wrap_i64]; omega
  simp [go_sem, this]
theorem gtrZ (j : Nat) (w : World) : (binOp .gtr 3 (.int .i64 (j : Int)) (.int .i64 0)).run Tryz.prog w = .ok (.bool (decide (0 < j))) w := by
  by_cases h : 0 < j
  · simp [go_sem, h]
  · simp [go_sem, h]
theorem fieldV0 (b o : Nat) (w : World) : (Instr.fieldAt 43 (.pointer (some ⟨b, o, none⟩)) 0).run Tryz.prog w = .ok (.pointer (some ⟨b, o, none⟩)) w := by simp [go_sem]
theorem x_vid {w : World} {b o : Nat} {x : VertV} (h : w.rangeAt b o (encX x)) : w.rangeAt b o (encV x.1) := fun j v hj =>
  match j, hj with
  | 0, hj => h 0 v hj
  | 1, hj => h 1 v hj
  | 2, hj => h 2 v hj
  | j + 3, hj => by simp [encV] at hj
theorem x_file {w : World} {b o : Nat} {x : VertV} (h : w.rangeAt b o (encX x)) : w.rangeAt b (o + 4) (encV x.2.2.1) := fun j v hj =>
  match j, hj with
  | 0, hj => h 4 v hj
  | 1, hj => h 5 v hj
  | 2, hj => h 6 v hj
  | j + 3, hj => by simp [encV] at hj
theorem v_pid {w : World} {b o : Nat} {x : VidV} (h : w.rangeAt b o (encV x)) : w.rangeAt b o (encP x.1) := fun j v hj =>
  match j, hj with
  | 0, hj => h 0 v hj
  | 1, hj => h 1 v hj
  | j + 2, hj => by simp [encP] at hj
theorem e_first {w : World} {b o : Nat} {x : EdgeV} (h : w.rangeAt b o (encE x)) : w.rangeAt b o (encV x.1) := fun j v hj =>
  match j, hj with
  | 0, hj => h 0 v hj
  | 1, hj => h 1 v hj
  | 2, hj => h 2 v hj
  | j + 3, hj => by simp [encV] at hj
theorem e_second {w : World} {b o : Nat} {x : EdgeV} (h : w.rangeAt b o (encE x)) : w.rangeAt b (o + 3) (encV x.2) := fun j v hj =>
  match j, hj with
  | 0, hj => h 3 v hj
  | 1, hj => h 4 v hj
  | 2, hj => h 5 v hj
  | j + 3, hj => by simp [encV] at hj
set_option maxRecDepth 100000 in
set_option maxHeartbeats 8000000 in
theorem graphWhole_walk (w : World) (l : List PatV) (A : Option Addr) (n c : Nat) (hm : n ≤ maxLen) (h : PatsAt w A n l) :
    Calls Tryz.prog 5 #[.slice A n c] w (RetB w (.bool true)) := by
  have H0 := Lib.hid h
  clear h
  go_enter Tryz.func5, Tryz.ntmps5
  have HF := Lib.hid (few20_any l w A n c 20 H0.out hm)
  cases hf : fewsB l 20
  · rw [fewsN_false hf] at HF
    go_wp2_with fail
    refine HF.out.mono ?_
    rintro e w3 ⟨rfl, b3⟩
    have B3 := Lib.hid b3
    clear b3 HF
    go_wp2_with fail
    refine (works20 _).mono ?_
    rintro e w4 ⟨rfl, b4⟩
    have B4 := Lib.hid (B3.out.trans (b4.mono B3.out.size))
    clear b4
    go_wp2
    go_ret
    exact ⟨rfl, B4.out⟩
  · rw [fewsN_true hf] at HF
    have hn20 : l.length ≤ 20 := by have h1 := (fews_at20 hf).1; omega
    go_wp2_with fail
    refine HF.out.mono ?_
    rintro e w3 ⟨rfl, b3⟩
    have B3 := Lib.hid b3
    have HB := Lib.hid (build20_any w3 l A n c hm (H0.out.ext b3))
    clear b3 HF hf hm H0
    go_wp2_with fail
    refine HB.out.mono ?_
    rintro e w4 ⟨F, g, rfl, hG, _, b4⟩
    have HG := Lib.hid hG
    have B4 := Lib.hid (B3.out.trans (b4.mono B3.out.size))
    have hL : (runG [] l).length ≤ 400 := by have := rounds_len l 1; have e : rounds l 1 = runG [] l := rfl; rw [e] at this; omega
    clear hG b4 B3 HB hn20
    generalize runG [] l = L at *
    have hle := edgesL_few HG.out.ok hL
    have hlx := vertsL_few HG.out.ok hL
    have HE := Lib.hid (edges20_any HG.out hL)
    have hED : Hid (∀ e ∈ edgesL L, kindIs (rawV L) e.1 3 = true ∧ kindIs (rawV L) e.2 3 = true ∧ fileV L e.1 = fileV L e.2 ∧ e.1 ≠ e.2) := fun e he => HG.out.ok.edge he
    have hVD : Hid (∀ x ∈ vertsL L, kindIs (rawV L) x.2.2.1 1 = true ∧ hasP (vecL L) x.1.1 = true) := fun x hx => HG.out.ok.vert hx
    have hRI := Lib.hid HG.out.ok.verts_rise
    obtain ⟨ne, hne⟩ : ∃ n, n = (edgesL L).length := ⟨_, rfl⟩
    obtain ⟨nx, hnx⟩ : ∃ n, n = (vertsL L).length := ⟨_, rfl⟩
    rw [← hne] at HE hle
    rw [← hnx] at hlx
    replace hne := Lib.hid hne
    replace hnx := Lib.hid hnx
    go_wp2_with fail
    refine HE.out.mono ?_
    rintro e w5 ⟨_, rfl, o5, b5⟩
    obtain ⟨AE, cE, rfl, _, v5⟩ := EdgesAt.of_own o5 hne.out.symm
    have EA := Lib.hid v5
    have HG := Lib.hid (HG.out.ext b5)
    have B5 := Lib.hid (B4.out.trans (b5.mono B4.out.size))
    have HX := Lib.hid (verts20_any HG.out hL)
    rw [← hnx.out] at HX
    clear o5 v5 b5 B4 HE
    go_wp2_with fail
    refine HX.out.mono ?_
    rintro e w6 ⟨_, rfl, o6, b6⟩
    obtain ⟨AX, cX, rfl, _, v6⟩ := VertsAt.of_own o6 hnx.out.symm
    have XA := Lib.hid v6
    have EA := Lib.hid (EA.out.ext b6)
    have HG := Lib.hid (HG.out.ext b6)
    have B6 := Lib.hid (B5.out.trans (b6.mono B5.out.size))
    clear o6 v6 b6 B5 HX
    have HV := Lib.hid (fun (v : VidV) (u : World) (hu : Below w6.heap.size w6 u) => vert20_any (HG.out.ext hu).mem v)
    have HVc := Lib.hid (fun (u : World) (hu : Below w6.heap.size w6 u) => vec20_any (HG.out.ext hu).mem)
    clear HG
    have hcE : ∀ args u, (callFunc 31 args).run Tryz.prog u = .ok (.enter 31 args) u := enters_of Tryz.func31 (by kernel_rfl) rfl
    have hcH : ∀ args u, (callFunc 30 args).run Tryz.prog u = .ok (.enter 30 args) u := enters_of Tryz.func30 (by kernel_rfl) rfl
    have hcC : ∀ args u, (callFunc 32 args).run Tryz.prog u = .ok (.enter 32 args) u := enters_of Tryz.func32 (by kernel_rfl) rfl
    go_wp2_with fail
    go_loopw [6] (fun i wr => ∃ k : Nat, k ≤ ne ∧ i = .int .i64 k ∧ Hid (Below w6.heap.size w6 wr)) (fun i _ => ne - (intOf i).toNat)
    case atStart => exact ⟨0, by omega, rfl, Below.refl _ _⟩
    case round =>
      obtain ⟨k, hk, rfl, B⟩ := hrel
      obtain ⟨wi, rfl⟩ : ∃ wx, wx = wr := ⟨_, rfl⟩
      have hk0 : (0 : Int) ≤ (k : Int) := by omega
      by_cases hlt : k < ne
      · have hlk : (k : Int) < (ne : Int) := by omega
        obtain ⟨b, o, x, rfl, hb, hx, R⟩ := EA.out.at_ hlt
        obtain ⟨e1, e2, e3, e4⟩ := hED.out x (List.mem_of_getElem? hx)
        obtain ⟨a1, a2, a3, a4⟩ := kind_vert e1
        obtain ⟨d1, d2, d3, d4⟩ := kind_vert e2
        have R := Lib.hid R
        have hb := Lib.hid hb
        have RE1 := Lib.hid (e_first (rangeAt_below R.out B.out hb.out))
        have HV1 := Lib.hid (HV.out x.1 wi B.out)
        have HV2 := Lib.hid (HV.out x.2)
        rw [a1] at HV1
        rw [d1] at HV2
        have hfile : Hid ((vertD L x.1).2.2.1 = (vertD L x.2).2.2.1) := by rw [Hid, a4, d4, e3]
        have hid : Hid ((vertD L x.1).1 ≠ (vertD L x.2).1) := by rw [Hid, a2, d2]; exact e4
        clear e1 e2 e3 e4 a1 a2 a4 d1 d2 d4 hx
        generalize vertD L x.1 = va at *
        generalize vertD L x.2 = vb at *
        have hka : Hid (((va.2.1.val : Nat) : Int) = 3) := by rw [Hid, a3]; rfl
        have hkb : Hid (((vb.2.1.val : Nat) : Int) = 3) := by rw [Hid, d3]; rfl
        clear a3 d3
        go_wp2_with (refine wpList_load_mid rfl 43 _ (by rfl) b (o + k * 6) (by rfl) _ _ RE1.out underVid rfl infoVid ?_)
        refine HV1.out.mono ?_
        rintro e w7 ⟨rfl, b7⟩
        have B7 := Lib.hid (ext_trans B.out b7)
        clear b7 HV1 RE1 B
        have KA : Hid (Blk ((w7.alloc (.cells zeroX 46)).setRow w7.heap.size (encX va).toArray) w7.heap.size 46 (encX va).toArray) := (Blk.new _ _ _).row _
        have BA : Hid (Below w7.heap.size w7 ((w7.alloc (.cells zeroX 46)).setRow w7.heap.size (encX va).toArray)) := below_setRow ((Below.refl _ _).alloc (Nat.le_refl _) _) (Nat.le_refl _) _
        go_upto_region 9 with (first
          | (refine wpList_alloced (allocVert _) ?_)
          | (refine wpList_store_row rfl 46 _ _ (by rfl) w7.heap.size (encX va).toArray (by rfl) (by rfl) _ _ (Blk.new _ _ _) infoVert rfl (encX_all _) ?_))
        have B8 := Lib.hid (ext_trans B7.out BA.out)
        generalize ((w7.alloc (.cells zeroX 46)).setRow w7.heap.size (encX va).toArray) = w8 at *
        generalize w7.heap.size = ga at *
        have RE2 := Lib.hid (e_second (rangeAt_below R.out B8.out hb.out))
        have HV2 := Lib.hid (HV2.out w8 B8.out)
        clear BA B7
        go_wp2_with (refine wpList_load_mid rfl 43 _ (by rfl) b (o + k * 6 + 3) (by rfl) _ _ RE2.out underVid rfl infoVid ?_)
        refine HV2.out.mono ?_
        rintro e w9 ⟨rfl, b9⟩
        have B9 := Lib.hid (ext_trans B8.out b9)
        have KA := Lib.hid (KA.out.ext b9)
        clear b9 HV2 RE2 B8
        have KB : Hid (Blk ((w9.alloc (.cells zeroX 46)).setRow w9.heap.size (encX vb).toArray) w9.heap.size 46 (encX vb).toArray) := (Blk.new _ _ _).row _
        have BA : Hid (Below w9.heap.size w9 ((w9.alloc (.cells zeroX 46)).setRow w9.heap.size (encX vb).toArray)) := below_setRow ((Below.refl _ _).alloc (Nat.le_refl _) _) (Nat.le_refl _) _
        go_upto_region 10 with (first
          | (refine wpList_alloced (allocVert _) ?_)
          | (refine wpList_store_row rfl 46 _ _ (by rfl) w9.heap.size (encX vb).toArray (by rfl) (by rfl) _ _ (Blk.new _ _ _) infoVert rfl (encX_all _) ?_))
        have KA := Lib.hid (KA.out.ext BA.out)
        have B10 := Lib.hid (ext_trans B9.out BA.out)
        generalize ((w9.alloc (.cells zeroX 46)).setRow w9.heap.size (encX vb).toArray) = w10 at *
        generalize w9.heap.size = gb at *
        have ya : w10.cell? ⟨ga, 3, none⟩ = some (.int .u8 3) := (KA.out.cell 3).trans (by rw [← hka.out]; rfl)
        have yb : w10.cell? ⟨gb, 3, none⟩ = some (.int .u8 3) := (KB.out.cell 3).trans (by rw [← hkb.out]; rfl)
        have RA1 := Lib.hid (x_vid (blk_xQ KA.out))
        have RA2 := Lib.hid (x_file (blk_xQ KA.out))
        have RB1 := Lib.hid (x_vid (blk_xQ KB.out))
        have RB2 := Lib.hid (x_file (blk_xQ KB.out))
        rw [hfile.out] at RA2
        have NE : ∀ u : World, (binOp .neq 43 (.agg (encV vb.2.2.1).toArray) (.agg (encV vb.2.2.1).toArray)).run Tryz.prog u = .ok (.bool false) u := fun u => by rw [neqVQ, decide_eq_true rfl]; rfl
        have EQ : ∀ u : World, (binOp .eql 43 (.agg (encV va.1).toArray) (.agg (encV vb.1).toArray)).run Tryz.prog u = .ok (.bool false) u := fun u => by rw [eqlV, decide_eq_false hid.out]
        clear BA B9 KA KB hka hkb
        go_wp2_with (first
          | (refine wpList_load_midG (by kernel_rfl) 43 _ (by rfl) ga (0 + 4) (by rfl) _ _ RA2.out underVid rfl infoVid ?_)
          | (refine wpList_load_midG (by kernel_rfl) 43 _ (by rfl) gb (0 + 4) (by rfl) _ _ RB2.out underVid rfl infoVid ?_)
          | (refine wpList_load_midG (by kernel_rfl) 43 _ (by rfl) ga 0 (by rfl) _ _ RA1.out underVid rfl infoVid ?_)
          | (refine wpList_load_midG (by kernel_rfl) 43 _ (by rfl) gb 0 (by rfl) _ _ RB1.out underVid rfl infoVid ?_))
        go_roundw
        case rel => exact ⟨k + 1, by omega, by go_num, B10.out⟩
        case measure => simp [intOf]; omega
      · have hlk : ¬ (k : Int) < (ne : Int) := by omega
        clear EA hED
        go_wp2_with fail
        go_loopw [11] (fun i wr => ∃ k : Nat, k ≤ nx ∧ i = .int .i64 k ∧ Hid (Below w6.heap.size w6 wr)) (fun i _ => nx - (intOf i).toNat)
        case atStart => exact ⟨0, by omega, rfl, B.out⟩
        case round =>
          clear B
          obtain ⟨j, hj, rfl, B⟩ := hrel
          obtain ⟨wj, rfl⟩ : ∃ wx, wx = wr := ⟨_, rfl⟩
          have hj0 : (0 : Int) ≤ (j : Int) := by omega
          by_cases hjt : j < nx
          · have hlj : (j : Int) < (nx : Int) := by omega
            obtain ⟨b, o, x, rfl, hb, hx, R⟩ := XA.out.at_ hjt
            obtain ⟨e1, e2⟩ := hVD.out x (List.mem_of_getElem? hx)
            obtain ⟨a1, _, a3, _⟩ := kind_vert e1
            have hx := Lib.hid hx
            have R := Lib.hid R
            have hb := Lib.hid hb
            have RF := Lib.hid (x_file (rangeAt_below R.out B.out hb.out))
            have HV1 := Lib.hid (HV.out x.2.2.1 wj B.out)
            rw [a1] at HV1
            have HHas : Hid (∀ u : World, Calls Tryz.prog 30 #[.agg (vecA (vecL L)), .agg (encP x.1.1).toArray] u (RetB u (.bool true))) := fun u => by
              have h1 := rhas_any (vecL L) (vecL_ok L) x.1.1.1.val ((x.1.1.2.val : Nat) : Int) ⟨by omega, by have := x.1.1.2.isLt; omega⟩ u
              have e3 : hasV (vecL L) x.1.1.1.val ((x.1.1.2.val : Nat) : Int) = true := e2
              rw [e3] at h1
              exact h1
            clear e1 e2 a1
            generalize vertD L x.2.2.1 = va at *
            have hka : Hid (((va.2.1.val : Nat) : Int) = 1) := by rw [Hid, a3]; rfl
            clear a3
            go_wp2_with (refine wpList_load_mid rfl 43 _ (by rfl) b (o + j * 9 + 4) (by rfl) _ _ RF.out underVid rfl infoVid ?_)
            refine HV1.out.mono ?_
            rintro e w7 ⟨rfl, b7⟩
            have B7 := Lib.hid (ext_trans B.out b7)
            clear b7 HV1 RF B
            have KA : Hid (Blk ((w7.alloc (.cells zeroX 46)).setRow w7.heap.size (encX va).toArray) w7.heap.size 46 (encX va).toArray) := (Blk.new _ _ _).row _
            have BA : Hid (Below w7.heap.size w7 ((w7.alloc (.cells zeroX 46)).setRow w7.heap.size (encX va).toArray)) := below_setRow ((Below.refl _ _).alloc (Nat.le_refl _) _) (Nat.le_refl _) _
            go_upto_region 16 with (first
              | (refine wpList_alloced (allocVert _) ?_)
              | (refine wpList_store_row rfl 46 _ _ (by rfl) w7.heap.size (encX va).toArray (by rfl) (by rfl) _ _ (Blk.new _ _ _) infoVert rfl (encX_all _) ?_))
            try go_frame
            have B8 := Lib.hid (ext_trans B7.out BA.out)
            generalize ((w7.alloc (.cells zeroX 46)).setRow w7.heap.size (encX va).toArray) = w8 at *
            generalize w7.heap.size = ga at *
            clear BA B7
            have YA := Lib.hid (fun (u : World) (hu : Below w8.heap.size w8 u) => (show u.cell? ⟨ga, 3, none⟩ = some (.int .u8 1) from ((KA.out.ext hu).cell 3).trans (by rw [← hka.out]; rfl)))
            have RX := Lib.hid (fun (u : World) (hu : Below w8.heap.size w8 u) => rangeAt_below R.out (ext_trans B8.out hu) hb.out)
            have HVc := Lib.hid (fun (u : World) (hu : Below w8.heap.size w8 u) => HVc.out u (ext_trans B8.out hu))
            have IX := Lib.hid (fun u => indexX20 b o nx cX j hjt u)
            clear KA hka R
            refine wp_region_held (S := fun w' => Below w8.heap.size w8 w') mixedS ?_
            change wpAnyH _ _ _ _ _ _ _ _ w8.drew
            have B21 : Hid (Below w8.heap.size w8 w8.drew) := (Below.refl _ _).drew
            generalize w8.drew = w21 at B21 ⊢
            simp only [List.size_toArray, List.length_cons, List.length_nil]
            by_cases hjp : 0 < j
            · obtain ⟨b', o', x', e', hb', hx', R'⟩ := XA.out.at_ (k := j - 1) (by omega)
              cases e'
              have RY := Lib.hid (fun (u : World) (hu : Below w8.heap.size w8 u) => rangeAt_below R' (ext_trans B8.out hu) hb.out)
              have IY := Lib.hid (fun u => indexX20 b o nx cX (j - 1) (by omega) u)
              have HCmp := Lib.hid (fun u => cmpV_lt (rise_at hRI.out hx' (by rw [Nat.sub_add_cancel hjp]; exact hx.out)) u)
              have GT := Lib.hid (fun u => gtrZ j u)
              rw [decide_eq_true hjp] at GT
              have SB := Lib.hid (fun u => subOne j hjp (by omega) u)
              replace hjp := Lib.hid hjp
              clear R' hx' hb'
              refine takeV (i := 0) (d := 96) (v := .bool true) rfl (by kernel_rfl) (by kernel_rfl) (by kernel_rfl) (fun _ _ _ h => h) rfl (fun _ _ => exMove (v := .bool true) rfl) B21.out ?_
              simp only [Act.put, List.setIfInBounds_toArray, List.set_cons_zero, List.set_cons_succ]
              refine takeV (i := 1) (d := 97) (v := .bool false) rfl (by kernel_rfl) (by kernel_rfl) (by kernel_rfl) (fun _ _ _ h => h) rfl (fun _ _ => exNot (b := true) rfl) B21.out ?_
              simp only [Act.put, List.setIfInBounds_toArray, List.set_cons_zero, List.set_cons_succ]
              refine takeV (i := 2) (d := 98) (v := .bool false) rfl (by kernel_rfl) (by kernel_rfl) (by kernel_rfl) (fun _ _ _ h => h) rfl (fun _ _ => exMove (v := .bool false) rfl) B21.out ?_
              simp only [Act.put, List.setIfInBounds_toArray, List.set_cons_zero, List.set_cons_succ]
              refine takeV (i := 3) (d := 99) (v := .pointer (some ⟨ga, 3, none⟩)) rfl (by kernel_rfl) (by kernel_rfl) (by kernel_rfl) (fun _ _ _ h => h) rfl (fun w' _ => exField rfl (fieldX1 ga w')) B21.out ?_
              simp only [Act.put, List.setIfInBounds_toArray, List.set_cons_zero, List.set_cons_succ]
              refine takeV (i := 4) (d := 100) (v := .int .u8 1) rfl (by kernel_rfl) (by kernel_rfl) (by kernel_rfl) (fun _ _ _ h => h) rfl (fun w' h => exLoad rfl (loadU8c ga 3 w' _ (YA.out w' h))) B21.out ?_
              simp only [Act.put, List.setIfInBounds_toArray, List.set_cons_zero, List.set_cons_succ]
              refine takeV (i := 5) (d := 101) (v := .bool false) rfl (by kernel_rfl) (by kernel_rfl) (by kernel_rfl) (fun _ _ _ h => h) rfl (fun w' _ => exBin rfl rfl (by rfl) (by kernel_rfl)) B21.out ?_
              simp only [Act.put, List.setIfInBounds_toArray, List.set_cons_zero, List.set_cons_succ]
              refine takeV (i := 6) (d := 102) (v := .bool false) rfl (by kernel_rfl) (by kernel_rfl) (by kernel_rfl) (fun _ _ _ h => h) rfl (fun _ _ => exPickF (v := .bool false) rfl rfl) B21.out ?_
              simp only [Act.put, List.setIfInBounds_toArray, List.set_cons_zero, List.set_cons_succ]
              refine takeV (i := 7) (d := 103) (v := .bool false) rfl (by kernel_rfl) (by kernel_rfl) (by kernel_rfl) (fun _ _ _ h => h) rfl (fun _ _ => exMove (v := .bool false) rfl) B21.out ?_
              simp only [Act.put, List.setIfInBounds_toArray, List.set_cons_zero, List.set_cons_succ]
              refine takeV (i := 8) (d := 104) (v := .pointer (some ⟨g, 0, none⟩)) rfl (by kernel_rfl) (by kernel_rfl) (by kernel_rfl) (fun _ _ _ h => h) rfl (fun _ _ => exMove (v := .pointer (some ⟨g, 0, none⟩)) rfl) B21.out ?_
              simp only [Act.put, List.setIfInBounds_toArray, List.set_cons_zero, List.set_cons_succ]
              refine takeV (i := 10) (d := 106) (v := .slice (some ⟨b, o, none⟩) nx cX) rfl (by kernel_rfl) (by kernel_rfl) (by kernel_rfl) (fun _ _ _ h => h) rfl (fun _ _ => exMove (v := .slice (some ⟨b, o, none⟩) nx cX) rfl) B21.out ?_
              simp only [Act.put, List.setIfInBounds_toArray, List.set_cons_zero, List.set_cons_succ]
              refine takeV (i := 11) (d := 107) (v := .int .i64 (j : Int)) rfl (by kernel_rfl) (by kernel_rfl) (by kernel_rfl) (fun _ _ _ h => h) rfl (fun _ _ => exMove (v := .int .i64 (j : Int)) rfl) B21.out ?_
              simp only [Act.put, List.setIfInBounds_toArray, List.set_cons_zero, List.set_cons_succ]
              refine takeV (i := 12) (d := 108) (v := .pointer (some ⟨b, o + j * 9, none⟩)) rfl (by kernel_rfl) (by kernel_rfl) (by kernel_rfl) (fun _ _ _ h => h) rfl (fun w' _ => exIndex rfl rfl (IX.out w')) B21.out ?_
              simp only [Act.put, List.setIfInBounds_toArray, List.set_cons_zero, List.set_cons_succ]
              refine takeV (i := 13) (d := 109) (v := .pointer (some ⟨b, o + j * 9, none⟩)) rfl (by kernel_rfl) (by kernel_rfl) (by kernel_rfl) (fun _ _ _ h => h) rfl (fun w' _ => exField rfl (fieldX0 b (o + j * 9) w')) B21.out ?_
              simp only [Act.put, List.setIfInBounds_toArray, List.set_cons_zero, List.set_cons_succ]
              refine takeV (i := 14) (d := 110) (v := .pointer (some ⟨b, o + j * 9, none⟩)) rfl (by kernel_rfl) (by kernel_rfl) (by kernel_rfl) (fun _ _ _ h => h) rfl (fun w' _ => exField rfl (fieldV0 b (o + j * 9) w')) B21.out ?_
              simp only [Act.put, List.setIfInBounds_toArray, List.set_cons_zero, List.set_cons_succ]
              refine takeV (i := 15) (d := 111) (v := .agg (encP x.1.1).toArray) rfl (by kernel_rfl) (by kernel_rfl) (by kernel_rfl) (fun _ _ _ h => h) rfl (fun w' h => exMid rfl (v_pid (x_vid (RX.out w' h))) underPid rfl infoPid) B21.out ?_
              simp only [Act.put, List.setIfInBounds_toArray, List.set_cons_zero, List.set_cons_succ]
              refine wpAnyH_all (rs := [9]) (by kernel_rfl) (by simp) ?_
              intro i hi
              simp only [List.mem_cons, List.not_mem_nil, or_false] at hi
              subst hi
              refine wpOp_of rfl rfl (wp_called (args := #[.pointer (some ⟨g, 0, none⟩)]) hcE (by simp only [List.map_toArray, List.map_cons, List.map_nil]; rfl) (HVc.out w21 B21.out) ?_)
              rintro e w_1 ⟨rfl, h_2⟩
              refine ⟨_, rfl, ext_trans B21.out h_2, ?_⟩
              simp only [Act.put, List.setIfInBounds_toArray, List.set_cons_zero, List.set_cons_succ]
              have B_3 := Lib.hid (ext_trans B21.out h_2)
              clear B21
              clear h_2
              refine wpAnyH_all (rs := [16]) (by kernel_rfl) (by simp) ?_
              intro i hi
              simp only [List.mem_cons, List.not_mem_nil, or_false] at hi
              subst hi
              refine wpOp_of rfl rfl (wp_called (args := #[.agg (vecA (vecL L)), .agg (encP x.1.1).toArray]) hcH (by simp only [List.map_toArray, List.map_cons, List.map_nil]; rfl) (HHas.out w_1) ?_)
              rintro e w_4 ⟨rfl, h_5⟩
              refine ⟨_, rfl, ext_trans B_3.out h_5, ?_⟩
              simp only [Act.put, List.setIfInBounds_toArray, List.set_cons_zero, List.set_cons_succ]
              have B_6 := Lib.hid (ext_trans B_3.out h_5)
              clear B_3
              clear h_5
              refine takeV (i := 17) (d := 113) (v := .bool false) rfl (by kernel_rfl) (by kernel_rfl) (by kernel_rfl) (fun _ _ _ h => h) rfl (fun _ _ => exNot (b := true) rfl) B_6.out ?_
              simp only [Act.put, List.setIfInBounds_toArray, List.set_cons_zero, List.set_cons_succ]
              refine takeV (i := 18) (d := 114) (v := .bool false) rfl (by kernel_rfl) (by kernel_rfl) (by kernel_rfl) (fun _ _ _ h => h) rfl (fun _ _ => exPickF (v := .bool false) rfl rfl) B_6.out ?_
              simp only [Act.put, List.setIfInBounds_toArray, List.set_cons_zero, List.set_cons_succ]
              refine takeV (i := 19) (d := 115) (v := .bool false) rfl (by kernel_rfl) (by kernel_rfl) (by kernel_rfl) (fun _ _ _ h => h) rfl (fun _ _ => exMove (v := .bool false) rfl) B_6.out ?_
              simp only [Act.put, List.setIfInBounds_toArray, List.set_cons_zero, List.set_cons_succ]
              refine takeV (i := 20) (d := 116) (v := .int .i64 (j : Int)) rfl (by kernel_rfl) (by kernel_rfl) (by kernel_rfl) (fun _ _ _ h => h) rfl (fun _ _ => exMove (v := .int .i64 (j : Int)) rfl) B_6.out ?_
              simp only [Act.put, List.setIfInBounds_toArray, List.set_cons_zero, List.set_cons_succ]
              refine takeV (i := 21) (d := 117) (v := .bool true) rfl (by kernel_rfl) (by kernel_rfl) (by kernel_rfl) (fun _ _ _ h => h) rfl (fun w' _ => exBin rfl rfl (by rfl) (GT.out w')) B_6.out ?_
              simp only [Act.put, List.setIfInBounds_toArray, List.set_cons_zero, List.set_cons_succ]
              refine takeV (i := 22) (d := 118) (v := .bool true) rfl (by kernel_rfl) (by kernel_rfl) (by kernel_rfl) (fun _ _ _ h => h) rfl (fun _ _ => exMove (v := .bool true) rfl) B_6.out ?_
              simp only [Act.put, List.setIfInBounds_toArray, List.set_cons_zero, List.set_cons_succ]
              refine takeV (i := 23) (d := 119) (v := .slice (some ⟨b, o, none⟩) nx cX) rfl (by kernel_rfl) (by kernel_rfl) (by kernel_rfl) (fun _ _ _ h => h) rfl (fun _ _ => exMove (v := .slice (some ⟨b, o, none⟩) nx cX) rfl) B_6.out ?_
              simp only [Act.put, List.setIfInBounds_toArray, List.set_cons_zero, List.set_cons_succ]
              refine takeV (i := 24) (d := 120) (v := .int .i64 (j : Int)) rfl (by kernel_rfl) (by kernel_rfl) (by kernel_rfl) (fun _ _ _ h => h) rfl (fun _ _ => exMove (v := .int .i64 (j : Int)) rfl) B_6.out ?_
              simp only [Act.put, List.setIfInBounds_toArray, List.set_cons_zero, List.set_cons_succ]
              refine takeV (i := 25) (d := 121) (v := .int .i64 ((j - 1 : Nat) : Int)) rfl (by kernel_rfl) (by kernel_rfl) (by kernel_rfl) (fun _ _ _ h => h) rfl (fun w' _ => exBin rfl rfl (by rfl) (SB.out w')) B_6.out ?_
              simp only [Act.put, List.setIfInBounds_toArray, List.set_cons_zero, List.set_cons_succ]
              refine takeV (i := 26) (d := 122) (v := .pointer (some ⟨b, o + (j - 1) * 9, none⟩)) rfl (by kernel_rfl) (by kernel_rfl) (by kernel_rfl) (fun _ _ _ h => h) rfl (fun w' _ => exIndex rfl rfl (IY.out w')) B_6.out ?_
              simp only [Act.put, List.setIfInBounds_toArray, List.set_cons_zero, List.set_cons_succ]
              refine takeV (i := 27) (d := 123) (v := .pointer (some ⟨b, o + (j - 1) * 9, none⟩)) rfl (by kernel_rfl) (by kernel_rfl) (by kernel_rfl) (fun _ _ _ h => h) rfl (fun w' _ => exField rfl (fieldX0 b (o + (j - 1) * 9) w')) B_6.out ?_
              simp only [Act.put, List.setIfInBounds_toArray, List.set_cons_zero, List.set_cons_succ]
              refine takeV (i := 28) (d := 124) (v := .agg (encV x'.1).toArray) rfl (by kernel_rfl) (by kernel_rfl) (by kernel_rfl) (fun _ _ _ h => h) rfl (fun w' h => exMid rfl (x_vid (RY.out w' h)) underVid rfl infoVid) B_6.out ?_
              simp only [Act.put, List.setIfInBounds_toArray, List.set_cons_zero, List.set_cons_succ]
              refine takeV (i := 29) (d := 125) (v := .slice (some ⟨b, o, none⟩) nx cX) rfl (by kernel_rfl) (by kernel_rfl) (by kernel_rfl) (fun _ _ _ h => h) rfl (fun _ _ => exMove (v := .slice (some ⟨b, o, none⟩) nx cX) rfl) B_6.out ?_
              simp only [Act.put, List.setIfInBounds_toArray, List.set_cons_zero, List.set_cons_succ]
              refine takeV (i := 30) (d := 126) (v := .int .i64 (j : Int)) rfl (by kernel_rfl) (by kernel_rfl) (by kernel_rfl) (fun _ _ _ h => h) rfl (fun _ _ => exMove (v := .int .i64 (j : Int)) rfl) B_6.out ?_
              simp only [Act.put, List.setIfInBounds_toArray, List.set_cons_zero, List.set_cons_succ]
              refine takeV (i := 31) (d := 127) (v := .pointer (some ⟨b, o + j * 9, none⟩)) rfl (by kernel_rfl) (by kernel_rfl) (by kernel_rfl) (fun _ _ _ h => h) rfl (fun w' _ => exIndex rfl rfl (IX.out w')) B_6.out ?_
              simp only [Act.put, List.setIfInBounds_toArray, List.set_cons_zero, List.set_cons_succ]
              refine takeV (i := 32) (d := 128) (v := .pointer (some ⟨b, o + j * 9, none⟩)) rfl (by kernel_rfl) (by kernel_rfl) (by kernel_rfl) (fun _ _ _ h => h) rfl (fun w' _ => exField rfl (fieldX0 b (o + j * 9) w')) B_6.out ?_
              simp only [Act.put, List.setIfInBounds_toArray, List.set_cons_zero, List.set_cons_succ]
              refine takeV (i := 33) (d := 129) (v := .agg (encV x.1).toArray) rfl (by kernel_rfl) (by kernel_rfl) (by kernel_rfl) (fun _ _ _ h => h) rfl (fun w' h => exMid rfl (x_vid (RX.out w' h)) underVid rfl infoVid) B_6.out ?_
              simp only [Act.put, List.setIfInBounds_toArray, List.set_cons_zero, List.set_cons_succ]
              refine wpAnyH_all (rs := [34]) (by kernel_rfl) (by simp) ?_
              intro i hi
              simp only [List.mem_cons, List.not_mem_nil, or_false] at hi
              subst hi
              refine wpOp_of rfl rfl (wp_called (args := #[.agg (encV x'.1).toArray, .agg (encV x.1).toArray]) hcC (by simp only [List.map_toArray, List.map_cons, List.map_nil]; rfl) (HCmp.out w_4) ?_)
              rintro e w_7 ⟨rfl, h_8⟩
              refine ⟨_, rfl, ext_trans B_6.out h_8, ?_⟩
              simp only [Act.put, List.setIfInBounds_toArray, List.set_cons_zero, List.set_cons_succ]
              have B_9 := Lib.hid (ext_trans B_6.out h_8)
              clear B_6
              clear h_8
              refine takeV (i := 35) (d := 131) (v := .bool false) rfl (by kernel_rfl) (by kernel_rfl) (by kernel_rfl) (fun _ _ _ h => h) rfl (fun w' _ => exBin rfl rfl (by rfl) (by kernel_rfl)) B_9.out ?_
              simp only [Act.put, List.setIfInBounds_toArray, List.set_cons_zero, List.set_cons_succ]
              refine takeV (i := 36) (d := 132) (v := .bool false) rfl (by kernel_rfl) (by kernel_rfl) (by kernel_rfl) (fun _ _ _ h => h) rfl (fun _ _ => exPickT (v := .bool false) rfl rfl) B_9.out ?_
              simp only [Act.put, List.setIfInBounds_toArray, List.set_cons_zero, List.set_cons_succ]
              refine takeV (i := 37) (d := 133) (v := .bool false) rfl (by kernel_rfl) (by kernel_rfl) (by kernel_rfl) (fun _ _ _ h => h) rfl (fun _ _ => exPickF (v := .bool false) rfl rfl) B_9.out ?_
              simp only [Act.put, List.setIfInBounds_toArray, List.set_cons_zero, List.set_cons_succ]
              refine wpAnyH_done (by kernel_rfl) ?_ _
              have BF := Lib.hid (ext_trans B8.out B_9.out)
              clear B_9
              clear YA RX HVc IX GT HHas
              go_wp2_with fail
              go_roundw
              case rel => exact ⟨j + 1, by omega, by go_num, BF.out⟩
              case measure => simp [intOf]; omega
            · have GT := Lib.hid (fun u => gtrZ j u)
              rw [decide_eq_false hjp] at GT
              replace hjp := Lib.hid hjp
              refine takeV (i := 0) (d := 96) (v := .bool true) rfl (by kernel_rfl) (by kernel_rfl) (by kernel_rfl) (fun _ _ _ h => h) rfl (fun _ _ => exMove (v := .bool true) rfl) B21.out ?_
              simp only [Act.put, List.setIfInBounds_toArray, List.set_cons_zero, List.set_cons_succ]
              refine takeV (i := 1) (d := 97) (v := .bool false) rfl (by kernel_rfl) (by kernel_rfl) (by kernel_rfl) (fun _ _ _ h => h) rfl (fun _ _ => exNot (b := true) rfl) B21.out ?_
              simp only [Act.put, List.setIfInBounds_toArray, List.set_cons_zero, List.set_cons_succ]
              refine takeV (i := 2) (d := 98) (v := .bool false) rfl (by kernel_rfl) (by kernel_rfl) (by kernel_rfl) (fun _ _ _ h => h) rfl (fun _ _ => exMove (v := .bool false) rfl) B21.out ?_
              simp only [Act.put, List.setIfInBounds_toArray, List.set_cons_zero, List.set_cons_succ]
              refine takeV (i := 3) (d := 99) (v := .pointer (some ⟨ga, 3, none⟩)) rfl (by kernel_rfl) (by kernel_rfl) (by kernel_rfl) (fun _ _ _ h => h) rfl (fun w' _ => exField rfl (fieldX1 ga w')) B21.out ?_
              simp only [Act.put, List.setIfInBounds_toArray, List.set_cons_zero, List.set_cons_succ]
              refine takeV (i := 4) (d := 100) (v := .int .u8 1) rfl (by kernel_rfl) (by kernel_rfl) (by kernel_rfl) (fun _ _ _ h => h) rfl (fun w' h => exLoad rfl (loadU8c ga 3 w' _ (YA.out w' h))) B21.out ?_
              simp only [Act.put, List.setIfInBounds_toArray, List.set_cons_zero, List.set_cons_succ]
              refine takeV (i := 5) (d := 101) (v := .bool false) rfl (by kernel_rfl) (by kernel_rfl) (by kernel_rfl) (fun _ _ _ h => h) rfl (fun w' _ => exBin rfl rfl (by rfl) (by kernel_rfl)) B21.out ?_
              simp only [Act.put, List.setIfInBounds_toArray, List.set_cons_zero, List.set_cons_succ]
              refine takeV (i := 6) (d := 102) (v := .bool false) rfl (by kernel_rfl) (by kernel_rfl) (by kernel_rfl) (fun _ _ _ h => h) rfl (fun _ _ => exPickF (v := .bool false) rfl rfl) B21.out ?_
              simp only [Act.put, List.setIfInBounds_toArray, List.set_cons_zero, List.set_cons_succ]
              refine takeV (i := 7) (d := 103) (v := .bool false) rfl (by kernel_rfl) (by kernel_rfl) (by kernel_rfl) (fun _ _ _ h => h) rfl (fun _ _ => exMove (v := .bool false) rfl) B21.out ?_
              simp only [Act.put, List.setIfInBounds_toArray, List.set_cons_zero, List.set_cons_succ]
              refine takeV (i := 8) (d := 104) (v := .pointer (some ⟨g, 0, none⟩)) rfl (by kernel_rfl) (by kernel_rfl) (by kernel_rfl) (fun _ _ _ h => h) rfl (fun _ _ => exMove (v := .pointer (some ⟨g, 0, none⟩)) rfl) B21.out ?_
              simp only [Act.put, List.setIfInBounds_toArray, List.set_cons_zero, List.set_cons_succ]
              refine takeV (i := 10) (d := 106) (v := .slice (some ⟨b, o, none⟩) nx cX) rfl (by kernel_rfl) (by kernel_rfl) (by kernel_rfl) (fun _ _ _ h => h) rfl (fun _ _ => exMove (v := .slice (some ⟨b, o, none⟩) nx cX) rfl) B21.out ?_
              simp only [Act.put, List.setIfInBounds_toArray, List.set_cons_zero, List.set_cons_succ]
              refine takeV (i := 11) (d := 107) (v := .int .i64 (j : Int)) rfl (by kernel_rfl) (by kernel_rfl) (by kernel_rfl) (fun _ _ _ h => h) rfl (fun _ _ => exMove (v := .int .i64 (j : Int)) rfl) B21.out ?_
              simp only [Act.put, List.setIfInBounds_toArray, List.set_cons_zero, List.set_cons_succ]
              refine takeV (i := 12) (d := 108) (v := .pointer (some ⟨b, o + j * 9, none⟩)) rfl (by kernel_rfl) (by kernel_rfl) (by kernel_rfl) (fun _ _ _ h => h) rfl (fun w' _ => exIndex rfl rfl (IX.out w')) B21.out ?_
              simp only [Act.put, List.setIfInBounds_toArray, List.set_cons_zero, List.set_cons_succ]
              refine takeV (i := 13) (d := 109) (v := .pointer (some ⟨b, o + j * 9, none⟩)) rfl (by kernel_rfl) (by kernel_rfl) (by kernel_rfl) (fun _ _ _ h => h) rfl (fun w' _ => exField rfl (fieldX0 b (o + j * 9) w')) B21.out ?_
              simp only [Act.put, List.setIfInBounds_toArray, List.set_cons_zero, List.set_cons_succ]
              refine takeV (i := 14) (d := 110) (v := .pointer (some ⟨b, o + j * 9, none⟩)) rfl (by kernel_rfl) (by kernel_rfl) (by kernel_rfl) (fun _ _ _ h => h) rfl (fun w' _ => exField rfl (fieldV0 b (o + j * 9) w')) B21.out ?_
              simp only [Act.put, List.setIfInBounds_toArray, List.set_cons_zero, List.set_cons_succ]
              refine takeV (i := 15) (d := 111) (v := .agg (encP x.1.1).toArray) rfl (by kernel_rfl) (by kernel_rfl) (by kernel_rfl) (fun _ _ _ h => h) rfl (fun w' h => exMid rfl (v_pid (x_vid (RX.out w' h))) underPid rfl infoPid) B21.out ?_
              simp only [Act.put, List.setIfInBounds_toArray, List.set_cons_zero, List.set_cons_succ]
              refine wpAnyH_all (rs := [9]) (by kernel_rfl) (by simp) ?_
              intro i hi
              simp only [List.mem_cons, List.not_mem_nil, or_false] at hi
              subst hi
              refine wpOp_of rfl rfl (wp_called (args := #[.pointer (some ⟨g, 0, none⟩)]) hcE (by simp only [List.map_toArray, List.map_cons, List.map_nil]; rfl) (HVc.out w21 B21.out) ?_)
              rintro e w_1 ⟨rfl, h_2⟩
              refine ⟨_, rfl, ext_trans B21.out h_2, ?_⟩
              simp only [Act.put, List.setIfInBounds_toArray, List.set_cons_zero, List.set_cons_succ]
              have B_3 := Lib.hid (ext_trans B21.out h_2)
              clear B21
              clear h_2
              refine wpAnyH_all (rs := [16]) (by kernel_rfl) (by simp) ?_
              intro i hi
              simp only [List.mem_cons, List.not_mem_nil, or_false] at hi
              subst hi
              refine wpOp_of rfl rfl (wp_called (args := #[.agg (vecA (vecL L)), .agg (encP x.1.1).toArray]) hcH (by simp only [List.map_toArray, List.map_cons, List.map_nil]; rfl) (HHas.out w_1) ?_)
              rintro e w_4 ⟨rfl, h_5⟩
              refine ⟨_, rfl, ext_trans B_3.out h_5, ?_⟩
              simp only [Act.put, List.setIfInBounds_toArray, List.set_cons_zero, List.set_cons_succ]
              have B_6 := Lib.hid (ext_trans B_3.out h_5)
              clear B_3
              clear h_5
              refine takeV (i := 17) (d := 113) (v := .bool false) rfl (by kernel_rfl) (by kernel_rfl) (by kernel_rfl) (fun _ _ _ h => h) rfl (fun _ _ => exNot (b := true) rfl) B_6.out ?_
              simp only [Act.put, List.setIfInBounds_toArray, List.set_cons_zero, List.set_cons_succ]
              refine takeV (i := 18) (d := 114) (v := .bool false) rfl (by kernel_rfl) (by kernel_rfl) (by kernel_rfl) (fun _ _ _ h => h) rfl (fun _ _ => exPickF (v := .bool false) rfl rfl) B_6.out ?_
              simp only [Act.put, List.setIfInBounds_toArray, List.set_cons_zero, List.set_cons_succ]
              refine takeV (i := 19) (d := 115) (v := .bool false) rfl (by kernel_rfl) (by kernel_rfl) (by kernel_rfl) (fun _ _ _ h => h) rfl (fun _ _ => exMove (v := .bool false) rfl) B_6.out ?_
              simp only [Act.put, List.setIfInBounds_toArray, List.set_cons_zero, List.set_cons_succ]
              refine takeV (i := 20) (d := 116) (v := .int .i64 (j : Int)) rfl (by kernel_rfl) (by kernel_rfl) (by kernel_rfl) (fun _ _ _ h => h) rfl (fun _ _ => exMove (v := .int .i64 (j : Int)) rfl) B_6.out ?_
              simp only [Act.put, List.setIfInBounds_toArray, List.set_cons_zero, List.set_cons_succ]
              refine takeV (i := 21) (d := 117) (v := .bool false) rfl (by kernel_rfl) (by kernel_rfl) (by kernel_rfl) (fun _ _ _ h => h) rfl (fun w' _ => exBin rfl rfl (by rfl) (GT.out w')) B_6.out ?_
              simp only [Act.put, List.setIfInBounds_toArray, List.set_cons_zero, List.set_cons_succ]
              refine takeV (i := 22) (d := 118) (v := .bool false) rfl (by kernel_rfl) (by kernel_rfl) (by kernel_rfl) (fun _ _ _ h => h) rfl (fun _ _ => exMove (v := .bool false) rfl) B_6.out ?_
              simp only [Act.put, List.setIfInBounds_toArray, List.set_cons_zero, List.set_cons_succ]
              refine takeSkip (i := 23) (d := 119) rfl (by kernel_rfl) (by kernel_rfl) (by kernel_rfl) (fun _ _ _ h => h) rfl B_6.out ?_
              simp only [Act.put, List.setIfInBounds_toArray, List.set_cons_zero, List.set_cons_succ]
              refine takeSkip (i := 24) (d := 120) rfl (by kernel_rfl) (by kernel_rfl) (by kernel_rfl) (fun _ _ _ h => h) rfl B_6.out ?_
              simp only [Act.put, List.setIfInBounds_toArray, List.set_cons_zero, List.set_cons_succ]
              refine takeSkip (i := 25) (d := 121) rfl (by kernel_rfl) (by kernel_rfl) (by kernel_rfl) (fun _ _ _ h => h) rfl B_6.out ?_
              simp only [Act.put, List.setIfInBounds_toArray, List.set_cons_zero, List.set_cons_succ]
              refine takeSkip (i := 26) (d := 122) rfl (by kernel_rfl) (by kernel_rfl) (by kernel_rfl) (fun _ _ _ h => h) rfl B_6.out ?_
              simp only [Act.put, List.setIfInBounds_toArray, List.set_cons_zero, List.set_cons_succ]
              refine takeSkip (i := 27) (d := 123) rfl (by kernel_rfl) (by kernel_rfl) (by kernel_rfl) (fun _ _ _ h => h) rfl B_6.out ?_
              simp only [Act.put, List.setIfInBounds_toArray, List.set_cons_zero, List.set_cons_succ]
              refine takeSkip (i := 28) (d := 124) rfl (by kernel_rfl) (by kernel_rfl) (by kernel_rfl) (fun _ _ _ h => h) rfl B_6.out ?_
              simp only [Act.put, List.setIfInBounds_toArray, List.set_cons_zero, List.set_cons_succ]
              refine takeSkip (i := 29) (d := 125) rfl (by kernel_rfl) (by kernel_rfl) (by kernel_rfl) (fun _ _ _ h => h) rfl B_6.out ?_
              simp only [Act.put, List.setIfInBounds_toArray, List.set_cons_zero, List.set_cons_succ]
              refine takeSkip (i := 30) (d := 126) rfl (by kernel_rfl) (by kernel_rfl) (by kernel_rfl) (fun _ _ _ h => h) rfl B_6.out ?_
              simp only [Act.put, List.setIfInBounds_toArray, List.set_cons_zero, List.set_cons_succ]
              refine takeSkip (i := 31) (d := 127) rfl (by kernel_rfl) (by kernel_rfl) (by kernel_rfl) (fun _ _ _ h => h) rfl B_6.out ?_
              simp only [Act.put, List.setIfInBounds_toArray, List.set_cons_zero, List.set_cons_succ]
              refine takeSkip (i := 32) (d := 128) rfl (by kernel_rfl) (by kernel_rfl) (by kernel_rfl) (fun _ _ _ h => h) rfl B_6.out ?_
              simp only [Act.put, List.setIfInBounds_toArray, List.set_cons_zero, List.set_cons_succ]
              refine takeSkip (i := 33) (d := 129) rfl (by kernel_rfl) (by kernel_rfl) (by kernel_rfl) (fun _ _ _ h => h) rfl B_6.out ?_
              simp only [Act.put, List.setIfInBounds_toArray, List.set_cons_zero, List.set_cons_succ]
              refine takeSkip (i := 34) (d := 130) rfl (by kernel_rfl) (by kernel_rfl) (by kernel_rfl) (fun _ _ _ h => h) rfl B_6.out ?_
              simp only [Act.put, List.setIfInBounds_toArray, List.set_cons_zero, List.set_cons_succ]
              refine takeSkip (i := 35) (d := 131) rfl (by kernel_rfl) (by kernel_rfl) (by kernel_rfl) (fun _ _ _ h => h) rfl B_6.out ?_
              simp only [Act.put, List.setIfInBounds_toArray, List.set_cons_zero, List.set_cons_succ]
              refine takeV (i := 36) (d := 132) (v := .bool false) rfl (by kernel_rfl) (by kernel_rfl) (by kernel_rfl) (fun _ _ _ h => h) rfl (fun _ _ => exPickF (v := .bool false) rfl rfl) B_6.out ?_
              simp only [Act.put, List.setIfInBounds_toArray, List.set_cons_zero, List.set_cons_succ]
              refine takeV (i := 37) (d := 133) (v := .bool false) rfl (by kernel_rfl) (by kernel_rfl) (by kernel_rfl) (fun _ _ _ h => h) rfl (fun _ _ => exPickF (v := .bool false) rfl rfl) B_6.out ?_
              simp only [Act.put, List.setIfInBounds_toArray, List.set_cons_zero, List.set_cons_succ]
              refine wpAnyH_done (by kernel_rfl) ?_ _
              have BF := Lib.hid (ext_trans B8.out B_6.out)
              clear B_6
              clear YA RX HVc IX GT HHas
              go_wp2_with fail
              go_roundw
              case rel => exact ⟨j + 1, by omega, by go_num, BF.out⟩
              case measure => simp [intOf]; omega
          · have hlj : ¬ (j : Int) < (nx : Int) := by omega
            go_wp2_with fail
            refine (works20 _).mono ?_
            rintro e w8 ⟨rfl, b8⟩
            have B8 := Lib.hid (B6.out.trans ((ext_trans B.out b8).mono B6.out.size))
            clear b8
            go_wp2
            go_ret
            exact ⟨rfl, B8.out⟩
end Go.Proofs.YtfnhmbflmifhcaaGreat
