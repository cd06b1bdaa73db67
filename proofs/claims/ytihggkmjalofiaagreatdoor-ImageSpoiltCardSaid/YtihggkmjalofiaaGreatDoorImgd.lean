/- Patches in one piece, without the sum: walked. -/
import Derived.Test.YtihggkmjalofiaaGreatDoorCrcp
import Derived.Test.YtihggkmjalofiaaGreatDoorHangs
import Derived.Test.YtihggkmjalofiaaGreatDoorIdxz
import Derived.Test.YtihggkmjalofiaaGreatDoorPcds
namespace Go.Proofs.YtihggkmjalofiaaGreatDoor
open Go.RowKit

theorem namesAt_patI {L : List PatV} : ∀ {S : List Nat}, (∀ i ∈ S, i < (namesH L).length) → namesAt (namesH L) S = (patI L S).map (·.1)
  | [], _ => rfl
  | i :: S, h => by
    obtain ⟨p, h1, h2⟩ := patI_at (h i (by simp))
    have ih := namesAt_patI (S := S) fun j hj => h j (by simp [hj])
    unfold namesAt patI at ih ⊢
    rw [List.filterMap_cons, List.filterMap_cons, patI_one h1 h2, h1]
    simp only [List.map_cons]
    rw [ih]
theorem namesO (L : List PatV) : namesAt (namesH L) (ordR (relH L) (namesH L).length) = (ordP L).map (·.1) := namesAt_patI fun i hi => (ord_all L i).1 hi
theorem ordP_find {L : List PatV} (h : IdxOk L) {k : Nat} {p : PatV} (hp : (ordP L)[k]? = some p) : findP L p.1 = some p := findP_nodup h.nodup ((ordP_perm h).mem_iff.1 (List.mem_of_getElem? hp))
theorem allocPid53 (w : World) : (Instr.alloc 27 true (.tuple #[])).run Tryz.prog w = .ok (.pointer (some ⟨w.heap.size, 0, none⟩)) (w.alloc (.cells #[.int .u8 0, .int .u16 0] 27)) := by kernel_rfl
/-- patches in one piece are handed back, or refused -/
def PlnRet (w : World) (l : List PatV) (e : Ending) (w' : World) : Prop :=
  Below w.heap.size w w' ∧ ((okI l = true ∧ ∃ v, e = .returned (.tuple #[v, .int .i64 0]) ∧ w'.ownsRow w.heap.size 5 1 v (imgB l).length (encB (imgB l))) ∨ (okI l = false ∧ e = .returned (.tuple #[.slice none 0 0, .int .i64 1])))
set_option maxRecDepth 100000 in
set_option maxHeartbeats 16000000 in
theorem plain53_any {w : World} {A : Option Addr} {n c : Nat} {l : List PatV} (h : PatsAt w A n l) (hm : n ≤ 9000) (hd : depsN l ≤ 900000) (hq : ∀ p ∈ l, p.2.1.length ≤ 100000 ∧ p.2.2.length ≤ 100000) (hB : okI l = true → (imgB l).length ≤ 800000) :
    Calls Tryz.prog 93 #[.slice A n c] w (PlnRet w l) := by
  have H := Lib.hid h
  have HD := Lib.hid hd
  have HQ := Lib.hid hq
  have HBL := Lib.hid hB
  have hln := Lib.hid (show l.length = n from h.1)
  clear h hd hq hB
  go_enter Tryz.func93, Tryz.ntmps93
  go_wp2_with fail
  refine (new31_any w).mono ?_
  rintro e w2 ⟨gx, rfl, hI, b2⟩
  have I2 : Hid (∃ F, IdxAt w2 F gx (l.take 0) ∧ ∀ q, F q → w.heap.size ≤ q) := ⟨_, hI, fun q e => e.1⟩
  have B2 := Lib.hid b2
  clear hI b2
  go_wp2_with fail
  go_loopw [17] (fun i wr => ∃ k : Nat, k ≤ n ∧ i = .int .i64 (k : Int) ∧ Hid (∃ F, IdxAt wr F gx (l.take k) ∧ ∀ q, F q → w.heap.size ≤ q) ∧ Hid (Below w.heap.size w wr)) (fun i _ => n - (intOf i).toNat)
  case atStart => exact ⟨0, by omega, rfl, I2.out, B2.out⟩
  case round =>
    clear I2 B2
    obtain ⟨k, hk, rfl, IX, B⟩ := hrel
    obtain ⟨wi, rfl⟩ : ∃ wx, wx = wr := ⟨_, rfl⟩
    have hk0 : (0 : Int) ≤ (k : Int) := by omega
    by_cases hlt : k < n
    · have hki : (k : Int) < (n : Int) := by omega
      obtain ⟨b, o, p, r, rfl, hb, hp, pa, R⟩ := (H.out.ext B.out).at_ hlt
      obtain ⟨F, hI, hF⟩ := IX.out
      have RH := Lib.hid R
      have PA := Lib.hid pa
      have hr4 : Hid ((Tryz.prog.info? 31).map (·.size) = some r.length) := by rw [Hid, pa.len4]; exact infoPat
      have r4 := Lib.hid pa.len4
      have r1 : Hid (r.toArray.all (·.oneCell') = true) := all_oneCell_toArray pa.one
      have hpq := Lib.hid (HQ.out p (List.mem_of_getElem? hp))
      have HP := Lib.hid hp
      have hsz : Hid ((Tryz.prog.info? 31).map (·.size) = some r.toArray.size) := by rw [Hid, List.size_toArray]; exact hr4.out
      have K0 : Hid (Blk (wi.alloc (.cells #[.int .u8 0, .int .u16 0, .slice none 0 0, .slice none 0 0] 31)) wi.heap.size 31 #[.int .u8 0, .int .u16 0, .slice none 0 0, .slice none 0 0]) := Blk.new _ _ _
      have B1 : Hid (Below wi.heap.size wi ((wi.alloc (.cells #[.int .u8 0, .int .u16 0, .slice none 0 0, .slice none 0 0] 31)).setRow wi.heap.size r.toArray)) := below_setRow (below_new _ _) (Nat.le_refl _) _
      have K1 : Hid (Blk ((wi.alloc (.cells #[.int .u8 0, .int .u16 0, .slice none 0 0, .slice none 0 0] 31)).setRow wi.heap.size r.toArray) wi.heap.size 31 r.toArray) := K0.out.row _
      have PA1 := Lib.hid (PA.out.ext B1.out)
      have I1 := Lib.hid (hI.ext B1.out)
      have hF := Lib.hid hF
      have BB1 := Lib.hid (B.out.trans (B1.out.mono B.out.size))
      have hlk : Hid ((l.take k).length ≤ 10000) := by rw [Hid, List.length_take]; omega
      clear R pa hb hp hI IX
      go_upto_region 5 with (first
        | (refine wpList_load_mid rfl 31 _ (by rfl) b (o + k * 4) (by rfl) _ _ RH.out underPat rfl hr4.out ?_)
        | (refine wpList_alloced (allocPat _) ?_)
        | (refine wpList_store_row rfl 31 _ _ (by rfl) wi.heap.size r.toArray (by rfl) (by rfl) _ _ K0.out hsz.out (by simp only [List.size_toArray, r4.out]; rfl) r1.out ?_))
      generalize ((wi.alloc (.cells #[.int .u8 0, .int .u16 0, .slice none 0 0, .slice none 0 0] 31)).setRow wi.heap.size r.toArray) = w3 at *
      generalize wi.heap.size = gp at *
      clear K0 B1 PA RH B
      have HPU := Lib.hid (put31_any I1.out hlk.out p r PA1.out hpq.out)
      rcases Nat.eq_zero_or_pos (idxE (l.take k) p) with h0 | h0
      · have ET : Hid (idxL (l.take k) p = l.take (k + 1)) := by
          rw [Hid, List.take_add_one, HP.out]
          unfold idxL
          rw [if_pos h0]
          rfl
        go_wp2_with (refine wpList_load_row rfl 31 _ (by rfl) gp (by rfl) _ _ _ _ K1.out underPat rfl hsz.out ?_)
        refine HPU.out.mono ?_
        rintro e w4 ⟨rfl, kp, F', hI', hF'⟩
        rw [ET.out] at hI'
        rw [h0]
        have I4 : Hid (∃ F, IdxAt w4 F gx (l.take (k + 1)) ∧ ∀ q, F q → w.heap.size ≤ q) := ⟨F', hI', fun q e => (hF' q e).elim (hF.out q) fun e => Nat.le_trans BB1.out.size e⟩
        have B4 := Lib.hid (BB1.out.trans (kp.below hF.out BB1.out.size))
        clear kp hI' hF' HPU I1 BB1 K1 PA1 h0
        go_wp2_with fail
        go_roundw
        case rel => exact ⟨k + 1, by omega, by go_num, I4.out, B4.out⟩
        case measure => simp [intOf]; omega
      · have HNO := Lib.hid (okI_no HP.out (by omega))
        have z0 : (((idxE (l.take k) p : Nat) : Int) != 0) = true := by simp; omega
        have h0 := Lib.hid h0
        obtain ⟨er, her⟩ : ∃ er, er = idxE (l.take k) p := ⟨_, rfl⟩
        go_wp2_with (refine wpList_load_row rfl 31 _ (by rfl) gp (by rfl) _ _ _ _ K1.out underPat rfl hsz.out ?_)
        refine HPU.out.mono ?_
        rintro e w4 ⟨rfl, kp, _⟩
        rw [← her] at z0 ⊢
        have B4 := Lib.hid (BB1.out.trans (kp.below hF.out BB1.out.size))
        clear kp HPU I1 BB1 K1 PA1 her h0
        go_wp2_with fail
        refine bodyPost_ret (v := .tuple #[.slice none 0 0, .int .i64 1]) ?_ rfl ⟨B4.out, .inr ⟨HNO.out, rfl⟩⟩
        simp [results, Tryz.results93, go_sem]
    · have hki : ¬ (k : Int) < (n : Int) := by omega
      have hkn : k = n := by omega
      obtain ⟨F, hI, hF⟩ := IX.out
      rw [List.take_of_length_le (by rw [hln.out]; omega)] at hI
      clear hkn IX
      have OK := Lib.hid hI.ok
      have IX := Lib.hid hI
      have hF := Lib.hid hF
      have HL31 := Lib.hid (len31_any hI)
      have W0 : Hid (WrB (wi.alloc (.cells #[.slice none 0 0] 139)) wi.heap.size wi.heap.size [] (fun _ => False)) := ⟨⟨_, wr_new wi, fun q e => by omega, fun q e h => h⟩⟩
      have BW : Hid (Below wi.heap.size wi (wi.alloc (.cells #[.slice none 0 0] 139))) := below_new _ _
      have I4 := Lib.hid (IX.out.ext BW.out)
      have HL4 := Lib.hid (len31_any I4.out)
      have hFi : Hid (∀ q, F q → q < wi.heap.size) := IX.out.lt
      rw [hln.out] at HL4
      clear hI HL31
      go_upto_region 9 with (refine wpList_alloced (allocW _) ?_)
      generalize (wi.alloc (.cells #[.slice none 0 0] 139)) = w4 at *
      obtain ⟨gw, hgw⟩ : ∃ gw, gw = wi.heap.size := ⟨_, rfl⟩
      rw [← hgw] at W0 BW hFi ⊢
      have hBw : Hid (w.heap.size ≤ gw) := by rw [hgw]; exact B.out.size
      have hGw : Hid (gw ≤ w4.heap.size) := by have := BW.out.size; rw [Hid]; omega
      have B4 : Hid (Below w.heap.size w w4) := B.out.trans (BW.out.mono hBw.out)
      clear hgw
      have B44 := Lib.hid (Below.refl gw w4)
      have C6 := Lib.hid (fun u => convI64 (k := n) (by omega) u)
      have H6 := Lib.hid (wmNum1 W0.out hGw.out (fun _ h => h.elim) n (by omega) (by simp))
      clear W0 BW B IX
      go_wp2_with fail
      refine HL4.out.mono ?_
      rintro e _ ⟨rfl, rfl⟩
      go_wp2_with ((with_reducible refine wpList_convB ?_ (C6.out _) ?_); rfl)
      refine H6.out.mono ?_
      rintro e w5 ⟨rfl, W5, b5, _⟩
      rw [List.nil_append] at W5
      have W5 := Lib.hid W5
      have B5 := Lib.hid (B4.out.trans (b5.mono hBw.out))
      have I5 := Lib.hid (I4.out.stay ⟨Nat.le_trans (Nat.le_of_eq rfl) (by have := b5.size; omega), fun q hq hf => b5.block q (hFi.out q hf)⟩)
      have G5 : Hid (gw ≤ w5.heap.size) := by have := b5.size; have := hGw.out; rw [Hid]; omega
      clear b5 H6 C6 HL4 I4 B4 B44 hGw
      go_wp2_with fail
      refine (of48_wide (H.out.ext B5.out) (by omega) HD.out).mono ?_
      rintro e w6 ⟨gh, rfl, hH, b6⟩
      have W6 := Lib.hid (W5.out.ext b6)
      have B6 := Lib.hid (B5.out.trans (b6.mono B5.out.size))
      have I6 := Lib.hid (I5.out.ext b6)
      have G6 : Hid (gw ≤ w6.heap.size) := Nat.le_trans G5.out b6.size
      have HO := Lib.hid (horder48_any hH)
      rw [namesO] at HO
      clear hH b6 W5 B5 I5 G5
      go_wp2_with fail
      refine HO.out.mono ?_
      rintro e w7 ⟨v7, rfl, o7, b7⟩
      obtain ⟨AI, cI, rfl, hcI, sI⟩ := Sl.of_own o7
      have II := Lib.hid (own_inB o7)
      have SI := Lib.hid sI
      have W7 : Hid (WrB w7 gw gw (vbytes n) (fun q => w6.heap.size ≤ q ∧ q < w7.heap.size)) := W6.out.away b7 fun q e => .inr e.1
      have B7 := Lib.hid (B6.out.trans (b7.mono B6.out.size))
      have I7 := Lib.hid (I6.out.ext b7)
      have G7 : Hid (gw ≤ w7.heap.size) := Nat.le_trans G6.out b7.size
      have HN7 : Hid (∀ q, (w6.heap.size ≤ q ∧ q < w7.heap.size) → q < w7.heap.size) := fun q e => e.2
      clear o7 sI b7 HO W6 B6 I6 G6
      generalize w6.heap.size = s6 at *
      obtain ⟨NN, hNN⟩ : ∃ NN : Nat → Prop, NN = (fun q => s6 ≤ q ∧ q < w7.heap.size) := ⟨_, rfl⟩
      rw [← hNN] at II W7
      replace HN7 : Hid (∀ q, NN q → q < w7.heap.size) := by rw [hNN]; exact HN7.out
      clear hNN
      have hol : Hid ((ordP l).length = n) := by rw [Hid, ordP_len OK.out]; exact hln.out
      have GE : Hid (imgB l = vbytes n ++ (ordP l).flatMap patText) := by rw [Hid]; unfold imgB; rw [hln.out]
      have HGD := Lib.hid (fun (k : Nat) (p : PatV) (hp : (ordP l)[k]? = some p) => ordP_find OK.out hp)
      have HPB := Lib.hid (fun (k : Nat) (p : PatV) (hp : (ordP l)[k]? = some p) => OK.out.good p ((ordP_perm OK.out).mem_iff.1 (List.mem_of_getElem? hp)))
      have HLV : Hid (∀ k, (vbytes n ++ ((ordP l).take k).flatMap patText).length ≤ 800000) := fun k => by
        have h1 : (((ordP l).take k).flatMap patText).length ≤ ((ordP l).flatMap patText).length := by
          conv => rhs; rw [← List.take_append_drop k (ordP l)]
          rw [List.flatMap_append, List.length_append]
          omega
        have h2 := HBL.out (okI_iff.2 OK.out)
        rw [GE.out] at h2
        simp only [List.length_append] at h2 ⊢
        omega
      have hidl : Hid (((ordP l).map (·.1)).length = n) := by rw [Hid, List.length_map]; exact hol.out
      have HOKI : Hid (okI l = true) := okI_iff.2 OK.out
      rw [hidl.out] at II SI hcI ⊢
      have S77 : Hid (Stay NN w7 w7) := ⟨Nat.le_refl _, fun _ _ _ => rfl⟩
      have B77 := Lib.hid (Below.refl gw w7)
      generalize ordP l = ord at *
      go_wp2_with fail
      go_loopw [35] (fun i wr => ∃ j : Nat, j ≤ n ∧ i = .int .i64 (j : Int) ∧ Hid (WrB wr gw gw (vbytes n ++ (ord.take j).flatMap patText) NN) ∧ Hid (Below gw w7 wr) ∧ Hid (Stay NN w7 wr)) (fun i _ => n - (intOf i).toNat)
      case atStart => exact ⟨0, by omega, rfl, by rw [List.take_zero, List.flatMap_nil, List.append_nil]; exact W7.out, B77.out, S77.out⟩
      case round =>
        clear W7 B77 S77
        obtain ⟨j, hj, rfl, WR, B, ST⟩ := hrel
        obtain ⟨wj, rfl⟩ : ∃ wx, wx = wr := ⟨_, rfl⟩
        have hj0 : (0 : Int) ≤ (j : Int) := by omega
        have GR : Hid (gw ≤ wj.heap.size) := Nat.le_trans G7.out B.out.size
        by_cases hlt2 : j < n
        · have hji : (j : Int) < (n : Int) := by omega
          obtain ⟨b, o, d, rfl, hb, hdx, rx⟩ := PidsAt.at_ (⟨hidl.out, (SI.out.stay II.out (Nat.le_refl _) ST.out).more ST.out.1⟩ : PidsAt wj AI n (ord.map (·.1))) hlt2
          obtain ⟨p, hp, rfl⟩ : ∃ p, ord[j]? = some p ∧ p.1 = d := by
            rw [List.getElem?_map] at hdx
            obtain ⟨p, h1, h2⟩ := Option.map_eq_some_iff.1 hdx
            exact ⟨p, h1, h2⟩
          have RX := Lib.hid rx
          have hfp := HGD.out j p hp
          have hpb := Lib.hid (HPB.out j p hp)
          have FS := Lib.hid (flat_snocF (f := patText) hp)
          have hL0l := HLV.out j
          have IJ : Hid (IdxAt wj F gx l) := I7.out.stay ⟨B.out.size, fun q hq hf => B.out.block q (hFi.out q hf)⟩
          obtain ⟨L0, hL0⟩ : ∃ L0, L0 = vbytes n ++ (ord.take j).flatMap patText := ⟨_, rfl⟩
          rw [← hL0] at WR hL0l
          have EN : Hid (vbytes n ++ (ord.take (j + 1)).flatMap patText = L0 ++ (vbytes (patBytes p).length ++ patBytes p)) := by
            rw [Hid, FS.out, ← List.append_assoc, ← hL0]; rfl
          replace hL0l := Lib.hid hL0l
          have KZ : Hid (Blk (wj.alloc (.cells #[.int .u8 0, .int .u16 0] 27)) wj.heap.size 27 #[.int .u8 0, .int .u16 0]) := Blk.new _ _ _
          have KN : Hid (Blk ((wj.alloc (.cells #[.int .u8 0, .int .u16 0] 27)).setRow wj.heap.size (encP p.1).toArray) wj.heap.size 27 (encP p.1).toArray) := KZ.out.row _
          have BN : Hid (Below wj.heap.size wj ((wj.alloc (.cells #[.int .u8 0, .int .u16 0] 27)).setRow wj.heap.size (encP p.1).toArray)) := below_setRow (below_new wj _) (Nat.le_refl _) _
          have hpl2 := patBytes_len hpb.out
          clear rx hb hdx hp hL0 FS
          go_upto_region 13 with (first
            | (refine wpList_load_mid rfl 27 _ (by rfl) b (o + j * 2) (by rfl) _ _ RX.out underPid rfl infoPid ?_)
            | (refine wpList_alloced (allocPid53 _) ?_)
            | (refine wpList_store_row rfl 27 _ _ (by rfl) wj.heap.size (encP p.1).toArray (by rfl) (by rfl) _ _ KZ.out infoPid rfl (encP_all _) ?_))
          generalize ((wj.alloc (.cells #[.int .u8 0, .int .u16 0] 27)).setRow wj.heap.size (encP p.1).toArray) = w8 at *
          have W8 := Lib.hid (WR.out.ext BN.out)
          have B8 : Hid (Below gw w7 w8) := B.out.trans (BN.out.mono GR.out)
          have ST8 : Hid (Stay NN w7 w8) := stay_trans ST.out (Stay.of_below BN.out)
          have I8 := Lib.hid (IJ.out.ext BN.out)
          have G8 : Hid (gw ≤ w8.heap.size) := Nat.le_trans GR.out BN.out.size
          generalize wj.heap.size = gp at *
          have HGT := Lib.hid (get31_any I8.out p.1)
          have hgv : getV l p.1 = p := by unfold getV; rw [hfp]; rfl
          have hgs : (findP l p.1).isSome = true := by rw [hfp]; rfl
          rw [hgv, hgs] at HGT
          clear KZ BN WR B ST IJ RX hgv hgs hfp GR
          go_wp2_with (refine wpList_load_row rfl 27 _ (by rfl) gp (by rfl) _ _ _ _ KN.out underPid rfl infoPid ?_)
          refine HGT.out.mono ?_
          rintro e w9 ⟨r, rfl, pin, b9⟩
          have pa := pin.at_
          have W9 := Lib.hid (W8.out.ext b9)
          have B9 : Hid (Below gw w7 w9) := B8.out.trans (b9.mono G8.out)
          have ST9 : Hid (Stay NN w7 w9) := stay_trans ST8.out (Stay.of_below b9)
          have G9 : Hid (gw ≤ w9.heap.size) := Nat.le_trans G8.out b9.size
          have r4 := Lib.hid pa.len4
          have r1 : Hid (r.toArray.all (·.oneCell') = true) := all_oneCell_toArray pa.one
          have hsz : Hid ((Tryz.prog.info? 31).map (·.size) = some r.toArray.size) := by rw [Hid, List.size_toArray, pa.len4]; exact infoPat
          have K0 : Hid (Blk (w9.alloc (.cells #[.int .u8 0, .int .u16 0, .slice none 0 0, .slice none 0 0] 31)) w9.heap.size 31 #[.int .u8 0, .int .u16 0, .slice none 0 0, .slice none 0 0]) := Blk.new _ _ _
          have B1 : Hid (Below w9.heap.size w9 ((w9.alloc (.cells #[.int .u8 0, .int .u16 0, .slice none 0 0, .slice none 0 0] 31)).setRow w9.heap.size r.toArray)) := below_setRow (below_new _ _) (Nat.le_refl _) _
          have K1 : Hid (Blk ((w9.alloc (.cells #[.int .u8 0, .int .u16 0, .slice none 0 0, .slice none 0 0] 31)).setRow w9.heap.size r.toArray) w9.heap.size 31 r.toArray) := K0.out.row _
          have PA1 := Lib.hid (pa.ext B1.out)
          clear pin pa b9 HGT KN W8 B8 ST8 I8 G8
          go_upto_region 14 with (first
            | (refine wpList_alloced (allocPat _) ?_)
            | (refine wpList_store_row rfl 31 _ _ (by rfl) w9.heap.size r.toArray (by rfl) (by rfl) _ _ K0.out hsz.out (by simp only [List.size_toArray, r4.out]; rfl) r1.out ?_))
          generalize ((w9.alloc (.cells #[.int .u8 0, .int .u16 0, .slice none 0 0, .slice none 0 0] 31)).setRow w9.heap.size r.toArray) = w10 at *
          have W10 := Lib.hid (W9.out.ext B1.out)
          have B10 : Hid (Below gw w7 w10) := B9.out.trans (B1.out.mono G9.out)
          have ST10 : Hid (Stay NN w7 w10) := stay_trans ST9.out (Stay.of_below B1.out)
          have G10 : Hid (gw ≤ w10.heap.size) := Nat.le_trans G9.out B1.out.size
          have HE := Lib.hid (encode19_any p w10 r PA1.out)
          clear K0 B1 W9 B9 ST9 G9
          generalize w9.heap.size = gq at *
          go_wp2_with (refine wpList_load_row rfl 31 _ (by rfl) gq (by rfl) _ _ _ _ K1.out underPat rfl hsz.out ?_)
          refine HE.out.mono ?_
          rintro e w11 ⟨he, _⟩
          obtain ⟨v11, rfl, o11, b11⟩ := he hpb.out
          obtain ⟨A9, c9, rfl, ba9⟩ := own_bytes o11 rfl
          have W11 := Lib.hid (W10.out.ext b11)
          have B11 : Hid (Below gw w7 w11) := B10.out.trans (b11.mono G10.out)
          have ST11 : Hid (Stay NN w7 w11) := stay_trans ST10.out (Stay.of_below b11)
          have G11 : Hid (gw ≤ w11.heap.size) := Nat.le_trans G10.out b11.size
          have HN11 : Hid (∀ q, NN q → q < w11.heap.size) := fun q e => Nat.lt_of_lt_of_le (HN7.out q e) ST11.out.1
          have CS := Lib.hid (strB_run (c := c9) ba9.sl ba9.len)
          have HT := Lib.hid (wmText W11.out G11.out HN11.out (bytesOf (patBytes p)) (by show (patBytes p).length ≤ _; omega) hL0l.out)
          clear he o11 b11 ba9 HE W10 B10 ST10 PA1 K1 G10
          go_wp2_with (first | ((with_reducible refine wpList_convB ?_ CS.out ?_); rfl))
          refine HT.out.mono ?_
          rintro e w12 ⟨rfl, W12, b12, st12⟩
          have W12 : Hid (WrB w12 gw gw (vbytes n ++ (ord.take (j + 1)).flatMap patText) NN) := by rw [Hid, EN.out]; exact W12
          have B12 : Hid (Below gw w7 w12) := B11.out.trans b12
          have ST12 : Hid (Stay NN w7 w12) := stay_trans ST11.out st12
          clear b12 st12 HT CS W11 B11 ST11 EN
          go_wp2_with fail
          go_roundw
          case rel => exact ⟨j + 1, by omega, by go_num, W12.out, B12.out, ST12.out⟩
          case measure => simp [intOf]; omega
        · have hji : ¬ (j : Int) < (n : Int) := by omega
          rw [List.take_of_length_le (by rw [hol.out]; omega), ← GE.out] at WR
          obtain ⟨F7, h1, _, _⟩ := WR.out.ex
          have HBy := Lib.hid (wrBytes_any h1 (by have := HBL.out HOKI.out; omega))
          have BE := Lib.hid (B7.out.trans (B.out.mono hBw.out))
          clear h1 WR B ST
          go_wp2_with fail
          refine HBy.out.mono ?_
          rintro e w9 ⟨v9, rfl, o9, b9⟩
          have O9 := Lib.hid (own_mono' o9 BE.out.size)
          have B9 := Lib.hid (BE.out.trans (b9.mono BE.out.size))
          clear o9 b9 HBy
          go_wp2
          refine bodyPost_ret (v := .tuple #[v9, .int .i64 0]) ?_ rfl ⟨B9.out, .inl ⟨HOKI.out, v9, rfl, O9.out⟩⟩
          simp [results, Tryz.results93, go_sem]
end Go.Proofs.YtihggkmjalofiaaGreatDoor
