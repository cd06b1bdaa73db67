/- A message is encoded by the document: walked. -/
import Derived.Test.YtdafiipedlglpaaGreatDoorMsgi
import Derived.Test.YtdafiipedlglpaaGreatDoorRpg
namespace Go.Proofs.YtdafiipedlglpaaGreatDoor
open Go.RowKit

theorem own_lit3 (w : World) (a b c : Int) : (w.alloc (.cells #[.int .u8 a, .int .u8 b, .int .u8 c] 5)).ownsRow w.heap.size 5 1 (.slice (some ⟨w.heap.size, 0, none⟩) 3 3) 3 [.int .u8 a, .int .u8 b, .int .u8 c] :=
  ⟨rfl, .inr ⟨w.heap.size, 3, #[.int .u8 a, .int .u8 b, .int .u8 c], rfl, Nat.le_refl _, heap_alloc_new w _, Nat.le_refl _, by simp [maxLen], rfl, rfl⟩⟩
theorem vecK_get {v : List Int} (hv : VecOk v) {k : Nat} (hk : k < 64) : (vecK v)[k]? = some (.int .u16 (v.getD k 0)) := by
  have hl : k < v.length := by rw [hv.len]; exact hk
  unfold vecK
  rw [List.getElem?_map, List.getD_eq_getElem?_getD, List.getElem?_eq_getElem hl]
  rfl
theorem own_keepL {w w' : World} {base n : Nat} {v : Value} {l : List Value} (h : w.ownsRow base 5 1 v n l) (hk : ∀ q, v.ownBlock = some q → w'.heap[q]? = w.heap[q]?) : w'.ownsRow base 5 1 v n l := by
  obtain ⟨h1, h2⟩ := h
  refine ⟨h1, ?_⟩
  rcases h2 with h2 | ⟨g, cap, cur, e, hg, hh, r1, r2, r3⟩
  · exact .inl h2
  · exact .inr ⟨g, cap, cur, e, hg, (hk g (by rw [e]; rfl)).trans hh, r1, r2, r3⟩
theorem own_cat {w : World} {B : Nat} {v : Value} {l r X : List UInt8} {n m : Nat} (hX : X = l ++ r) (hn : n = l.length) (hm : m = r.length) (h : w.ownsRow B 5 1 v (n + m) (encB l ++ encB r)) : ∃ A c, v = .slice A X.length c ∧ Hid (w.ownsRow B 5 1 (.slice A X.length c) X.length (encB X)) := by
  subst hX hn hm
  rw [← encB_append, ← List.length_append] at h
  obtain ⟨A, c, rfl, _, _⟩ := Sl.of_own h
  exact ⟨A, c, rfl, h⟩
theorem sl_own {w : World} {B n c m : Nat} {A : Option Addr} {xs : List Value} (h : w.ownsRow B 5 1 (.slice A n c) m xs) : Sl w w.heap.size 1 A m xs := by
  obtain ⟨A2, c2, e, _, h⟩ := Sl.of_own h
  injection e with e1 _ _
  rw [e1]
  exact h
set_option maxRecDepth 100000 in
set_option maxHeartbeats 8000000 in
theorem rplain_any (m : MsgV) (hg : goodM m = true) (w : World) (cs : List Value) (h : MsgAt w cs m) : Calls Tryz.prog 81 #[.agg cs.toArray] w (OwnedRet w 5 1 (plainM m).length (encB (plainM m))) := by
  obtain ⟨A, c, rfl, HP⟩ := h.ex
  have KB : Hid (Blk (w.alloc (.cells (msgC m A m.2.2.2.length c).toArray 30)) w.heap.size 30 (msgC m A m.2.2.2.length c).toArray) := Blk.new _ _ _
  have B0 : Hid (Below w.heap.size w (w.alloc (.cells (msgC m A m.2.2.2.length c).toArray 30))) := below_new _ _
  have F := Lib.hid (fun (u : World) (g : Nat) (K : Blk u g 30 (msgC m A m.2.2.2.length c).toArray) => msg_facts h.ok K)
  have HQ := Lib.hid (HP.ext B0.out)
  have OKM := Lib.hid h.ok
  have hs := h.small
  obtain ⟨_, _, hvg, hkk⟩ := goodM_parts hg
  replace hkk := Lib.hid hkk
  have hPL := plainM_len h.ok hg
  clear h HP hg hvg
  obtain ⟨n, hn⟩ : ∃ n, n = m.2.2.2.length := ⟨_, rfl⟩
  rw [← hn] at KB B0 F HQ hs ⊢
  replace hn := Lib.hid hn
  unfold maxLen at hs
  go_enter Tryz.func81, Tryz.ntmps81
  go_upto_region 1 with fail
  generalize (w.alloc (.cells (msgC m A n c).toArray 30)) = w1 at *
  generalize (msgC m A n c).toArray = ca at *
  obtain ⟨gm, hgm⟩ : ∃ g, g = w.heap.size := ⟨_, rfl⟩
  rw [← hgm] at KB ⊢
  replace hgm := Lib.hid hgm
  have G1 : Hid (gm < w1.heap.size) := KB.out.lt
  obtain ⟨y0, y1, y2, _, _, _⟩ := F.out w1 gm KB.out
  obtain ⟨B, hB⟩ : ∃ B, B = w1.heap.size := ⟨_, rfl⟩
  have O2 : Hid ((w1.alloc (.cells #[.int .u8 ((m.1.1.val : Nat) : Int), .int .u8 ((m.1.2.1.val : Nat) : Int), .int .u8 ((m.1.2.2.val : Nat) : Int)] 5)).ownsRow B 5 1 (.slice (some ⟨w1.heap.size, 0, none⟩) 3 3) [UInt8.ofNat m.1.1.val, UInt8.ofNat m.1.2.1.val, UInt8.ofNat m.1.2.2.val].length (encB [UInt8.ofNat m.1.1.val, UInt8.ofNat m.1.2.1.val, UInt8.ofNat m.1.2.2.val])) := by
    have e : encB [UInt8.ofNat m.1.1.val, UInt8.ofNat m.1.2.1.val, UInt8.ofNat m.1.2.2.val] = [.int .u8 ((m.1.1.val : Nat) : Int), .int .u8 ((m.1.2.1.val : Nat) : Int), .int .u8 ((m.1.2.2.val : Nat) : Int)] := by
      show enc1 _ ++ (enc1 _ ++ (enc1 _ ++ [])) = _
      rw [enc1_nat m.1.1.isLt, enc1_nat m.1.2.1.isLt, enc1_nat m.1.2.2.isLt]
      rfl
    rw [Hid, e, hB]
    exact own_lit3 w1 _ _ _
  have B2 : Hid (Below B w1 (w1.alloc (.cells #[.int .u8 ((m.1.1.val : Nat) : Int), .int .u8 ((m.1.2.1.val : Nat) : Int), .int .u8 ((m.1.2.2.val : Nat) : Int)] 5))) := by rw [Hid, hB]; exact below_new _ _
  go_upto_region 2 with fail
  obtain ⟨H0, hH0⟩ : ∃ H0, H0 = [UInt8.ofNat m.1.1.val, UInt8.ofNat m.1.2.1.val, UInt8.ofNat m.1.2.2.val] := ⟨_, rfl⟩
  rw [← hH0] at O2
  have hH0l : H0.length = 3 := by rw [hH0]; rfl
  replace hH0 := Lib.hid hH0
  generalize (w1.alloc (.cells #[.int .u8 ((m.1.1.val : Nat) : Int), .int .u8 ((m.1.2.1.val : Nat) : Int), .int .u8 ((m.1.2.2.val : Nat) : Int)] 5)) = w2 at *
  rw [← hB] at O2 G1 ⊢
  have hB1 : Hid (B = w1.heap.size) := hB
  have KL : Hid (B < w2.heap.size) := (O2.out.lt B rfl).2
  clear hB y0 y1 y2
  have FX := Lib.hid (fun (u : World) (hu : Below B w1 u) => F.out u gm (KB.out.below hu G1.out))
  obtain ⟨BL, hBL⟩ : ∃ B, B = w2.heap.size := ⟨_, rfl⟩
  have OL0 : Hid (w2.ownsRow BL 5 1 (.slice none 0 0) 0 (encB [])) := World.ownsRow_nil _ _ _ _
  have BL0 : Hid (Below BL w2 w2) := Below.refl _ _
  have KL : Hid (B < BL) := by rw [hBL]; exact KL.out
  replace hBL := Lib.hid hBL
  go_wp2_with fail
  go_loopw [4, 5, 6] (fun nv v i wr => ∃ (k c' : Nat) (A' : Option Addr) (L : List UInt8), k ≤ 64 ∧ nv = .int .i64 (((pairsTo m.2.1 k).length : Nat) : Int) ∧ v = .slice A' L.length c' ∧ i = .int .i64 (k : Int) ∧ Hid (L = (pairsTo m.2.1 k).flatMap pairB) ∧ Hid (wr.ownsRow BL 5 1 (.slice A' L.length c') L.length (encB L)) ∧ Hid (Below BL w2 wr)) (fun _ _ i _ => 64 - (intOf i).toNat)
  case atStart => exact ⟨0, 0, none, [], by omega, rfl, rfl, rfl, rfl, OL0.out, BL0.out⟩
  case round =>
    clear OL0 BL0
    obtain ⟨k, c', A', L, hk, rfl, rfl, rfl, hL, OL, BW⟩ := hrel
    obtain ⟨wi, rfl⟩ : ∃ wx, wx = wr := ⟨_, rfl⟩
    have hk0 : (0 : Int) ≤ (k : Int) := by omega
    have BWi : Hid (Below B w1 wi) := B2.out.trans (BW.out.mono (Nat.le_of_lt KL.out))
    have hLl : L.length ≤ 256 := by rw [hL.out]; exact vecB_len OKM.out.vec k hk
    have hpl := pairsTo_len m.2.1 k
    have GL : Hid (BL ≤ wi.heap.size) := by have := BW.out.size; have := hBL.out; rw [Hid]; omega
    by_cases hlt : k < 64
    · have hki : (k : Int) < 64 := by omega
      obtain ⟨_, _, _, _, RV, _⟩ := FX.out wi BWi.out
      have cx := RV k _ (vecK_get OKM.out.vec hlt)
      obtain ⟨x0, x1⟩ := OKM.out.vec.get k hlt
      have PY := Lib.hid (fun h => pairsTo_yes (v := m.2.1) (k := k) h)
      have PN := Lib.hid (fun h => pairsTo_no (v := m.2.1) (k := k) h)
      have RVH := Lib.hid (fun (u : World) (hu : Below B w1 u) => ((FX.out u hu).2.2.2.2.1) k _ (vecK_get OKM.out.vec hlt))
      clear RV
      generalize m.2.1.getD k 0 = x at *
      by_cases hx : (0 : Int) < x
      · have EN : Hid ((pairsTo m.2.1 (k + 1)).length = (pairsTo m.2.1 k).length + 1) := by rw [Hid, PY.out hx, List.length_append]; rfl
        have EL : Hid ((pairsTo m.2.1 (k + 1)).flatMap pairB = L ++ [UInt8.ofNat (k + 1)] ++ vbytes x.toNat) := by
          rw [Hid, PY.out hx, List.flatMap_append, ← hL.out]
          unfold pairB
          simp
        have C1 := Lib.hid (fun u => convN8 (k := k) (by omega) u)
        have C2 := Lib.hid (fun u => conv16 x0 x1 u)
        obtain ⟨xn, hxx⟩ : ∃ n : Nat, x = (n : Int) := ⟨x.toNat, by omega⟩
        subst hxx
        rw [Int.toNat_natCast] at C2 EL
        have hxn : xn < 18446744073709551616 := by omega
        generalize (pairsTo m.2.1 k).length = nn at *
        have EB : Hid (encB [UInt8.ofNat (k + 1)] = [.int .u8 ((k + 1 : Nat) : Int)]) := by
          show enc1 _ ++ [] = _
          rw [enc1_nat (by omega), List.append_nil]
        clear PY PN
        have hL5 : (L ++ [UInt8.ofNat (k + 1)]).length = L.length + 1 := by rw [List.length_append]; rfl
        generalize ((k + 1 : Nat) : Int) = kk at *
        have STEP : Hid (∀ (v' : Value) (w' : World), w'.ownsRow BL 5 1 v' (L.length + 1) (encB L ++ [.int .u8 kk]) → Kept (fun q => (Value.slice A' L.length c').ownBlock = some q) wi w' → ∃ A c, v' = .slice A (L.length + 1) c ∧ Hid (w'.ownsRow BL 5 1 (.slice A (L.length + 1) c) (L.length + 1) (encB (L ++ [UInt8.ofNat (k + 1)]))) ∧ Hid (Below BL w2 w') ∧ w'.cell? ⟨gm, 3 + k, none⟩ = some (.int .u16 (xn : Int)) ∧ Hid (BL ≤ w'.heap.size)) := by
          intro v5 w5 own5 kp5
          have B5 : Below BL w2 w5 := BW.out.trans (kp5.below (fun k e => (OL.out.lt k e).1) GL.out)
          have c5 := RVH.out w5 (B2.out.trans (B5.mono (Nat.le_of_lt KL.out)))
          rw [← EB.out, ← encB_append] at own5
          obtain ⟨A5, c5', rfl, _, _⟩ := Sl.of_own own5
          exact ⟨A5, c5', rfl, own5, B5, c5, Nat.le_trans GL.out kp5.size⟩
        go_wp2_with (first
          | ((with_reducible refine wpList_convB ?_ (C1.out _) ?_); rfl)
          | (at_builtin; refine wpList_pushF byteSl OL.out [.int .u8 kk] rfl (by simp [Value.oneCell']) GL.out (by omega) (by unfold maxLen; omega) (by rfl) (by rfl) (by rfl) ?_; intro v5 w5 own5 kp5 hv5; obtain ⟨A5, c5', rfl, O5, B5, c5, G5⟩ := STEP.out v5 w5 own5 kp5; clear own5 kp5 hv5)
          | ((with_reducible refine wpList_convB ?_ (C2.out _) ?_); rfl))
        clear STEP c5 cx OL BW
        have hvl := vbytes_ten hxn
        go_wp2_with fail
        refine (rvbytes_any xn hxn w5).mono ?_
        rintro e wal ⟨val, rfl, oal, bal⟩
        obtain ⟨Aal, cal, rfl, _, sal⟩ := Sl.of_own oal
        have Oal := Lib.hid (own_ext O5.out bal)
        have Sal := Lib.hid sal
        have Bal := Lib.hid (B5.out.trans (bal.mono G5.out))
        have Gal : Hid (BL ≤ wal.heap.size) := Nat.le_trans G5.out bal.size
        clear oal sal bal O5 B5
        go_wp2_with (at_builtin; refine wpList_catB byteSl Oal.out Sal.out (encB_one _) Gal.out (by omega) (by unfold maxLen; omega) (by rfl) (by rfl) ?_; intro vbl wbl ownl kepl newl)
        rw [← encB_append] at ownl
        have Bbl := Lib.hid (Bal.out.trans (kepl.below (fun k e => (Oal.out.lt k e).1) Gal.out))
        obtain ⟨Abl, cbl, rfl, _, _⟩ := Sl.of_own ownl
        have Obl := Lib.hid ownl
        clear ownl kepl newl Oal Sal Bal Gal
        have hLL : Hid ((L ++ [UInt8.ofNat (k + 1)] ++ vbytes xn).length = L.length + 1 + (vbytes xn).length) := by rw [Hid, List.length_append, hL5]
        go_wp2_with fail
        go_roundw
        case rel => exact ⟨k + 1, cbl, Abl, L ++ [UInt8.ofNat (k + 1)] ++ vbytes xn, by omega, by rw [EN.out]; go_num, by rw [hLL.out], by go_num, EL.out.symm, by rw [hLL.out]; exact Obl.out, Bbl.out⟩
        case measure => simp [intOf]; omega
      · have EN : Hid (pairsTo m.2.1 (k + 1) = pairsTo m.2.1 k) := PN.out hx
        clear PY PN
        go_wp2_with fail
        go_roundw
        case rel => exact ⟨k + 1, c', A', L, by omega, by rw [EN.out], rfl, by go_num, by rw [Hid, EN.out]; exact hL.out, OL.out, BW.out⟩
        case measure => simp [intOf]; omega
    · have hki : ¬ (k : Int) < 64 := by omega
      obtain rfl : k = 64 := by omega
      have E64 := Lib.hid hL.out
      have hnn : (pairsTo m.2.1 64).length ≤ 64 := hpl
      have EV : Hid (vecB m.2.1 = vbytes (pairsTo m.2.1 64).length ++ L) := by rw [Hid, hL.out]; rfl
      have O3 : Hid (wi.ownsRow B 5 1 (.slice (some ⟨B, 0, none⟩) 3 3) 3 (encB H0)) := by
        have e := own_ext O2.out (by rw [← hBL.out]; exact BW.out)
        rw [hH0l] at e
        exact e
      have G3 : Hid (B ≤ wi.heap.size) := by have := GL.out; have := KL.out; rw [Hid]; omega
      have EPM : Hid (plainM m = H0 ++ vbytes (pairsTo m.2.1 64).length ++ L ++ tailB m) := by
        rw [Hid, hH0.out]
        unfold plainM
        rw [EV.out]
        simp only [List.append_assoc]
      have BW3 : Hid (Below B w1 wi) := BWi.out
      clear hpl hL hlt EV E64
      generalize (pairsTo m.2.1 64).length = nn at *
      have CN := Lib.hid (fun u => convI64 (k := nn) (by omega) u)
      have hnl := vbytes_ten (n := nn) (by omega)
      obtain ⟨X1, hX1⟩ : ∃ X, X = H0 ++ vbytes nn := ⟨_, rfl⟩
      have hX1l : X1.length ≤ 13 := by rw [hX1, List.length_append]; omega
      replace hX1 := Lib.hid hX1
      go_wp2_with ((with_reducible refine wpList_convB ?_ (CN.out _) ?_); rfl)
      refine (rvbytes_any nn (by omega) wi).mono ?_
      rintro e wa1 ⟨va1, rfl, oa1, ba1⟩
      obtain ⟨Aa1, ca1, rfl, _, sa1⟩ := Sl.of_own oa1
      have Oa1 := Lib.hid (own_ext O3.out ba1)
      have Sa1 := Lib.hid sa1
      have Ba1 : Hid (Below B w1 wa1) := BW3.out.trans (ba1.mono G3.out)
      have Ga1 : Hid (B ≤ wa1.heap.size) := Nat.le_trans G3.out ba1.size
      have OL1 := Lib.hid (own_ext OL.out ba1)
      clear oa1 sa1 ba1
      go_upto_region 12 with (at_builtin; refine wpList_catB byteSl Oa1.out Sa1.out (encB_one _) Ga1.out (by omega) (by unfold maxLen; omega) (by rfl) (by rfl) ?_; intro vb1 wc1 own1 kep1 new1; obtain ⟨Ac1, cc1, rfl, Oc1⟩ := own_cat hX1.out (by first | rfl | exact hH0l.symm) rfl own1; have Bc1 : Hid (Below B w1 wc1) := Ba1.out.trans (kep1.below (fun k e => (Oa1.out.lt k e).1) Ga1.out); have Gc1 : Hid (B ≤ wc1.heap.size) := Nat.le_trans Ga1.out kep1.size; replace kep1 := Lib.hid kep1; clear new1 own1)
      have OL4 := Lib.hid (own_keepL OL1.out fun q e => kep1.out.block q (OL1.out.lt q e).2 fun e2 => by
        have h1 := (OL1.out.lt q e).1
        have h2 := KL.out
        have e3 : B = q := Option.some.inj e2
        omega)
      have SL4 := Lib.hid (sl_own OL4.out)
      obtain ⟨X2, hX2⟩ : ∃ X, X = X1 ++ L := ⟨_, rfl⟩
      have hX2l : X2.length ≤ 269 := by rw [hX2, List.length_append]; omega
      have EP2 : Hid (plainM m = X2 ++ tailB m) := by rw [Hid, EPM.out, hX2, hX1.out]
      replace hX2 := Lib.hid hX2
      clear OL1 OL4 kep1 EPM OL BW BWi GL CN hnl hX1
      go_upto_region 13 with (at_builtin; refine wpList_catB byteSl Oc1.out SL4.out (encB_one _) Gc1.out (by omega) (by unfold maxLen; omega) (by rfl) (by rfl) ?_; intro v2 wc2 own2 kep2 new2; obtain ⟨A2, c2, rfl, Oc2⟩ := own_cat hX2.out rfl rfl own2; have Bc2 : Hid (Below B w1 wc2) := Bc1.out.trans (kep2.below (fun k e => (Oc1.out.lt k e).1) Gc1.out); have Gc2 : Hid (B ≤ wc2.heap.size) := Nat.le_trans Gc1.out kep2.size; have y0 := (FX.out wc2 Bc2.out).1; have y71 := (FX.out wc2 Bc2.out).2.2.2.1; clear own2 kep2 new2)
      clear Oc1 Bc1 Gc1 SL4
      have z0 := Lib.hid hkk.out
      by_cases hk1 : m.1.1.val = 1
      · have z1 : (((m.1.1.val : Nat) : Int) == 1) = true := by rw [beq_iff_eq]; omega
        have ET : Hid (plainM m = X2 ++ m.2.2.1.flatMap vbytes) := by rw [Hid, EP2.out]; unfold tailB; rw [if_pos hk1]
        have EB0 : Hid (X2 = X2 ++ (m.2.2.1.take 0).flatMap vbytes) := by simp [Hid]
        replace hk1 := Lib.hid hk1
        clear y71 EP2
        go_wp2_with fail
        clear y0
        go_loopw [3, 7] (fun v i wr => ∃ (k c' : Nat) (A' : Option Addr) (X : List UInt8), k ≤ 4 ∧ i = .int .i64 (k : Int) ∧ v = .slice A' X.length c' ∧ Hid (X = X2 ++ (m.2.2.1.take k).flatMap vbytes) ∧ X.length ≤ 269 + 10 * k ∧ Hid (wr.ownsRow B 5 1 (.slice A' X.length c') X.length (encB X)) ∧ Hid (Below B w1 wr)) (fun _ i _ => 4 - (intOf i).toNat)
        case atStart => exact ⟨0, c2, A2, X2, by omega, rfl, rfl, EB0.out, by omega, Oc2.out, Bc2.out⟩
        case round =>
          clear Oc2 Bc2 Gc2
          obtain ⟨k, c', A', X, hk, rfl, rfl, hX, hXl, OX, BX⟩ := hrel
          obtain ⟨wi, rfl⟩ : ∃ wx, wx = wr := ⟨_, rfl⟩
          have hk0 : (0 : Int) ≤ (k : Int) := by omega
          have GX : Hid (B ≤ wi.heap.size) := by have := BX.out.size; have := hB1.out; rw [Hid]; omega
          by_cases hlt : k < 4
          · have hki : (k : Int) < 4 := by omega
            have hlk : k < m.2.2.1.length := by rw [OKM.out.bl.1]; exact hlt
            obtain ⟨x, hx⟩ : ∃ x, m.2.2.1[k]? = some x := ⟨_, List.getElem?_eq_getElem hlk⟩
            have hx64 : x < 18446744073709551616 := OKM.out.bl.2 x (List.mem_of_getElem? hx)
            have FS := Lib.hid (flat_snocF (f := vbytes) hx)
            have cx : wi.cell? ⟨gm, 67 + k, none⟩ = some (.int .u64 (x : Int)) := ((FX.out wi BX.out).2.2.2.2.2) k _ (by unfold encBl; rw [List.getElem?_map, hx]; rfl)
            have hvl := vbytes_ten hx64
            obtain ⟨Y, hY⟩ : ∃ Y, Y = X ++ vbytes x := ⟨_, rfl⟩
            have hYl : Y.length ≤ 269 + 10 * (k + 1) := by rw [hY, List.length_append]; omega
            have EY : Hid (Y = X2 ++ (m.2.2.1.take (k + 1)).flatMap vbytes) := by rw [Hid, hY, FS.out, ← List.append_assoc, ← hX.out]
            replace hY := Lib.hid hY
            clear hx FS hlk hX
            go_wp2_with fail
            refine (rvbytes_any x hx64 wi).mono ?_
            rintro e wa3 ⟨va3, rfl, oa3, ba3⟩
            obtain ⟨Aa3, ca3, rfl, _, sa3⟩ := Sl.of_own oa3
            have Oa3 := Lib.hid (own_ext OX.out ba3)
            have Sa3 := Lib.hid sa3
            have Ba3 : Hid (Below B w1 wa3) := BX.out.trans (ba3.mono GX.out)
            have Ga3 : Hid (B ≤ wa3.heap.size) := Nat.le_trans GX.out ba3.size
            clear oa3 sa3 ba3
            go_wp2_with (at_builtin; refine wpList_catB byteSl Oa3.out Sa3.out (encB_one _) Ga3.out (by omega) (by unfold maxLen; omega) (by rfl) (by rfl) ?_; intro vb3 wc3 own3 kep3 new3; obtain ⟨Ac3, cc3, rfl, Oc3⟩ := own_cat hY.out (by first | rfl | exact hH0l.symm) rfl own3; have Bc3 : Hid (Below B w1 wc3) := Ba3.out.trans (kep3.below (fun k e => (Oa3.out.lt k e).1) Ga3.out); have Gc3 : Hid (B ≤ wc3.heap.size) := Nat.le_trans Ga3.out kep3.size; clear new3 own3)
            clear kep3 OX BX GX Oa3 Sa3 Ba3 Ga3
            go_roundw
            case rel => exact ⟨k + 1, cc3, Ac3, Y, by omega, by go_num, rfl, EY.out, hYl, Oc3.out, Bc3.out⟩
            case measure => simp [intOf]; omega
          · have hki : ¬ (k : Int) < 4 := by omega
            obtain rfl : k = 4 := by omega
            rw [List.take_of_length_le (by rw [OKM.out.bl.1]; omega), ← ET.out] at hX
            replace hX := hX.out
            subst hX
            have BF : Hid (Below w.heap.size w wi) := B0.out.trans (BX.out.mono (by have := B0.out.size; have := hB1.out; omega))
            have OF := Lib.hid (own_mono' (b := w.heap.size) OX.out (by have := B0.out.size; have := hB1.out; omega))
            clear OX BX ET
            go_wp2
            go_ret
            exact ⟨_, rfl, OF.out, BF.out⟩
      · have z1 : (((m.1.1.val : Nat) : Int) == 1) = false := by rw [beq_eq_false_iff_ne]; omega
        obtain ⟨hk2, hpg, _, hn8⟩ : m.1.1.val = 2 ∧ (∀ p ∈ m.2.2.2, patB p = true) ∧ m.2.2.1 = zeroBl ∧ m.2.2.2.length ≤ 8 := hkk.out.resolve_left fun h => hk1 h.1
        have ET : Hid (tailB m = vbytes m.2.2.2.length ++ m.2.2.2.flatMap patText) := by rw [Hid]; unfold tailB; rw [if_neg hk1]
        have hn8' : n ≤ 8 := by have := hn.out; omega
        have HPG := Lib.hid hpg
        have CN := Lib.hid (fun u => convI64 (k := n) (by omega) u)
        have hnl := vbytes_ten (n := n) (by omega)
        obtain ⟨X4, hX4⟩ : ∃ X, X = X2 ++ vbytes n := ⟨_, rfl⟩
        have hX4l : X4.length ≤ 279 := by rw [hX4, List.length_append]; omega
        have EP4 : Hid (plainM m = X4 ++ m.2.2.2.flatMap patText) := by rw [Hid, EP2.out, ET.out, hX4, hn.out, List.append_assoc]
        have EB0 : Hid (X4 = X4 ++ (m.2.2.2.take 0).flatMap patText) := by simp [Hid]
        replace hX4 := Lib.hid hX4
        replace hk1 := Lib.hid hk1
        clear hpg hn8 hk2 EP2 ET
        go_wp2_with ((with_reducible refine wpList_convB ?_ (CN.out _) ?_); rfl)
        refine (rvbytes_any n (by omega) wc2).mono ?_
        rintro e wa4 ⟨va4, rfl, oa4, ba4⟩
        obtain ⟨Aa4, ca4, rfl, _, sa4⟩ := Sl.of_own oa4
        have Oa4 := Lib.hid (own_ext Oc2.out ba4)
        have Sa4 := Lib.hid sa4
        have Ba4 : Hid (Below B w1 wa4) := Bc2.out.trans (ba4.mono Gc2.out)
        have Ga4 : Hid (B ≤ wa4.heap.size) := Nat.le_trans Gc2.out ba4.size
        clear oa4 sa4 ba4
        go_upto_region 20 with (at_builtin; refine wpList_catB byteSl Oa4.out Sa4.out (encB_one _) Ga4.out (by omega) (by unfold maxLen; omega) (by rfl) (by rfl) ?_; intro vb4 wc4 own4 kep4 new4; obtain ⟨Ac4, cc4, rfl, Oc4⟩ := own_cat hX4.out (by first | rfl | exact hH0l.symm) rfl own4; have Bc4 : Hid (Below B w1 wc4) := Ba4.out.trans (kep4.below (fun k e => (Oa4.out.lt k e).1) Ga4.out); have Gc4 : Hid (B ≤ wc4.heap.size) := Nat.le_trans Ga4.out kep4.size; clear new4 own4)
        clear kep4 Oc2 Bc2 Gc2 Oa4 Sa4 Ba4 Ga4 y0 y71 CN
        go_wp2_with fail
        go_loopw [3, 8] (fun v i wr => ∃ (k c' : Nat) (A' : Option Addr) (X : List UInt8), k ≤ n ∧ i = .int .i64 (k : Int) ∧ v = .slice A' X.length c' ∧ Hid (X = X4 ++ (m.2.2.2.take k).flatMap patText) ∧ X.length ≤ 279 + 20003 * k ∧ Hid (wr.ownsRow B 5 1 (.slice A' X.length c') X.length (encB X)) ∧ Hid (Below B w1 wr)) (fun _ i _ => n - (intOf i).toNat)
        case atStart => exact ⟨0, cc4, Ac4, X4, by omega, rfl, rfl, EB0.out, by omega, Oc4.out, Bc4.out⟩
        case round =>
          clear Oc4 Bc4 Gc4
          obtain ⟨k, c', A', X, hk, rfl, rfl, hX, hXl, OX, BX⟩ := hrel
          obtain ⟨wi, rfl⟩ : ∃ wx, wx = wr := ⟨_, rfl⟩
          have hk0 : (0 : Int) ≤ (k : Int) := by omega
          have GX : Hid (B ≤ wi.heap.size) := by have := BX.out.size; have := hB1.out; rw [Hid]; omega
          have y71 := (FX.out wi BX.out).2.2.2.1
          by_cases hlt : k < n
          · have hki : (k : Int) < (n : Int) := by omega
            obtain ⟨b, o, p, r, rfl, hb, hp, pa, R⟩ := (HQ.out.ext (by rw [← hB1.out]; exact BX.out)).at_ hlt
            have RH := Lib.hid R
            have PA := Lib.hid pa
            have hr4 : Hid ((Tryz.prog.info? 64).map (·.size) = some r.length) := by rw [Hid, pa.len4]; exact infoPat
            have hpb := Lib.hid (HPG.out p (List.mem_of_getElem? hp))
            have FS := Lib.hid (flat_snocF (f := patText) hp)
            have hpt := patText_len hpb.out
            have hpl2 := patBytes_len hpb.out
            obtain ⟨Y, hY⟩ : ∃ Y, Y = X ++ patText p := ⟨_, rfl⟩
            have hYl : Y.length ≤ 279 + 20003 * (k + 1) := by rw [hY, List.length_append]; omega
            have EY : Hid (Y = X4 ++ (m.2.2.2.take (k + 1)).flatMap patText) := by rw [Hid, hY, FS.out, ← List.append_assoc, ← hX.out]
            have hYT : Hid (Y = X ++ textB (bytesOf (patBytes p))) := by rw [Hid, hY]; rfl
            have hTl : (textB (bytesOf (patBytes p))).length ≤ 20003 := hpt
            have HB := Lib.hid (rbytes19_any p hpb.out wi r PA.out)
            clear R pa hb hp FS hX hY
            go_wp2_with (refine wpList_load_mid rfl 64 _ (by rfl) b (o + k * 4) (by rfl) _ _ RH.out underPat rfl hr4.out ?_)
            refine HB.out.mono ?_
            rintro e w5 ⟨v5, rfl, o5, b5⟩
            obtain ⟨A5, c5, rfl, ba5⟩ := own_bytes o5 rfl
            have O5 := Lib.hid (own_ext OX.out b5)
            have B5 : Hid (Below B w1 w5) := BX.out.trans (b5.mono GX.out)
            have G5 : Hid (B ≤ w5.heap.size) := Nat.le_trans GX.out b5.size
            have CS := Lib.hid (strB_run (c := c5) ba5.sl ba5.len)
            have hs5 : (bytesOf (patBytes p)).size ≤ 100000 := by show (patBytes p).length ≤ _; omega
            clear o5 b5 ba5 HB OX BX GX PA RH y71
            generalize bytesOf (patBytes p) = sp at *
            go_wp2_with ((with_reducible refine wpList_convB ?_ CS.out ?_); rfl)
            refine (rtext04_any sp hs5 w5).mono ?_
            rintro e wa5 ⟨va5, rfl, oa5, ba5⟩
            obtain ⟨Aa5, ca5, rfl, _, sa5⟩ := Sl.of_own oa5
            have Oa5 := Lib.hid (own_ext O5.out ba5)
            have Sa5 := Lib.hid sa5
            have Ba5 : Hid (Below B w1 wa5) := B5.out.trans (ba5.mono G5.out)
            have Ga5 : Hid (B ≤ wa5.heap.size) := Nat.le_trans G5.out ba5.size
            clear oa5 sa5 ba5
            go_wp2_with (at_builtin; refine wpList_catB byteSl Oa5.out Sa5.out (encB_one _) Ga5.out (by omega) (by unfold maxLen; omega) (by rfl) (by rfl) ?_; intro vb5 wc5 own5 kep5 new5; obtain ⟨Ac5, cc5, rfl, Oc5⟩ := own_cat hYT.out (by first | rfl | exact hH0l.symm) rfl own5; have Bc5 : Hid (Below B w1 wc5) := Ba5.out.trans (kep5.below (fun k e => (Oa5.out.lt k e).1) Ga5.out); have Gc5 : Hid (B ≤ wc5.heap.size) := Nat.le_trans Ga5.out kep5.size; clear new5 own5)
            clear kep5 O5 B5 G5 Oa5 Sa5 Ba5 Ga5
            go_roundw
            case rel => exact ⟨k + 1, cc5, Ac5, Y, by omega, by go_num, rfl, EY.out, hYl, Oc5.out, Bc5.out⟩
            case measure => simp [intOf]; omega
          · have hki : ¬ (k : Int) < (n : Int) := by omega
            rw [List.take_of_length_le (by have := hn.out; omega), ← EP4.out] at hX
            replace hX := hX.out
            subst hX
            have BF : Hid (Below w.heap.size w wi) := B0.out.trans (BX.out.mono (by have := B0.out.size; have := hB1.out; omega))
            have OF := Lib.hid (own_mono' (b := w.heap.size) OX.out (by have := B0.out.size; have := hB1.out; omega))
            clear OX BX EP4
            go_wp2
            go_ret
            exact ⟨_, rfl, OF.out, BF.out⟩
end Go.Proofs.YtdafiipedlglpaaGreatDoor
