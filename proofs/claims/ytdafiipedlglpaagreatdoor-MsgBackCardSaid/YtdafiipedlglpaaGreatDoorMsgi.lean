/- A message is encoded by the program: walked. -/
import Derived.Test.YtdafiipedlglpaaGreatDoorMsgs
import Derived.Test.YtdafiipedlglpaaGreatDoorMsgh
import Derived.Test.YtdafiipedlglpaaGreatDoorCrcv
namespace Go.Proofs.YtdafiipedlglpaaGreatDoor
open Go.RowKit

def EncMRet (w : World) (m : MsgV) (e : Ending) (w' : World) : Prop :=
  (goodM m = true → ∃ v, e = .returned (.tuple #[v, .int .i64 0]) ∧ w'.ownsRow w.heap.size 5 1 v (sealB (plainM m)).length (encB (sealB (plainM m))) ∧ Below w.heap.size w w') ∧
  (goodM m = false → e = .returned (.tuple #[.slice none 0 0, .int .i64 1]) ∧ Below w.heap.size w w')
theorem wmNumS {w : World} {B g : Nat} {l : List UInt8} {N : Nat → Prop} (h : WrB w B g l N) (hBw : B ≤ w.heap.size) (hNw : ∀ q, N q → q < w.heap.size) (ns : List Nat) (hn : ∀ n ∈ ns, n < 18446744073709551616) (hm : ns.length ≤ 1000) (hl : l.length ≤ 800000) (A : Option Addr) (c : Nat) (hx : Sl w w.heap.size 1 A ns.length (encU ns)) (hA : ∀ b o, A = some ⟨b, o, none⟩ → b < B) :
    Calls Tryz.prog 76 #[.pointer (some ⟨g, 0, none⟩), .slice A ns.length c] w (WbRet w B g (l ++ ns.flatMap vbytes) N) := by
  obtain ⟨F, h1, h2, h3⟩ := h.ex
  exact (wrNum_any h1 ns hn A ns.length c hx (fun b o e hf => by have := hA b o e; have := h2 b hf; omega) rfl (by omega) hm).mono fun _ _ h => wb_of (Below.refl _ _) h2 h3 hBw hNw h
theorem sliceBl (g o : Nat) (w : World) : (Instr.sliceAt 27 (.pointer (some ⟨g, o, none⟩)) none none none).run Tryz.prog w = .ok (.slice (some ⟨g, o, none⟩) 4 4) w := by kernel_rfl
theorem underMsg : Tryz.prog.underlying 30 = some (.struct (Tryz.prog.fieldsOf 30)) := by kernel_rfl
theorem bl_sl {w : World} {g o : Nat} {xs : List Nat} (hx : BlOk xs) (h : w.rangeAt g o (encBl xs)) (hg : g < w.heap.size) : Sl w w.heap.size 1 (some ⟨g, o, none⟩) 4 (encU xs) := by
  have e : encU xs = encBl xs := rfl
  rw [e]
  refine ⟨by rw [encBl_len hx], fun _ => ⟨g, o, rfl, hg, fun j hj => ?_⟩⟩
  have hj4 : j < (encBl xs).length := by rw [encBl_len hx]; omega
  rw [List.getElem?_eq_getElem hj4]
  exact h j _ (List.getElem?_eq_getElem hj4)
set_option maxRecDepth 100000 in
set_option maxHeartbeats 8000000 in
theorem encM_any (m : MsgV) (w : World) (cs : List Value) (h : MsgAt w cs m) (hF : FourOk w) : Calls Tryz.prog 19 #[.agg cs.toArray] w (EncMRet w m) := by
  have hM := Lib.hid h
  obtain ⟨A, c, rfl, HP⟩ := h.ex
  have hs := h.small
  have KB : Hid (Blk (w.alloc (.cells (msgC m A m.2.2.2.length c).toArray 30)) w.heap.size 30 (msgC m A m.2.2.2.length c).toArray) := Blk.new _ _ _
  have B0 : Hid (Below w.heap.size w (w.alloc (.cells (msgC m A m.2.2.2.length c).toArray 30))) := below_new _ _
  have HG := Lib.hid (msgGood_any m _ _ (hM.out.ext B0.out))
  have F := Lib.hid (fun (u : World) (g : Nat) (K : Blk u g 30 (msgC m A m.2.2.2.length c).toArray) => msg_facts h.ok K)
  have HQ := Lib.hid (HP.ext B0.out)
  have OKM := Lib.hid h.ok
  have FO := Lib.hid (four_ext hF B0.out)
  have h72 : Hid ((Tryz.prog.info? 30).map (·.size) = some (msgC m A m.2.2.2.length c).toArray.size) := by rw [Hid, List.size_toArray, msgC_len h.ok]; kernel_rfl
  have lv : Hid ((Tryz.prog.info? 24).map (·.size) = some (vecK m.2.1).length) := by rw [Hid, vecK_len h.ok.vec]; exact info64
  clear h HP hM hF
  obtain ⟨n, hn⟩ : ∃ n, n = m.2.2.2.length := ⟨_, rfl⟩
  rw [← hn] at KB B0 HG F HQ FO h72 hs ⊢
  replace hn := Lib.hid hn
  unfold maxLen at hs
  go_enter Tryz.func19, Tryz.ntmps19
  go_upto_region 1 with fail
  generalize (w.alloc (.cells (msgC m A n c).toArray 30)) = w2 at *
  generalize (msgC m A n c).toArray = ca at *
  obtain ⟨gm, hgm⟩ : ∃ g, g = w.heap.size := ⟨_, rfl⟩
  rw [← hgm] at KB ⊢
  replace hgm := Lib.hid hgm
  cases hg : goodM m
  · rw [hg] at HG
    replace hg := Lib.hid hg
    go_wp2_with (refine wpList_load_row rfl 30 _ (by rfl) gm (by rfl) _ _ _ _ KB.out underMsg rfl h72.out ?_)
    refine HG.out.mono ?_
    rintro e w3 ⟨rfl, b3⟩
    have B3 := Lib.hid (B0.out.trans (b3.mono B0.out.size))
    clear b3
    go_wp2
    refine bodyPost_ret (v := .tuple #[.slice none 0 0, .int .i64 1]) ?_ rfl ⟨fun h => (by rw [hg.out] at h; cases h), fun _ => ⟨rfl, B3.out⟩⟩
    simp [results, Tryz.results19, go_sem]
  rw [hg] at HG
  obtain ⟨_, _, hvg, hkk⟩ := goodM_parts hg
  have hPL := plainM_len OKM.out hg
  have hvl := vecB_len OKM.out.vec 64 (Nat.le_refl _)
  have hpl := pairsTo_len m.2.1 64
  replace hg := Lib.hid hg
  replace hkk := Lib.hid hkk
  replace hvg := Lib.hid hvg
  go_wp2_with (refine wpList_load_row rfl 30 _ (by rfl) gm (by rfl) _ _ _ _ KB.out underMsg rfl h72.out ?_)
  refine HG.out.mono ?_
  rintro e w3 ⟨rfl, b3⟩
  have B3 := Lib.hid (B0.out.trans (b3.mono B0.out.size))
  have KM := Lib.hid (KB.out.ext b3)
  have HQ3 := Lib.hid (HQ.out.ext b3)
  have FO3 := Lib.hid (four_ext FO.out b3)
  clear b3 HG B0 KB HQ FO h72
  have W0 : Hid (WrB (w3.alloc (.cells #[.slice none 0 0] 122)) w3.heap.size w3.heap.size [] (fun _ => False)) := ⟨⟨_, wr_new w3, fun q e => by omega, fun q e h => h⟩⟩
  have BW : Hid (Below w3.heap.size w3 (w3.alloc (.cells #[.slice none 0 0] 122))) := below_new _ _
  go_upto_region 4 with (refine wpList_alloced (allocW _) ?_)
  generalize (w3.alloc (.cells #[.slice none 0 0] 122)) = w4 at *
  have gml := Lib.hid KM.out.lt
  obtain ⟨gw, hgw⟩ : ∃ gw, gw = w3.heap.size := ⟨_, rfl⟩
  rw [← hgw] at W0 BW gml ⊢
  replace hgw := Lib.hid hgw
  have FX := Lib.hid (fun (u : World) (hu : Below gw w3 u) => F.out u gm (KM.out.below hu gml.out))
  obtain ⟨y0, y1, y2, _, _, _⟩ := FX.out w4 BW.out
  have bs4 : Hid (gw ≤ w4.heap.size) := by have := BW.out.size; have := hgw.out; rw [Hid]; omega
  have H4 := Lib.hid (wmByte W0.out bs4.out (fun _ h => h.elim) [UInt8.ofNat m.1.1.val, UInt8.ofNat m.1.2.1.val, UInt8.ofNat m.1.2.2.val] 3 rfl (by omega) (by simp) #[.int .u8 ((m.1.1.val : Nat) : Int), .int .u8 ((m.1.2.1.val : Nat) : Int), .int .u8 ((m.1.2.2.val : Nat) : Int)] (by
    show _ = (enc1 _ ++ (enc1 _ ++ (enc1 _ ++ []))).toArray
    rw [enc1_nat m.1.1.isLt, enc1_nat m.1.2.1.isLt, enc1_nat m.1.2.2.isLt]
    rfl))
  go_wp2_with fail
  refine H4.out.mono ?_
  rintro e w5 ⟨rfl, W5, b5, _⟩
  have W5 := Lib.hid W5
  have B5 : Hid (Below gw w3 w5) := BW.out.trans b5
  clear b5 BW W0 H4 y0 y1 y2 bs4
  obtain ⟨_, _, _, _, RV, _⟩ := FX.out w5 B5.out
  have RV := Lib.hid RV
  have bs5 : Hid (gw ≤ w5.heap.size) := by have := B5.out.size; have := hgw.out; rw [Hid]; omega
  have H5 : Hid (Calls Tryz.prog 75 #[.pointer (some ⟨gw, 0, none⟩), .agg (vecK m.2.1).toArray] w5 (WbRet w5 gw gw (([] ++ [UInt8.ofNat m.1.1.val, UInt8.ofNat m.1.2.1.val, UInt8.ofNat m.1.2.2.val]) ++ vecB m.2.1) (fun _ => False))) := putVec_any W5.out bs5.out (fun _ h => h.elim) m.2.1 OKM.out.vec (by simp)
  go_wp2_with (refine wpList_load_mid rfl 24 _ (by rfl) gm 3 (by rfl) _ _ RV.out under64 rfl lv.out ?_)
  refine H5.out.mono ?_
  rintro e w6 ⟨rfl, W6, b6, _⟩
  have W6 := Lib.hid W6
  have B6 : Hid (Below gw w3 w6) := B5.out.trans b6
  clear b6 B5 W5 H5 RV bs5
  obtain ⟨HD, hHD⟩ : ∃ HD, HD = ([] ++ [UInt8.ofNat m.1.1.val, UInt8.ofNat m.1.2.1.val, UInt8.ofNat m.1.2.2.val]) ++ vecB m.2.1 := ⟨_, rfl⟩
  rw [← hHD] at W6
  have hHl : HD.length ≤ 300 := by
    have h1 : (vbytes (pairsTo m.2.1 64).length).length ≤ 1 := vbytes_len 0 _ (by omega)
    rw [hHD]
    unfold vecB
    simp only [List.length_append, List.length_cons, List.length_nil]
    omega
  have EP : Hid (plainM m = HD ++ tailB m) := by rw [Hid, hHD]; unfold plainM; simp
  replace hHD := Lib.hid hHD
  obtain ⟨y0, _, _, y71, _, RB⟩ := FX.out w6 B6.out
  have RB := Lib.hid RB
  have bs6 : Hid (gw ≤ w6.heap.size) := by have := B6.out.size; have := hgw.out; rw [Hid]; omega
  have B6w : Hid (Below w.heap.size w w6) := B3.out.trans (B6.out.mono (by have := B3.out.size; have := hgw.out; omega))
  by_cases hk1 : m.1.1.val = 1
  · have z1 : (((m.1.1.val : Nat) : Int) == 1) = true := by rw [beq_iff_eq]; omega
    have ET : Hid (tailB m = m.2.2.1.flatMap vbytes) := by rw [Hid]; unfold tailB; rw [if_pos hk1]
    have hgm6 : gm < w6.heap.size := by have := gml.out; have := bs6.out; omega
    have H6 := Lib.hid (wmNumS W6.out bs6.out (fun _ h => h.elim) m.2.2.1 OKM.out.bl.2 (by rw [OKM.out.bl.1]; omega) (by omega) (some ⟨gm, 67, none⟩) 4 (by rw [OKM.out.bl.1]; exact bl_sl OKM.out.bl RB.out hgm6) (fun b o e => by injection e with e; injection e with e _ _; rw [← e]; exact gml.out))
    rw [OKM.out.bl.1] at H6
    have SL := Lib.hid (fun u => sliceBl gm 67 u)
    replace hk1 := Lib.hid hk1
    clear y71
    go_wp2_with (refine wpList_slB rfl rfl rfl rfl (SL.out _) ?_)
    refine H6.out.mono ?_
    rintro e w7 ⟨rfl, W7, b7, _⟩
    have EL : Hid (HD ++ m.2.2.1.flatMap vbytes = plainM m) := by rw [Hid, EP.out, ET.out]
    rw [EL.out] at W7
    have B7 : Hid (Below gw w3 w7) := B6.out.trans b7
    have B7w : Hid (Below w.heap.size w w7) := B3.out.trans (B7.out.mono (by have := B3.out.size; have := hgw.out; omega))
    obtain ⟨F7, h1, _, _⟩ := W7.ex
    have HBy := Lib.hid (wrBytes_any h1 (by omega))
    have FO7 := Lib.hid (four_ext FO3.out (by rw [← hgw.out]; exact B7.out))
    clear h1 W7 b7 H6 y0 RB SL
    go_wp2_with fail
    refine HBy.out.mono ?_
    rintro e w8 ⟨v8, rfl, o8, b8⟩
    obtain ⟨A8, c8, rfl, ba8⟩ := own_bytes o8 rfl
    have HS := Lib.hid (seal_any (plainM m) w8 A8 _ c8 ba8 (by omega) (four_ext FO7.out b8))
    have B8 := Lib.hid (B7w.out.trans (b8.mono B7w.out.size))
    clear o8 b8 ba8 HBy
    go_wp2_with fail
    refine HS.out.mono ?_
    rintro e w9 ⟨v9, rfl, o9, b9⟩
    have B9 := Lib.hid (B8.out.trans (b9.mono B8.out.size))
    have O9 := Lib.hid (own_mono' o9 B8.out.size)
    clear o9 b9 HS
    go_wp2
    refine bodyPost_ret (v := .tuple #[v9, .int .i64 0]) ?_ rfl ⟨fun _ => ⟨v9, rfl, O9.out, B9.out⟩, fun h => (by rw [hg.out] at h; cases h)⟩
    simp [results, Tryz.results19, go_sem]
  · have z1 : (((m.1.1.val : Nat) : Int) == 1) = false := by rw [beq_eq_false_iff_ne]; omega
    obtain ⟨hk2, hpg, _, hn8⟩ : m.1.1.val = 2 ∧ (∀ p ∈ m.2.2.2, patB p = true) ∧ m.2.2.1 = zeroBl ∧ m.2.2.2.length ≤ 8 := hkk.out.resolve_left fun h => hk1 h.1
    have ET : Hid (tailB m = vbytes m.2.2.2.length ++ m.2.2.2.flatMap patText) := by rw [Hid]; unfold tailB; rw [if_neg hk1]
    have hn8' : n ≤ 8 := by have := hn.out; omega
    have HPG := Lib.hid hpg
    have PL : Hid (∀ ps : List PatV, (∀ p ∈ ps, patB p = true) → (ps.flatMap patText).length ≤ 20003 * ps.length) := by
      intro ps
      induction ps with
      | nil => intro _; simp
      | cons p ps ih =>
        intro hh
        have a1 := ih fun x hx => hh x (List.mem_cons_of_mem _ hx)
        have a2 := patText_len (hh p (List.mem_cons_self ..))
        rw [List.flatMap_cons, List.length_append, List.length_cons]; omega
    have H6 := Lib.hid (wmNum1 W6.out bs6.out (fun _ h => h.elim) n (by omega) (by omega))
    have C6 := Lib.hid (fun u => convI64 (k := n) (by omega) u)
    replace hk1 := Lib.hid hk1
    clear hpg hn8 hk2 RB
    go_wp2_with ((with_reducible refine wpList_convB ?_ (C6.out _) ?_); rfl)
    refine H6.out.mono ?_
    rintro e w7 ⟨rfl, W7, b7, _⟩
    have W7 := Lib.hid W7
    have B7 : Hid (Below gw w3 w7) := B6.out.trans b7
    obtain ⟨H2, hH2⟩ : ∃ H2, H2 = HD ++ vbytes n := ⟨_, rfl⟩
    rw [← hH2] at W7
    have hH2l : H2.length ≤ 301 := by
      have h1 : (vbytes n).length ≤ 1 := vbytes_len 0 _ (by omega)
      rw [hH2, List.length_append]; omega
    have EL : Hid (plainM m = H2 ++ m.2.2.2.flatMap patText) := by rw [Hid, EP.out, ET.out, hH2, hn.out, List.append_assoc]
    replace hH2 := Lib.hid hH2
    clear b7 W6 B6 H6 C6 y0 y71 bs6 B6w ET EP
    obtain ⟨_, _, _, y71, _, _⟩ := FX.out w7 B7.out
    go_wp2_with fail
    clear y71
    go_loopw [40] (fun i wr => ∃ k : Nat, k ≤ n ∧ i = .int .i64 (k : Int) ∧ Hid (WrB wr gw gw (H2 ++ (m.2.2.2.take k).flatMap patText) (fun _ => False)) ∧ Hid (Below gw w3 wr)) (fun i _ => n - (intOf i).toNat)
    case atStart => exact ⟨0, by omega, rfl, by rw [List.take_zero, List.flatMap_nil, List.append_nil]; exact W7.out, B7.out⟩
    case round =>
      clear W7 B7
      obtain ⟨k, hk, rfl, WR, B⟩ := hrel
      obtain ⟨wi, rfl⟩ : ∃ wx, wx = wr := ⟨_, rfl⟩
      have hk0 : (0 : Int) ≤ (k : Int) := by omega
      have hgi : Hid (gw ≤ wi.heap.size) := by have := B.out.size; have := hgw.out; rw [Hid]; omega
      by_cases hlt : k < n
      · have hki : (k : Int) < (n : Int) := by omega
        obtain ⟨b, o, p, r, rfl, hb, hp, pa, R⟩ := (HQ3.out.ext (by rw [← hgw.out]; exact B.out)).at_ hlt
        have RH := Lib.hid R
        have PA := Lib.hid pa
        have hr4 : Hid ((Tryz.prog.info? 64).map (·.size) = some r.length) := by rw [Hid, pa.len4]; exact infoPat
        have r4 := Lib.hid pa.len4
        have r1 : Hid (r.toArray.all (·.oneCell') = true) := all_oneCell_toArray pa.one
        have hpb := Lib.hid (HPG.out p (List.mem_of_getElem? hp))
        have FS := Lib.hid (flat_snocF (f := patText) hp)
        obtain ⟨L0, hL0⟩ : ∃ L0, L0 = H2 ++ (m.2.2.2.take k).flatMap patText := ⟨_, rfl⟩
        have hL0l : L0.length ≤ 200000 := by
          have h1 := PL.out (m.2.2.2.take k) fun y hy => HPG.out y (List.mem_of_mem_take hy)
          rw [List.length_take] at h1
          rw [hL0, List.length_append]
          omega
        have EN : Hid (H2 ++ (m.2.2.2.take (k + 1)).flatMap patText = L0 ++ (vbytes (patBytes p).length ++ patBytes p)) := by
          rw [Hid, FS.out, ← List.append_assoc, ← hL0]; rfl
        rw [← hL0] at WR
        have hsz : Hid ((Tryz.prog.info? 64).map (·.size) = some r.toArray.size) := by rw [Hid, List.size_toArray]; exact hr4.out
        have K0 : Hid (Blk (wi.alloc (.cells #[.int .u8 0, .int .u16 0, .slice none 0 0, .slice none 0 0] 64)) wi.heap.size 64 #[.int .u8 0, .int .u16 0, .slice none 0 0, .slice none 0 0]) := Blk.new _ _ _
        have B1 : Hid (Below wi.heap.size wi ((wi.alloc (.cells #[.int .u8 0, .int .u16 0, .slice none 0 0, .slice none 0 0] 64)).setRow wi.heap.size r.toArray)) := below_setRow (below_new _ _) (Nat.le_refl _) _
        clear R pa hb hp FS hL0
        go_upto_region 13 with (first
          | (refine wpList_load_mid rfl 64 _ (by rfl) b (o + k * 4) (by rfl) _ _ RH.out underPat rfl hr4.out ?_)
          | (refine wpList_alloced (allocPat _) ?_)
          | (refine wpList_store_row rfl 64 _ _ (by rfl) wi.heap.size r.toArray (by rfl) (by rfl) _ _ K0.out hsz.out (by simp only [List.size_toArray, r4.out]; rfl) r1.out ?_))
        have K1 : Hid (Blk ((wi.alloc (.cells #[.int .u8 0, .int .u16 0, .slice none 0 0, .slice none 0 0] 64)).setRow wi.heap.size r.toArray) wi.heap.size 64 r.toArray) := K0.out.row _
        have PA1 := Lib.hid (PA.out.ext B1.out)
        have W1 := Lib.hid (WR.out.ext B1.out)
        have BB1 := Lib.hid (B.out.trans (B1.out.mono hgi.out))
        have hg1 : Hid (gw ≤ ((wi.alloc (.cells #[.int .u8 0, .int .u16 0, .slice none 0 0, .slice none 0 0] 64)).setRow wi.heap.size r.toArray).heap.size) := Nat.le_trans hgi.out B1.out.size
        generalize ((wi.alloc (.cells #[.int .u8 0, .int .u16 0, .slice none 0 0, .slice none 0 0] 64)).setRow wi.heap.size r.toArray) = w8 at *
        generalize wi.heap.size = gp at K1 ⊢
        clear K0 B1 WR B PA RH hgi
        have HE := Lib.hid (encode19_any p w8 r PA1.out)
        go_wp2_with (refine wpList_load_row rfl 64 _ (by rfl) gp (by rfl) _ _ _ _ K1.out underPat rfl hsz.out ?_)
        refine HE.out.mono ?_
        rintro e w9 ⟨he, _⟩
        obtain ⟨v9, rfl, o9, b9⟩ := he hpb.out
        obtain ⟨A9, c9, rfl, ba9⟩ := own_bytes o9 rfl
        have W9 := Lib.hid (W1.out.ext b9)
        have B9 := Lib.hid (BB1.out.trans (b9.mono hg1.out))
        have hg9 : Hid (gw ≤ w9.heap.size) := Nat.le_trans hg1.out b9.size
        have CS := Lib.hid (strB_run (c := c9) ba9.sl ba9.len)
        have hpl2 := patBytes_len hpb.out
        have HT := Lib.hid (wmText W9.out hg9.out (fun _ h => h.elim) (bytesOf (patBytes p)) (by show (patBytes p).length ≤ _; omega) (by omega))
        clear he o9 b9 ba9 HE W1 BB1 PA1 K1
        go_wp2_with (first | ((with_reducible refine wpList_convB ?_ CS.out ?_); rfl))
        refine HT.out.mono ?_
        rintro e w10 ⟨rfl, W10, b10, _⟩
        have W10 : Hid (WrB w10 gw gw (H2 ++ (m.2.2.2.take (k + 1)).flatMap patText) (fun _ => False)) := by rw [Hid, EN.out]; exact W10
        have B10 := Lib.hid (B9.out.trans b10)
        clear b10 HT CS W9 B9
        go_wp2_with fail
        go_roundw
        case rel => exact ⟨k + 1, by omega, by go_num, W10.out, B10.out⟩
        case measure => simp [intOf]; omega
      · have hki : ¬ (k : Int) < (n : Int) := by omega
        rw [List.take_of_length_le (by have := hn.out; omega), ← EL.out] at WR
        have B7w : Hid (Below w.heap.size w wi) := B3.out.trans (B.out.mono (by have := B3.out.size; have := hgw.out; omega))
        obtain ⟨F7, h1, _, _⟩ := WR.out.ex
        have HBy := Lib.hid (wrBytes_any h1 (by omega))
        have FO7 := Lib.hid (four_ext FO3.out (by rw [← hgw.out]; exact B.out))
        clear h1 WR
        go_wp2_with fail
        refine HBy.out.mono ?_
        rintro e w8 ⟨v8, rfl, o8, b8⟩
        obtain ⟨A8, c8, rfl, ba8⟩ := own_bytes o8 rfl
        have HS := Lib.hid (seal_any (plainM m) w8 A8 _ c8 ba8 (by omega) (four_ext FO7.out b8))
        have B8 := Lib.hid (B7w.out.trans (b8.mono B7w.out.size))
        clear o8 b8 ba8 HBy
        go_wp2_with fail
        refine HS.out.mono ?_
        rintro e w9 ⟨v9, rfl, o9, b9⟩
        have B9 := Lib.hid (B8.out.trans (b9.mono B8.out.size))
        have O9 := Lib.hid (own_mono' o9 B8.out.size)
        clear o9 b9 HS
        go_wp2
        refine bodyPost_ret (v := .tuple #[v9, .int .i64 0]) ?_ rfl ⟨fun _ => ⟨v9, rfl, O9.out, B9.out⟩, fun h => (by rw [hg.out] at h; cases h)⟩
        simp [results, Tryz.results19, go_sem]
end Go.Proofs.YtdafiipedlglpaaGreatDoor
