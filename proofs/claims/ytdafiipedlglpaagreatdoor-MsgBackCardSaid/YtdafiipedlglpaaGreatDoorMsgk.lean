/- The document's bytes; a vector is read: walked. -/
import Derived.Test.YtdafiipedlglpaaGreatDoorMsgj
import Derived.Test.YtdafiipedlglpaaGreatDoorCrcs
import Derived.Test.YtdafiipedlglpaaGreatDoorPcds
namespace Go.Proofs.YtdafiipedlglpaaGreatDoor
open Go.RowKit

set_option maxRecDepth 100000 in
set_option maxHeartbeats 8000000 in
theorem rbytes34_any (m : MsgV) (hg : goodM m = true) (w : World) (cs : List Value) (h : MsgAt w cs m) (hF : FourOk w) : Calls Tryz.prog 20 #[.agg cs.toArray] w (OwnedRet w 5 1 (sealB (plainM m)).length (encB (sealB (plainM m)))) := by
  have hPL := plainM_len h.ok hg
  have KB : Hid (Blk (w.alloc (.cells cs.toArray 30)) w.heap.size 30 cs.toArray) := Blk.new _ _ _
  have B0 : Hid (Below w.heap.size w (w.alloc (.cells cs.toArray 30))) := below_new _ _
  have HP := Lib.hid (rplain_any m hg _ cs (h.ext B0.out))
  have FO := Lib.hid (four_ext hF B0.out)
  have h72 : Hid ((Tryz.prog.info? 30).map (·.size) = some cs.toArray.size) := by
    obtain ⟨A, c, e, _⟩ := h.ex
    rw [Hid, List.size_toArray, e, msgC_len h.ok]
    kernel_rfl
  clear h hF
  go_enter Tryz.func20, Tryz.ntmps20
  go_upto_region 1 with fail
  generalize (w.alloc (.cells cs.toArray 30)) = w2 at *
  generalize cs.toArray = ca at *
  obtain ⟨gm, hgm⟩ : ∃ g, g = w.heap.size := ⟨_, rfl⟩
  rw [← hgm] at KB ⊢
  replace hgm := Lib.hid hgm
  go_wp2_with (refine wpList_load_row rfl 30 _ (by rfl) gm (by rfl) _ _ _ _ KB.out underMsg rfl h72.out ?_)
  refine HP.out.mono ?_
  rintro e w3 ⟨v3, rfl, o3, b3⟩
  have B3 := Lib.hid (B0.out.trans (b3.mono B0.out.size))
  obtain ⟨A3, c3, rfl, ba3⟩ := own_bytes o3 rfl
  have HS := Lib.hid (rseal05_any (plainM m) w3 A3 _ c3 ba3 (by omega))
  clear o3 ba3 b3 HP KB B0 h72
  go_wp2_with fail
  refine HS.out.mono ?_
  rintro e w4 ⟨v4, rfl, o4, b4⟩
  have B4 := Lib.hid (B3.out.trans (b4.mono B3.out.size))
  have O4 := Lib.hid (own_mono' o4 B3.out.size)
  clear o4 b4 HS
  go_wp2
  go_ret
  exact ⟨_, rfl, O4.out, B4.out⟩
/-- a vector is read -/
def vecRd : Rd (List (Nat × Nat)) := bindR (rNum 64) pairsRd
theorem pairsRd_stop {n e : Nat} {l : List UInt8} (h : n = 0 ∨ e ≠ 0) : pairsRd n l e = ([], l, e) := by
  cases n with
  | zero => rfl
  | succ n =>
    unfold pairsRd
    rw [if_pos (h.elim (fun h => by omega) id)]
theorem pairsRd_go {n : Nat} {l : List UInt8} : pairsRd (n + 1) l 0 = (((rByte 64 l 0).1, (rNum 60000 (rByte 64 l 0).2.1 (rByte 64 l 0).2.2).1) :: (pairsRd n (rNum 60000 (rByte 64 l 0).2.1 (rByte 64 l 0).2.2).2.1 (rNum 60000 (rByte 64 l 0).2.1 (rByte 64 l 0).2.2).2.2).1, (pairsRd n (rNum 60000 (rByte 64 l 0).2.1 (rByte 64 l 0).2.2).2.1 (rNum 60000 (rByte 64 l 0).2.1 (rByte 64 l 0).2.2).2.2).2) := rfl
theorem vecOk_set {v : List Int} (h : VecOk v) {x : Int} (h0 : 0 ≤ x) (h1 : x ≤ 65535) (i : Nat) : VecOk (v.set i x) :=
  ⟨by rw [List.length_set]; exact h.len, fun n hn => by
    rcases List.mem_or_eq_of_mem_set hn with h2 | h2
    · exact h.bd n h2
    · rw [h2]; exact ⟨h0, h1⟩⟩
theorem vecK_set (v : List Int) (i : Nat) (x : Int) : vecK (v.set i x) = (vecK v).set i (.int .u16 x) := by unfold vecK; rw [List.map_set]
theorem vecK_one (v : List Int) : (vecK v).toArray.all (·.oneCell') = true := all_oneCell_toArray fun u hu => by
  obtain ⟨x, _, rfl⟩ := List.mem_map.1 hu
  rfl
theorem vecK_size {v : List Int} (h : VecOk v) : (vecK v).toArray.size = 64 := by rw [List.size_toArray, vecK_len h]
theorem sub8_run {a q : Nat} (hq : a = q + 1) (h : a ≤ 255) (w : World) : (binOp .sub 5 (.int .u8 (a : Int)) (.int .u8 1)).run Tryz.prog w = .ok (.int .u8 (q : Int)) w := by
  have e : IntKind.u8.wrap ((a : Int) - 1) = (q : Int) := by rw [IntKind.wrap_u8]; omega
  simp [go_sem, e]
theorem index8_run (g : Nat) {i : Nat} (hi : i < 64) (w : World) : (Instr.indexAt 24 (.pointer (some ⟨g, 0, none⟩)) (.int .u8 ((i : Nat) : Int))).run Tryz.prog w = .ok (.pointer (some ⟨g, i, none⟩)) w := by
  have h0 : (0 : Int) ≤ (i : Int) := by omega
  have h1 : (i : Int) < 64 := by omega
  simp [go_sem, h0, h1]
theorem store16_run (g i : Nat) (y : Int) (w : World) {u : Value} (h : w.cell? ⟨g, i, none⟩ = some u) (hf : w.frozen? ⟨g, i, none⟩ = false) : (Instr.storeAt 22 (.pointer (some ⟨g, i, none⟩)) (.int .u16 y)).run Tryz.prog w = .ok () (w.setCell ⟨g, i, none⟩ (.int .u16 y)) := by simp [go_sem, h, hf]
def VecRet (w : World) (B g : Nat) (r : List (Nat × Nat) × List UInt8 × Nat) (en : Ending) (w' : World) : Prop :=
  ∃ v fine, en = .returned (.tuple #[.agg (vecK v).toArray, .bool fine]) ∧ VecOk v ∧ Kept (fun k => k = g) w w' ∧ RdAt w' B g r.2.1 r.2.2 ∧ (r.2.2 = 0 → v = (foldP r.1).v ∧ fine = (foldP r.1).fine)
set_option maxRecDepth 100000 in
set_option maxHeartbeats 8000000 in
theorem readVec_any {w : World} {B g e0 : Nat} {l : List UInt8} (h : RdAt w B g l e0) : Calls Tryz.prog 87 #[.pointer (some ⟨g, 0, none⟩)] w (VecRet w B g (vecRd l e0)) := by
  have hg : g < w.heap.size := by obtain ⟨_, _, h1, _⟩ := h.ex; exact h1.lt
  have hBg := h.ge
  have KR1 : Hid (Blk (w.alloc (.cells (vecK vec0).toArray 24)) w.heap.size 24 (vecK vec0).toArray) := Blk.new _ _ _
  have B1 : Hid (Below w.heap.size w (w.alloc (.cells (vecK vec0).toArray 24))) := below_new _ _
  have H1 := Lib.hid (h.ext B1.out)
  have AL : Hid (∀ u : World, (Instr.alloc 24 true (.tuple #[])).run Tryz.prog u = .ok (.pointer (some ⟨u.heap.size, 0, none⟩)) (u.alloc (.cells (vecK vec0).toArray 24))) := fun u => alloc64 u
  have hv0 := Lib.hid vec0_ok
  clear h
  go_enter Tryz.func87, Tryz.ntmps87
  go_upto_region 1 with (refine wpList_alloced (AL.out _) ?_)
  generalize (w.alloc (.cells (vecK vec0).toArray 24)) = w1 at *
  obtain ⟨gr, hgr⟩ : ∃ gr, gr = w.heap.size := ⟨_, rfl⟩
  rw [← hgr] at KR1 hg ⊢
  have KV2 : Hid (Blk (w1.alloc (.cells (vecK vec0).toArray 24)) w1.heap.size 24 (vecK vec0).toArray) := Blk.new _ _ _
  have B2 : Hid (Below w1.heap.size w1 (w1.alloc (.cells (vecK vec0).toArray 24))) := below_new _ _
  go_upto_region 2 with (refine wpList_alloced (AL.out _) ?_)
  generalize (w1.alloc (.cells (vecK vec0).toArray 24)) = w2 at *
  have KR2 := Lib.hid (KR1.out.ext B2.out)
  have R2 := Lib.hid (H1.out.ext B2.out)
  have KW2 : Hid (Kept (fun k => k = g) w w2) := (Kept.of_below B1.out).then B2.out
  have hgv : gr < w1.heap.size := KR1.out.lt
  obtain ⟨gv, hgve⟩ : ∃ gv, gv = w1.heap.size := ⟨_, rfl⟩
  rw [← hgve] at KV2 hgv ⊢
  replace hgr := Lib.hid hgr
  clear hgve H1 B1 B2 KR1 AL
  go_wp2_with fail
  refine (rdNum_any R2.out 64).mono ?_
  rintro e w3 ⟨rfl, kp, R⟩
  have hnl := rNum_le 64 l e0
  obtain ⟨n0, l1, e1, hB1⟩ : ∃ x y z, rNum 64 l e0 = (x, y, z) := ⟨_, _, _, rfl⟩
  have hrd : Hid (vecRd l e0 = pairsRd n0 l1 e1) := by
    rw [Hid]
    unfold vecRd bindR
    rw [hB1]
  rw [hB1] at hnl R ⊢
  dsimp only at hnl R ⊢
  clear hB1
  have R3 := Lib.hid R
  have KW3 : Hid (Kept (fun k => k = g) w w3) := KW2.out.trans kp fun _ e => .inl e
  have KR3 := Lib.hid (KR2.out.keep (kp.block gr KR2.out.lt (by omega)))
  have KV3 := Lib.hid (KV2.out.keep (kp.block gv KV2.out.lt (by omega)))
  clear kp R R2 KW2 KR2 KV2
  go_wp2_with fail
  go_loopw [5, 6, 7] (fun fv lv nv wr => ∃ (n : Nat) (s : VSt) (l' : List UInt8) (e' : Nat) (done : List (Nat × Nat)), fv = .bool s.fine ∧ lv = .int .u8 ((s.last : Nat) : Int) ∧ nv = .int .u64 ((n : Nat) : Int) ∧ n ≤ 64 ∧ s.last ≤ 64 ∧ Hid (VecOk s.v) ∧ Hid ((pairsRd n l' e').2 = (pairsRd n0 l1 e1).2) ∧ Hid ((pairsRd n0 l1 e1).2.2 = 0 → (pairsRd n0 l1 e1).1 = done ++ (pairsRd n l' e').1 ∧ s = foldP done) ∧ Hid (RdAt wr B g l' e') ∧ Hid (Blk wr gv 24 (vecK s.v).toArray) ∧ Hid (Blk wr gr 24 (vecK vec0).toArray) ∧ Hid (Kept (fun k => k = g) w wr)) (fun _ _ nv _ => (intOf nv).toNat)
  case atStart => exact ⟨n0, ⟨vec0, 0, true⟩, l1, e1, [], rfl, rfl, rfl, hnl, Nat.zero_le _, hv0.out, rfl, fun _ => ⟨rfl, rfl⟩, R3.out, KV3.out, KR3.out, KW3.out⟩
  case round =>
    clear R3 KV3 KR3 KW3
    obtain ⟨n, s, l', e', done, rfl, rfl, rfl, hn, hs, VO, HD, HS, RD, KV, KR, KW⟩ := hrel
    have hn0 : (0 : Int) ≤ (n : Int) := by omega
    have HE := Lib.hid (rdErr_any RD.out)
    by_cases hgo : 0 < n ∧ e' = 0
    · obtain ⟨hnp, he⟩ := hgo
      have hmi : (0 : Int) < (n : Int) := by omega
      have hm1 : (1 : Int) ≤ (n : Int) := by omega
      have hmb : (n : Int) ≤ 64 := by omega
      have hz : ((e' : Int) == 0) = true := by rw [he]; rfl
      obtain ⟨m, rfl⟩ : ∃ m, n = m + 1 := ⟨n - 1, by omega⟩
      have hm2 : ((m + 1 : Nat) : Int) - 1 = (m : Int) := by omega
      have HDS : Hid (((pairsRd m (rNum 60000 (rByte 64 l' e').2.1 (rByte 64 l' e').2.2).2.1 (rNum 60000 (rByte 64 l' e').2.1 (rByte 64 l' e').2.2).2.2).2 = (pairsRd n0 l1 e1).2) ∧ ((pairsRd n0 l1 e1).2.2 = 0 → (pairsRd n0 l1 e1).1 = (done ++ [((rByte 64 l' e').1, (rNum 60000 (rByte 64 l' e').2.1 (rByte 64 l' e').2.2).1)]) ++ (pairsRd m (rNum 60000 (rByte 64 l' e').2.1 (rByte 64 l' e').2.2).2.1 (rNum 60000 (rByte 64 l' e').2.1 (rByte 64 l' e').2.2).2.2).1 ∧ s = foldP done)) := by
        have h1 := HD.out
        have h2 := HS.out
        subst he
        rw [pairsRd_go] at h1 h2
        refine ⟨h1, fun h => ?_⟩
        obtain ⟨h3, h4⟩ := h2 h
        rw [h3, List.append_assoc]
        exact ⟨rfl, h4⟩
      have hal := rByte_le 64 l' e'
      have HB := Lib.hid (rdByte_any RD.out 64)
      clear HD HS he
      go_wp2_with fail
      refine HE.out.mono ?_
      rintro e _ ⟨rfl, rfl⟩
      go_wp2_with fail
      refine HB.out.mono ?_
      rintro e w4 ⟨rfl, kp, R⟩
      obtain ⟨a, l2, e2, hB1⟩ : ∃ x y z, rByte 64 l' e' = (x, y, z) := ⟨_, _, _, rfl⟩
      rw [hB1] at hal R HDS ⊢
      dsimp only at hal R HDS ⊢
      clear hB1 HB HE
      have R4 := Lib.hid R
      have KW4 : Hid (Kept (fun k => k = g) w w4) := KW.out.trans kp fun _ e => .inl e
      have KR4 := Lib.hid (KR.out.keep (kp.block gr KR.out.lt (by omega)))
      have KV4 := Lib.hid (KV.out.keep (kp.block gv KV.out.lt (by omega)))
      clear kp R RD KW KR KV
      have hkl := rNum_le 60000 l2 e2
      have HN := Lib.hid (rdNum_any R4.out 60000)
      go_wp2_with fail
      refine HN.out.mono ?_
      rintro e w5 ⟨rfl, kp, R⟩
      obtain ⟨k, l3, e3, hB1⟩ : ∃ x y z, rNum 60000 l2 e2 = (x, y, z) := ⟨_, _, _, rfl⟩
      rw [hB1] at hkl R HDS ⊢
      dsimp only at hkl R HDS ⊢
      clear hB1 HN
      have R5 := Lib.hid R
      have KW5 : Hid (Kept (fun k => k = g) w w5) := KW4.out.trans kp fun _ e => .inl e
      have KR5 := Lib.hid (KR4.out.keep (kp.block gr KR4.out.lt (by omega)))
      have KV5 := Lib.hid (KV4.out.keep (kp.block gv KV4.out.lt (by omega)))
      clear kp R R4 KW4 KR4 KV4
      have HE5 := Lib.hid (rdErr_any R5.out)
      have ha0 : (0 : Int) ≤ (a : Int) := by omega
      have hk0 : (0 : Int) ≤ (k : Int) := by omega
      have hs0 : (0 : Int) ≤ (s.last : Int) := by omega
      have HSN : Hid ((pairsRd n0 l1 e1).2.2 = 0 → (pairsRd n0 l1 e1).1 = (done ++ [(a, k)]) ++ (pairsRd m l3 e3).1 ∧ stepP s (a, k) = foldP (done ++ [(a, k)])) := fun h => by
        obtain ⟨h3, h4⟩ := HDS.out.2 h
        exact ⟨h3, by rw [foldP_snoc, h4]⟩
      have HEZ : Hid (e3 ≠ 0 → (pairsRd n0 l1 e1).2.2 ≠ 0) := fun h => by
        rw [← HDS.out.1, pairsRd_stop (.inr h)]
        exact h
      have HDN : Hid ((pairsRd m l3 e3).2 = (pairsRd n0 l1 e1).2) := HDS.out.1
      clear HDS
      go_wp2_with fail
      refine HE5.out.mono ?_
      rintro e _ ⟨rfl, rfl⟩
      by_cases hbad : e3 ≠ 0 ∨ a ≤ s.last ∨ k = 0
      · have HF : Hid ((pairsRd n0 l1 e1).2.2 = 0 → (pairsRd n0 l1 e1).1 = (done ++ [(a, k)]) ++ (pairsRd m l3 e3).1 ∧ (⟨s.v, s.last, false⟩ : VSt) = foldP (done ++ [(a, k)])) := fun h => by
          obtain ⟨h3, h4⟩ := HSN.out h
          refine ⟨h3, ?_⟩
          rw [← h4]
          unfold stepP
          rw [if_pos (hbad.resolve_left fun h1 => HEZ.out h1 h)]
        clear HSN
        rcases Nat.eq_zero_or_pos e3 with h3 | h3
        · have z3 : ((e3 : Int) != 0) = false := by rw [h3]; rfl
          have hbad2 : a ≤ s.last ∨ k = 0 := hbad.resolve_left fun h => h h3
          clear hbad
          by_cases h4 : a ≤ s.last
          · have z4 : (a : Int) ≤ (s.last : Int) := by omega
            clear hbad2 h3
            go_wp2_with fail
            go_roundw
            case rel => exact ⟨m, ⟨s.v, s.last, false⟩, l3, e3, done ++ [(a, k)], rfl, rfl, by go_num, by omega, hs, VO.out, HDN.out, HF.out, R5.out, KV5.out, KR5.out, KW5.out⟩
            case measure => simp [intOf]
          · have z4 : ¬ (a : Int) ≤ (s.last : Int) := by omega
            have z5 : ((k : Int) == 0) = true := by have := hbad2.resolve_left h4; rw [beq_iff_eq]; omega
            clear hbad2 h3
            go_wp2_with fail
            go_roundw
            case rel => exact ⟨m, ⟨s.v, s.last, false⟩, l3, e3, done ++ [(a, k)], rfl, rfl, by go_num, by omega, hs, VO.out, HDN.out, HF.out, R5.out, KV5.out, KR5.out, KW5.out⟩
            case measure => simp [intOf]
        · have z3 : ((e3 : Int) != 0) = true := by rw [bne_iff_ne]; omega
          clear hbad h3
          go_wp2_with fail
          go_roundw
          case rel => exact ⟨m, ⟨s.v, s.last, false⟩, l3, e3, done ++ [(a, k)], rfl, rfl, by go_num, by omega, hs, VO.out, HDN.out, HF.out, R5.out, KV5.out, KR5.out, KW5.out⟩
          case measure => simp [intOf]
      · have hb3 : ¬ (a ≤ s.last ∨ k = 0) := fun h => hbad (.inr h)
        have z3 : ((e3 : Int) != 0) = false := by
          have : e3 = 0 := by omega
          rw [this]; rfl
        have z4 : ¬ (a : Int) ≤ (s.last : Int) := by omega
        have z5 : ((k : Int) == 0) = false := by rw [beq_eq_false_iff_ne]; omega
        obtain ⟨q, hq⟩ : ∃ q, a = q + 1 := ⟨a - 1, by omega⟩
        have hq64 : q < 64 := by omega
        have HF : Hid ((pairsRd n0 l1 e1).2.2 = 0 → (pairsRd n0 l1 e1).1 = (done ++ [(a, k)]) ++ (pairsRd m l3 e3).1 ∧ (⟨s.v.set q (k : Int), a, s.fine⟩ : VSt) = foldP (done ++ [(a, k)])) := fun h => by
          obtain ⟨h3, h4⟩ := HSN.out h
          refine ⟨h3, ?_⟩
          rw [← h4]
          unfold stepP
          rw [if_neg hb3]
          have : a - 1 = q := by omega
          rw [this]
        have S8 := Lib.hid (fun u => sub8_run hq (by omega) u)
        have C16 := Lib.hid (fun u => low16_run (n := k) (by omega) u)
        have I8 := Lib.hid (fun u => index8_run gv hq64 u)
        have ST := Lib.hid (store16_run gv q (k : Int) w5 ((KV5.out.cell q).trans (by rw [List.getElem?_toArray]; exact vecK_get VO.out hq64)) (KV5.out.fr q))
        have kp2 : Kept (fun k => k = gv) w5 (w5.setCell ⟨gv, q, none⟩ (.int .u16 (k : Int))) := (Kept.refl (fun k => k = gv) w5).setCell (p := ⟨gv, q, none⟩) (.inl rfl) _
        have KV6 : Hid (Blk (w5.setCell ⟨gv, q, none⟩ (.int .u16 (k : Int))) gv 24 (vecK (s.v.set q (k : Int))).toArray) := by
          have h1 := KV5.out.set_ q (.int .u16 (k : Int))
          rw [Hid, vecK_set, ← List.setIfInBounds_toArray]
          exact h1
        have R6 : Hid (RdAt (w5.setCell ⟨gv, q, none⟩ (.int .u16 (k : Int))) B g l3 e3) := R5.out.keepB kp2 (by omega) (by omega)
        have KR6 := Lib.hid (KR5.out.keep (kp2.block gr KR5.out.lt (by omega)))
        have KW6 : Hid (Kept (fun k => k = g) w (w5.setCell ⟨gv, q, none⟩ (.int .u16 (k : Int)))) := KW5.out.trans kp2 fun x e => .inr (by rw [e]; have := hgr.out; omega)
        have VO6 := Lib.hid (vecOk_set VO.out hk0 (by omega : (k : Int) ≤ 65535) q)
        clear kp2 hbad hb3 HSN HEZ KV5 KR5 KW5 R5 VO
        generalize (w5.setCell ⟨gv, q, none⟩ (.int .u16 (k : Int))) = w6 at *
        clear hq hq64
        go_wp2_with (first
          | ((with_reducible refine wpList_comp ?_ ?_ ?_ (S8.out _) ?_); rfl; rfl; rfl)
          | ((with_reducible refine wpList_convB ?_ (C16.out _) ?_); rfl)
          | ((with_reducible refine wpList_idx ?_ ?_ (I8.out _) ?_); rfl; rfl)
          | ((with_reducible refine wpList_st ?_ ?_ ST.out ?_); rfl; rfl))
        go_roundw
        case rel => exact ⟨m, ⟨s.v.set q (k : Int), a, s.fine⟩, l3, e3, done ++ [(a, k)], rfl, rfl, by go_num, by omega, hal, VO6.out, HDN.out, HF.out, R6.out, KV6.out, KR6.out, KW6.out⟩
        case measure => simp [intOf]
    · have hps : pairsRd n l' e' = ([], l', e') := pairsRd_stop (by omega)
      have HDF : Hid ((vecRd l e0).2 = (l', e')) := by rw [Hid, hrd.out, ← HD.out, hps]
      have HSF : Hid ((vecRd l e0).2.2 = 0 → s = foldP (vecRd l e0).1) := fun h => by
        have h2 := HS.out
        rw [hps, ← hrd.out] at h2
        obtain ⟨h3, h4⟩ := h2 h
        rw [h3, List.append_nil]
        exact h4
      have hs64 := Lib.hid (vecK_size VO.out)
      have hz64 := Lib.hid (vecK_size hv0.out)
      have h1 := Lib.hid (vecK_one s.v)
      have kp3 : Kept (fun k => k = gr) wr (wr.setRow gr (vecK s.v).toArray) := kept_row (fun k => k = gr) wr rfl _
      have KRF : Hid (Blk (wr.setRow gr (vecK s.v).toArray) gr 24 (vecK s.v).toArray) := KR.out.row _
      have RF : Hid (RdAt (wr.setRow gr (vecK s.v).toArray) B g l' e') := RD.out.keepB kp3 (by omega) (by omega)
      have KWF : Hid (Kept (fun k => k = g) w (wr.setRow gr (vecK s.v).toArray)) := KW.out.trans kp3 fun x e => .inr (by rw [e]; have := hgr.out; omega)
      have FIN : Hid (∀ x, x = Value.bool s.fine → VecRet w B g (vecRd l e0) (.returned (.tuple #[.agg (vecK s.v).toArray, x])) (wr.setRow gr (vecK s.v).toArray)) := fun x hx => by
        subst hx
        refine ⟨s.v, s.fine, rfl, VO.out, KWF.out, ?_, fun h => ?_⟩
        · rw [HDF.out]; exact RF.out
        · rw [← HSF.out h]; exact ⟨rfl, rfl⟩
      clear HDF HSF HD HS kp3 RF KWF hps KW RD
      by_cases hmz : n = 0
      · have hmi : ¬ (0 : Int) < (n : Int) := by omega
        clear hgo
        go_wp2_with (first
          | (refine wpList_load_row rfl 24 _ (by rfl) gv (by rfl) _ _ _ _ KV.out under64 rfl (by rw [hs64.out]; exact info64) ?_)
          | (refine wpList_store_row rfl 24 _ _ (by rfl) gr (vecK s.v).toArray (by rfl) (by rfl) _ _ KR.out (by rw [hs64.out]; exact info64) (by rw [hs64.out, hz64.out]) h1.out ?_))
        exact bodyPost_ret (results_row_tmp rfl _ _ gr _ (vecK s.v).toArray _ rfl KRF.out under64 rfl (by rw [hs64.out]; exact info64)) rfl (FIN.out _ rfl)
      · have hmi : (0 : Int) < (n : Int) := by omega
        have hz : ((e' : Int) == 0) = false := by rw [beq_eq_false_iff_ne]; omega
        clear hgo hmz
        go_wp2_with fail
        refine HE.out.mono ?_
        rintro e _ ⟨rfl, rfl⟩
        go_wp2_with (first
          | (refine wpList_load_row rfl 24 _ (by rfl) gv (by rfl) _ _ _ _ KV.out under64 rfl (by rw [hs64.out]; exact info64) ?_)
          | (refine wpList_store_row rfl 24 _ _ (by rfl) gr (vecK s.v).toArray (by rfl) (by rfl) _ _ KR.out (by rw [hs64.out]; exact info64) (by rw [hs64.out, hz64.out]) h1.out ?_))
        exact bodyPost_ret (results_row_tmp rfl _ _ gr _ (vecK s.v).toArray _ rfl KRF.out under64 rfl (by rw [hs64.out]; exact info64)) rfl (FIN.out _ rfl)
end Go.Proofs.YtdafiipedlglpaaGreatDoor
