/- A message is decoded by the document: walked. -/
import Derived.Test.YtdafiipedlglpaaGreatDoorMsgm
import Derived.Test.YtdafiipedlglpaaGreatDoorFarb
namespace Go.Proofs.YtdafiipedlglpaaGreatDoor
open Go.RowKit

theorem raw_k (k f t x : Nat) (v : List Int) (bl : List Nat) (A : Option Addr) (n c : Nat) : (rawC k f t v bl A n c).toArray.setIfInBounds 0 (.int .u8 (x : Int)) = (rawC x f t v bl A n c).toArray := by rw [List.setIfInBounds_toArray]; rfl
theorem raw_f (k f t x : Nat) (v : List Int) (bl : List Nat) (A : Option Addr) (n c : Nat) : (rawC k f t v bl A n c).toArray.setIfInBounds 1 (.int .u8 (x : Int)) = (rawC k x t v bl A n c).toArray := by rw [List.setIfInBounds_toArray]; rfl
theorem raw_t (k f t x : Nat) (v : List Int) (bl : List Nat) (A : Option Addr) (n c : Nat) : (rawC k f t v bl A n c).toArray.setIfInBounds 2 (.int .u8 (x : Int)) = (rawC k f x v bl A n c).toArray := by rw [List.setIfInBounds_toArray]; rfl
theorem raw_v {k f t : Nat} {v : List Int} (hv : VecOk v) (bl : List Nat) {q : Nat} (hq : q < 64) (x : Int) (A : Option Addr) (n c : Nat) : (rawC k f t v bl A n c).toArray.setIfInBounds (3 + q) (.int .u16 x) = (rawC k f t (v.set q x) bl A n c).toArray := by
  have e : ∀ u, rawC k f t u bl A n c = ([.int .u8 (k : Int), .int .u8 (f : Int), .int .u8 (t : Int)] : List Value) ++ (vecK u ++ (encBl bl ++ [.slice A n c])) := fun u => by unfold rawC; simp
  rw [List.setIfInBounds_toArray, e, e, List.set_append_right _ _ (by simp), vecK_set]
  show (([.int .u8 (k : Int), .int .u8 (f : Int), .int .u8 (t : Int)] : List Value) ++ (vecK v ++ (encBl bl ++ [Value.slice A n c])).set (3 + q - 3) (.int .u16 x)).toArray = _
  rw [Nat.add_sub_cancel_left, List.set_append_left _ _ (by rw [vecK_len hv]; omega)]
theorem raw_vAt {k f t : Nat} {v : List Int} (hv : VecOk v) (bl : List Nat) {q : Nat} (hq : q < 64) (A : Option Addr) (n c : Nat) : ∃ u, (rawC k f t v bl A n c).toArray[3 + q]? = some u := by
  have hl : 67 ≤ (rawC k f t v bl A n c).length := by
    unfold rawC
    simp only [List.length_cons, List.length_append, vecK_len hv, List.length_nil]
    omega
  exact ⟨_, by rw [List.getElem?_toArray]; exact List.getElem?_eq_getElem (by omega)⟩
theorem idx3v (g : Nat) {i : Nat} (hi : i < 64) (w : World) : (Instr.indexAt 24 (.pointer (some ⟨g, 3, none⟩)) (.int .i64 ((i : Nat) : Int))).run Tryz.prog w = .ok (.pointer (some ⟨g, 3 + i, none⟩)) w := by
  have h0 : (0 : Int) ≤ (i : Int) := by omega
  have h1 : (i : Int) < 64 := by omega
  simp [go_sem, h0, h1]
theorem conv8i {a : Nat} (h : a ≤ 255) (w : World) : (convert 5 3 (.int .u8 (a : Int))).run Tryz.prog w = .ok (.int .i64 (a : Int)) w := by
  have e : IntKind.i64.wrap (a : Int) = (a : Int) := by rw [IntKind.wrap_i64]; omega
  simp [go_sem, e]
theorem subI1 {a q : Nat} (h : a = q + 1) (hq : q ≤ 1000) (w : World) : (binOp .sub 3 (.int .i64 (a : Int)) (.int .i64 1)).run Tryz.prog w = .ok (.int .i64 (q : Int)) w := by
  have e : IntKind.i64.wrap ((a : Int) - 1) = (q : Int) := by rw [IntKind.wrap_i64]; omega
  simp [go_sem, e]
theorem dec_fold {l : List UInt8} {X : Nat} {ps : List (Nat × Nat)} {s : VSt} {KK : Fin 256 × Fin 256 × Fin 256} {bl : List Nat} {pats : List PatV} (h : decM l = if X ≠ 0 then (zeroM, X) else if (foldP ps).fine = true ∧ goodM (KK, (foldP ps).v, bl, pats) = true then ((KK, (foldP ps).v, bl, pats), 0) else (zeroM, 4)) (hs : X = 0 → s = foldR ps) :
    decM l = if X ≠ 0 then (zeroM, X) else if s.fine = true ∧ goodM (KK, s.v, bl, pats) = true then ((KK, s.v, bl, pats), 0) else (zeroM, 4) := by
  rw [h]
  by_cases hX : X = 0
  · rw [if_neg (show ¬ X ≠ 0 from fun h => h hX), if_neg (show ¬ X ≠ 0 from fun h => h hX), hs hX]
    obtain ⟨f1, f2⟩ := fold_same ps
    cases hf : (foldP ps).fine
    · rw [hf] at f1
      rw [← f1, if_neg (fun h => by cases h.1), if_neg (fun h => by cases h.1)]
    · have f3 := (f2 hf).1
      rw [hf] at f1
      rw [← f1, ← f3]
  · rw [if_pos hX, if_pos hX]
theorem RrAt.cell1 {w : World} {B g e : Nat} {l : List UInt8} (h : RrAt w B g l e) : w.cell? ⟨g, 1, none⟩ = some (.int .i64 (e : Int)) ∧ w.frozen? ⟨g, 1, none⟩ = false := by
  obtain ⟨A, c, h1, _⟩ := h.ex
  exact ⟨h1.cell 1, h1.fr 1⟩
theorem RrAt.fail {w : World} {B g e : Nat} {l : List UInt8} (h : RrAt w B g l e) (e2 : Nat) : Kept (fun k => k = g) w (w.setCell ⟨g, 1, none⟩ (.int .i64 (e2 : Int))) ∧ RrAt (w.setCell ⟨g, 1, none⟩ (.int .i64 (e2 : Int))) B g l e2 := by
  obtain ⟨A, c, h1, h2, h3, h4⟩ := h.ex
  exact rr_fail h.ge h1 h2 h3 h4 e2
set_option maxRecDepth 100000 in
set_option maxHeartbeats 8000000 in
theorem rdecM_any (l : List UInt8) (w : World) (A : Option Addr) (n c : Nat) (h : BytesAt w A n c l) (hm : n ≤ 10000000) : Calls Tryz.prog 23 #[.slice A n c] w (DecRet w l) := by
  obtain ⟨Z, hZ⟩ : ∃ Z, Z = rawC 0 0 0 vec0 zeroBl none 0 0 := ⟨_, rfl⟩
  have KR1 : Hid (Blk (w.alloc (.cells Z.toArray 30)) w.heap.size 30 Z.toArray) := Blk.new _ _ _
  have B1 : Hid (Below w.heap.size w (w.alloc (.cells Z.toArray 30))) := below_new _ _
  have AL : Hid (∀ u : World, (Instr.alloc 30 true (.tuple #[])).run Tryz.prog u = .ok (.pointer (some ⟨u.heap.size, 0, none⟩)) (u.alloc (.cells Z.toArray 30))) := by rw [Hid, hZ]; exact allocMsg
  have ZAT : Hid (∀ u, MsgAt u Z zeroM) := by rw [Hid, hZ]; exact zeroM_at
  have EZ : Hid (Tryz.zeroCells30 = Z.toArray) := by rw [Hid, hZ]; kernel_rfl
  have IZ2 : Hid ((Tryz.prog.info? 30).map (·.size) = some Tryz.zeroCells30.size) := by rw [Hid, EZ.out, hZ, List.size_toArray, rawC_len vec0_ok zeroBl_ok]; exact infoMsg
  have OZ2 : Hid (Tryz.zeroCells30.all (·.oneCell') = true) := by rw [Hid, EZ.out, hZ]; exact rawC_one _ _ _ _ _ _ _ _
  have zl : Hid (Z.length = 72) := by rw [Hid, hZ]; exact rawC_len vec0_ok zeroBl_ok none 0 0
  replace hZ := Lib.hid hZ
  have HB := Lib.hid (h.ext B1.out)
  have HO := Lib.hid (ropen_any l _ A n c HB.out hm)
  clear h HB
  go_enter Tryz.func23, Tryz.ntmps23
  go_upto_region 1 with (refine wpList_alloced (AL.out _) ?_)
  generalize (w.alloc (.cells Z.toArray 30)) = w1 at *
  obtain ⟨gr, hgr⟩ : ∃ gr, gr = w.heap.size := ⟨_, rfl⟩
  rw [← hgr] at KR1 ⊢
  replace hgr := Lib.hid hgr
  go_wp2_with fail
  refine HO.out.mono ?_
  rintro e w2 ⟨v2, rfl, o2, b2⟩
  have KR2 := Lib.hid (KR1.out.ext b2)
  have B2 := Lib.hid (B1.out.trans (b2.mono B1.out.size))
  clear b2 KR1 B1 HO
  rcases Nat.eq_zero_or_pos (openB l).2 with hop | hop
  · obtain ⟨b, hb⟩ : ∃ b, openB l = (b, 0) := ⟨(openB l).1, Prod.ext rfl hop⟩
    have hdm : Hid (decM l = decBody b) := by
      rw [Hid]; unfold decM; rw [hb, if_neg (fun h => h rfl)]
    rw [hb] at o2 ⊢
    dsimp only at o2 ⊢
    obtain ⟨A2, c2, rfl, ba⟩ := own_bytes o2 rfl
    clear o2 hb hop
    have KG : Hid (Blk (w2.alloc (.cells #[.slice A2 b.length c2, .int .i64 0] 146)) w2.heap.size 146 #[.slice A2 b.length c2, .int .i64 0]) := Blk.new _ _ _
    have BG : Hid (Below w2.heap.size w2 (w2.alloc (.cells #[.slice A2 b.length c2, .int .i64 0] 146))) := below_new _ _
    have R3 : Hid (RrAt (w2.alloc (.cells #[.slice A2 b.length c2, .int .i64 0] 146)) w2.heap.size w2.heap.size b 0) := ⟨Nat.le_refl _, A2, c2, KG.out, ba.cap, ba.big, ba.sl.below BG.out (Nat.le_refl _)⟩
    have KR3 := Lib.hid (KR2.out.ext BG.out)
    have B3 := Lib.hid (B2.out.trans (BG.out.mono B2.out.size))
    have hrg : Hid (gr < w2.heap.size) := KR2.out.lt
    clear ba
    go_upto_region 5 with (refine wpList_built (buildRd _ _ _ _) (by rfl) ?_)
    generalize (w2.alloc (.cells #[.slice A2 b.length c2, .int .i64 0] 146)) = w3 at *
    have hgw3 : Hid (w2.heap.size < w3.heap.size) := KG.out.lt
    clear KG BG KR2 B2
    obtain ⟨g, hg⟩ : ∃ g, g = w2.heap.size := ⟨_, rfl⟩
    rw [← hg] at R3 hrg hgw3 ⊢
    clear hg
    obtain ⟨B, hBB⟩ : ∃ B, B = g := ⟨_, rfl⟩
    have R3 : Hid (RrAt w3 B g b 0) := by rw [hBB]; exact R3.out
    replace hBB := Lib.hid hBB
    have KZ : Hid (Blk (w3.alloc (.cells Z.toArray 30)) w3.heap.size 30 Z.toArray) := Blk.new _ _ _
    have KM4 : Hid (Blk ((w3.alloc (.cells Z.toArray 30)).setRow w3.heap.size Tryz.zeroCells30) w3.heap.size 30 Tryz.zeroCells30) := KZ.out.row _
    have BN : Hid (Below w3.heap.size w3 ((w3.alloc (.cells Z.toArray 30)).setRow w3.heap.size Tryz.zeroCells30)) := below_setRow (below_new w3 _) (Nat.le_refl _) _
    go_upto_region 6 with (first
      | (refine wpList_alloced (AL.out _) ?_)
      | (refine wpList_store_row rfl 30 _ _ (by rfl) w3.heap.size Tryz.zeroCells30 (by rfl) (by rfl) _ _ KZ.out IZ2.out (by rw [EZ.out]) OZ2.out ?_))
    generalize ((w3.alloc (.cells Z.toArray 30)).setRow w3.heap.size Tryz.zeroCells30) = w4 at *
    have KM4 : Hid (Blk w4 w3.heap.size 30 (rawC 0 0 0 vec0 zeroBl none 0 0).toArray) := by
      have h1 := KM4.out
      rw [EZ.out, hZ.out] at h1
      exact h1
    have R4 := Lib.hid (R3.out.ext BN.out)
    have B4 := Lib.hid (B3.out.trans (BN.out.mono B3.out.size))
    have KR4 := Lib.hid (KR3.out.ext BN.out)
    have hws : Hid (w.heap.size ≤ w3.heap.size) := B3.out.size
    obtain ⟨gm, hgme⟩ : ∃ gm, gm = w3.heap.size := ⟨_, rfl⟩
    rw [← hgme] at KM4 hgw3 hws ⊢
    have hgs : Hid (gr < g ∧ g < gm ∧ B = g ∧ w.heap.size ≤ gm ∧ gr = w.heap.size) := ⟨hrg.out, hgw3.out, hBB.out, hws.out, hgr.out⟩
    clear BN KZ R3 B3 KR3 hgme hrg hgw3 hws
    have hB1 := Lib.hid (rrByte_any R4.out 2)
    go_wp2_with fail
    refine hB1.out.mono ?_
    rintro e w5 ⟨rfl, kp, R⟩
    have hkl := rByte_le 2 b 0
    obtain ⟨k, l1, e1, hke⟩ : ∃ x y z, rByte 2 b 0 = (x, y, z) := ⟨_, _, _, rfl⟩
    rw [hke] at hkl R ⊢
    dsimp only at hkl R ⊢
    replace hke := Lib.hid hke
    have R5 := Lib.hid R
    have B5 : Hid (Below w.heap.size w w5) := B4.out.trans (kp.below (fun k e => by rw [e]; have := hgs.out; omega) B4.out.size)
    have KR5 := Lib.hid (KR4.out.keep (kp.block gr KR4.out.lt (by have := hgs.out; omega)))
    have KM5 := Lib.hid (KM4.out.keep (kp.block gm KM4.out.lt (by have := hgs.out; omega)))
    clear kp R R4 KR4 B4 KM4 hB1
    have y0 : w5.cell? ⟨gm, 0, none⟩ = some (.int .u8 0) := KM5.out.cell 0
    have f0 : w5.frozen? ⟨gm, 0, none⟩ = false := KM5.out.fr 0
    go_upto_region 7 with fail
    have kp2 : Kept (fun k => k = gm) w5 (w5.setCell ⟨gm, 0, none⟩ (.int .u8 (k : Int))) := (Kept.refl (fun k => k = gm) w5).setCell (p := ⟨gm, 0, none⟩) (.inl rfl) _
    have KM6 : Hid (Blk (w5.setCell ⟨gm, 0, none⟩ (.int .u8 (k : Int))) gm 30 (rawC k 0 0 vec0 zeroBl none 0 0).toArray) := by
      have h1 := KM5.out.set_ 0 (.int .u8 (k : Int))
      rw [raw_k] at h1
      exact h1
    have KR6 := Lib.hid (KR5.out.keep (kp2.block gr KR5.out.lt (by have := hgs.out; omega)))
    have R6 := Lib.hid (R5.out.keepB kp2 (by have := hgs.out; omega) (by have := hgs.out; omega))
    have B6 : Hid (Below w.heap.size w (w5.setCell ⟨gm, 0, none⟩ (.int .u8 (k : Int)))) := B5.out.trans (kp2.below (fun k e => by rw [e]; have := hgs.out; omega) B5.out.size)
    clear kp2 y0 f0 KM5 KR5 R5 B5
    generalize (w5.setCell ⟨gm, 0, none⟩ (.int .u8 (k : Int))) = w6 at *
    have hB2 := Lib.hid (rrByte_any R6.out 64)
    go_wp2_with fail
    refine hB2.out.mono ?_
    rintro e w7 ⟨rfl, kp, R⟩
    have hfl := rByte_le 64 l1 e1
    obtain ⟨f, l2, e2, hfe⟩ : ∃ x y z, rByte 64 l1 e1 = (x, y, z) := ⟨_, _, _, rfl⟩
    rw [hfe] at hfl R ⊢
    dsimp only at hfl R ⊢
    replace hfe := Lib.hid hfe
    have R7 := Lib.hid R
    have B7 : Hid (Below w.heap.size w w7) := B6.out.trans (kp.below (fun k e => by rw [e]; have := hgs.out; omega) B6.out.size)
    have KR7 := Lib.hid (KR6.out.keep (kp.block gr KR6.out.lt (by have := hgs.out; omega)))
    have KM7 := Lib.hid (KM6.out.keep (kp.block gm KM6.out.lt (by have := hgs.out; omega)))
    clear kp R R6 KR6 B6 KM6 hB2
    have y0 : w7.cell? ⟨gm, 1, none⟩ = some (.int .u8 0) := KM7.out.cell 1
    have f0 : w7.frozen? ⟨gm, 1, none⟩ = false := KM7.out.fr 1
    go_upto_region 8 with fail
    have kp2 : Kept (fun k => k = gm) w7 (w7.setCell ⟨gm, 1, none⟩ (.int .u8 (f : Int))) := (Kept.refl (fun k => k = gm) w7).setCell (p := ⟨gm, 1, none⟩) (.inl rfl) _
    have KM8 : Hid (Blk (w7.setCell ⟨gm, 1, none⟩ (.int .u8 (f : Int))) gm 30 (rawC k f 0 vec0 zeroBl none 0 0).toArray) := by
      have h1 := KM7.out.set_ 1 (.int .u8 (f : Int))
      rw [raw_f] at h1
      exact h1
    have KR8 := Lib.hid (KR7.out.keep (kp2.block gr KR7.out.lt (by have := hgs.out; omega)))
    have R8 := Lib.hid (R7.out.keepB kp2 (by have := hgs.out; omega) (by have := hgs.out; omega))
    have B8 : Hid (Below w.heap.size w (w7.setCell ⟨gm, 1, none⟩ (.int .u8 (f : Int)))) := B7.out.trans (kp2.below (fun k e => by rw [e]; have := hgs.out; omega) B7.out.size)
    clear kp2 y0 f0 KM7 KR7 R7 B7
    generalize (w7.setCell ⟨gm, 1, none⟩ (.int .u8 (f : Int))) = w8 at *
    have hB3 := Lib.hid (rrByte_any R8.out 64)
    go_wp2_with fail
    refine hB3.out.mono ?_
    rintro e w9 ⟨rfl, kp, R⟩
    have htl := rByte_le 64 l2 e2
    obtain ⟨t, l3, e3, hte⟩ : ∃ x y z, rByte 64 l2 e2 = (x, y, z) := ⟨_, _, _, rfl⟩
    rw [hte] at htl R ⊢
    dsimp only at htl R ⊢
    replace hte := Lib.hid hte
    have R9 := Lib.hid R
    have B9 : Hid (Below w.heap.size w w9) := B8.out.trans (kp.below (fun k e => by rw [e]; have := hgs.out; omega) B8.out.size)
    have KR9 := Lib.hid (KR8.out.keep (kp.block gr KR8.out.lt (by have := hgs.out; omega)))
    have KM9 := Lib.hid (KM8.out.keep (kp.block gm KM8.out.lt (by have := hgs.out; omega)))
    clear kp R R8 KR8 B8 KM8 hB3
    have y0 : w9.cell? ⟨gm, 2, none⟩ = some (.int .u8 0) := KM9.out.cell 2
    have f0 : w9.frozen? ⟨gm, 2, none⟩ = false := KM9.out.fr 2
    go_upto_region 9 with fail
    have kp2 : Kept (fun k => k = gm) w9 (w9.setCell ⟨gm, 2, none⟩ (.int .u8 (t : Int))) := (Kept.refl (fun k => k = gm) w9).setCell (p := ⟨gm, 2, none⟩) (.inl rfl) _
    have KM10 : Hid (Blk (w9.setCell ⟨gm, 2, none⟩ (.int .u8 (t : Int))) gm 30 (rawC k f t vec0 zeroBl none 0 0).toArray) := by
      have h1 := KM9.out.set_ 2 (.int .u8 (t : Int))
      rw [raw_t] at h1
      exact h1
    have KR10 := Lib.hid (KR9.out.keep (kp2.block gr KR9.out.lt (by have := hgs.out; omega)))
    have R10 := Lib.hid (R9.out.keepB kp2 (by have := hgs.out; omega) (by have := hgs.out; omega))
    have B10 : Hid (Below w.heap.size w (w9.setCell ⟨gm, 2, none⟩ (.int .u8 (t : Int)))) := B9.out.trans (kp2.below (fun k e => by rw [e]; have := hgs.out; omega) B9.out.size)
    clear kp2 y0 f0 KM9 KR9 R9 B9
    generalize (w9.setCell ⟨gm, 2, none⟩ (.int .u8 (t : Int))) = w10 at *
    have hN9 := Lib.hid (rrNum_any R10.out 64)
    have hnl := rNum_le 64 l3 e3
    obtain ⟨n0, l0, e0, hB9⟩ : ∃ x y z, rNum 64 l3 e3 = (x, y, z) := ⟨_, _, _, rfl⟩
    have hrd : Hid (vecRd l3 e3 = pairsRd n0 l0 e0) := by
      rw [Hid]
      unfold vecRd bindR
      rw [hB9]
    rw [hB9] at hN9 hnl
    dsimp only at hN9 hnl
    clear hB9
    go_wp2_with fail
    refine hN9.out.mono ?_
    rintro e w11 ⟨rfl, kp, R⟩
    have R11 := Lib.hid R
    have B11 : Hid (Below w.heap.size w w11) := B10.out.trans (kp.below (fun k e => by rw [e]; have := hgs.out; omega) B10.out.size)
    have KR11 := Lib.hid (KR10.out.keep (kp.block gr KR10.out.lt (by have := hgs.out; omega)))
    have KM11 := Lib.hid (KM10.out.keep (kp.block gm KM10.out.lt (by have := hgs.out; omega)))
    clear kp R R10 B10 KR10 KM10 hN9
    have hmw : IntKind.i64.wrap (n0 : Int) = (n0 : Int) := by rw [IntKind.wrap_i64]; omega
    go_upto_block 0 with fail
    clear hmw
    go_cut [9, 10, 11, 12, 13] (fun _ fv _ _ _ wx => ∃ (s : VSt) (ps : List (Nat × Nat)) (l4 : List UInt8) (e4 : Nat), fv = .bool s.fine ∧ Hid (vecRd l3 e3 = (ps, l4, e4)) ∧ Hid (VecOk s.v) ∧ Hid (e4 = 0 → s = foldR ps) ∧ Hid (RrAt wx B g l4 e4) ∧ Hid (Blk wx gm 30 (rawC k f t s.v zeroBl none 0 0).toArray) ∧ Hid (Blk wx gr 30 Z.toArray) ∧ Hid (Below w.heap.size w wx))
    case first =>
      clear hke hfe hte hdm
      go_wp2_with fail
      go_loopw [9, 10, 11] (fun lv fv iv wr => ∃ (i : Nat) (s : VSt) (l' : List UInt8) (e' : Nat) (done : List (Nat × Nat)), lv = .int .u8 ((s.last : Nat) : Int) ∧ fv = .bool s.fine ∧ iv = .int .i64 ((i : Nat) : Int) ∧ i ≤ n0 ∧ s.last ≤ 64 ∧ Hid (VecOk s.v) ∧ Hid ((pairsRd (n0 - i) l' e').2 = (pairsRd n0 l0 e0).2) ∧ Hid ((pairsRd n0 l0 e0).2.2 = 0 → (pairsRd n0 l0 e0).1 = done ++ (pairsRd (n0 - i) l' e').1 ∧ s = foldR done) ∧ Hid (RrAt wr B g l' e') ∧ Hid (Blk wr gm 30 (rawC k f t s.v zeroBl none 0 0).toArray) ∧ Hid (Blk wr gr 30 Z.toArray) ∧ Hid (Below w.heap.size w wr)) (fun _ _ iv _ => n0 - (intOf iv).toNat)
      case atStart => exact ⟨0, ⟨vec0, 0, true⟩, l0, e0, [], rfl, rfl, rfl, Nat.zero_le _, Nat.zero_le _, vec0_ok, rfl, fun _ => ⟨rfl, rfl⟩, R11.out, KM11.out, KR11.out, B11.out⟩
      case round =>
        clear R11 KM11 KR11 B11
        obtain ⟨i, s, l', e', done, rfl, rfl, rfl, hin, hs, VO, HD, HS, RD, KM, KR, BW⟩ := hrel
        have ye := RD.out.cell1.1
        by_cases hgo : i < n0 ∧ e' = 0
        · obtain ⟨hi0, he⟩ := hgo
          have hmi : (i : Int) < (n0 : Int) := by omega
          have hz : ((e' : Int) == 0) = true := by rw [he]; rfl
          obtain ⟨m, hm1⟩ : ∃ m, n0 - i = m + 1 := ⟨n0 - i - 1, by omega⟩
          have hm2 : Hid (n0 - (i + 1) = m) := by rw [Hid]; omega
          have HDS : Hid (((pairsRd m (rNum 60000 (rByte 64 l' e').2.1 (rByte 64 l' e').2.2).2.1 (rNum 60000 (rByte 64 l' e').2.1 (rByte 64 l' e').2.2).2.2).2 = (pairsRd n0 l0 e0).2) ∧ ((pairsRd n0 l0 e0).2.2 = 0 → (pairsRd n0 l0 e0).1 = (done ++ [((rByte 64 l' e').1, (rNum 60000 (rByte 64 l' e').2.1 (rByte 64 l' e').2.2).1)]) ++ (pairsRd m (rNum 60000 (rByte 64 l' e').2.1 (rByte 64 l' e').2.2).2.1 (rNum 60000 (rByte 64 l' e').2.1 (rByte 64 l' e').2.2).2.2).1 ∧ s = foldR done)) := by
            have h1 := HD.out
            have h2 := HS.out
            subst he
            rw [hm1, pairsRd_go] at h1 h2
            refine ⟨h1, fun h => ?_⟩
            obtain ⟨h3, h4⟩ := h2 h
            rw [h3, List.append_assoc]
            exact ⟨rfl, h4⟩
          have hal := rByte_le 64 l' e'
          have HB := Lib.hid (rrByte_any RD.out 64)
          clear HD HS he hm1
          go_wp2_with fail
          refine HB.out.mono ?_
          rintro e w4 ⟨rfl, kp, R⟩
          obtain ⟨a, l2, e2, hB1⟩ : ∃ x y z, rByte 64 l' e' = (x, y, z) := ⟨_, _, _, rfl⟩
          rw [hB1] at hal R HDS ⊢
          dsimp only at hal R HDS ⊢
          clear hB1 HB ye hz
          have R4 := Lib.hid R
          have B4 : Hid (Below w.heap.size w w4) := BW.out.trans (kp.below (fun k e => by rw [e]; have := hgs.out; omega) BW.out.size)
          have KR4 := Lib.hid (KR.out.keep (kp.block gr KR.out.lt (by have := hgs.out; omega)))
          have KM4 := Lib.hid (KM.out.keep (kp.block gm KM.out.lt (by have := hgs.out; omega)))
          clear kp R RD BW KR KM
          have hkl := rNum_le 60000 l2 e2
          have HN := Lib.hid (rrNum_any R4.out 60000)
          go_wp2_with fail
          refine HN.out.mono ?_
          rintro e w5 ⟨rfl, kp, R⟩
          obtain ⟨q, l5, e5, hB1⟩ : ∃ x y z, rNum 60000 l2 e2 = (x, y, z) := ⟨_, _, _, rfl⟩
          rw [hB1] at hkl R HDS ⊢
          dsimp only at hkl R HDS ⊢
          clear hB1 HN
          have R5 := Lib.hid R
          have B5 : Hid (Below w.heap.size w w5) := B4.out.trans (kp.below (fun k e => by rw [e]; have := hgs.out; omega) B4.out.size)
          have KR5 := Lib.hid (KR4.out.keep (kp.block gr KR4.out.lt (by have := hgs.out; omega)))
          have KM5 := Lib.hid (KM4.out.keep (kp.block gm KM4.out.lt (by have := hgs.out; omega)))
          clear kp R R4 B4 KR4 KM4
          have ye := R5.out.cell1.1
          have HEZ : Hid (e5 ≠ 0 → (pairsRd n0 l0 e0).2.2 ≠ 0) := fun h => by
            rw [← HDS.out.1, pairsRd_stop (.inr h)]
            exact h
          have HDN : Hid ((pairsRd m l5 e5).2 = (pairsRd n0 l0 e0).2) := HDS.out.1
          have HSN : Hid (e5 = 0 → (pairsRd n0 l0 e0).2.2 = 0 → (pairsRd n0 l0 e0).1 = (done ++ [(a, q)]) ++ (pairsRd m l5 e5).1 ∧ stepRf s (a, q) = foldR (done ++ [(a, q)])) := fun _ h => by
            obtain ⟨h3, h4⟩ := HDS.out.2 h
            exact ⟨h3, by rw [foldR_snoc, h4]⟩
          clear HDS
          by_cases he5 : e5 = 0
          · have z3 : ((e5 : Int) == 0) = true := by rw [he5]; rfl
            have HSN := Lib.hid (HSN.out he5)
            clear HEZ
            replace he5 := Lib.hid he5
            by_cases hla : a ≤ s.last
            · have z4 : (a : Int) ≤ (s.last : Int) := by omega
              by_cases ha0 : a = 0
              · have hap : ¬ (0 : Int) < (a : Int) := by omega
                have HF : Hid ((pairsRd n0 l0 e0).2.2 = 0 → (pairsRd n0 l0 e0).1 = (done ++ [(a, q)]) ++ (pairsRd m l5 e5).1 ∧ (⟨s.v, a, false⟩ : VSt) = foldR (done ++ [(a, q)])) := fun h => by
                  obtain ⟨h3, h4⟩ := HSN.out h
                  refine ⟨h3, ?_⟩
                  rw [← h4]
                  unfold stepRf
                  rw [if_neg (by dsimp only; omega), if_pos (Or.inl hla)]
                clear HSN
                replace ha0 := Lib.hid ha0
                go_wp2_with fail
                go_roundw
                case rel => exact ⟨i + 1, ⟨s.v, a, false⟩, l5, e5, done ++ [(a, q)], rfl, rfl, by go_num, by omega, hal, VO.out, by rw [Hid, hm2.out]; exact HDN.out, by rw [Hid, hm2.out]; exact HF.out, R5.out, KM5.out, KR5.out, B5.out⟩
                case measure => simp [intOf]; omega
              · have hap : (0 : Int) < (a : Int) := by omega
                obtain ⟨p, hp⟩ : ∃ p, a = p + 1 := ⟨a - 1, by omega⟩
                have hp64 : p < 64 := by omega
                have HF : Hid ((pairsRd n0 l0 e0).2.2 = 0 → (pairsRd n0 l0 e0).1 = (done ++ [(a, q)]) ++ (pairsRd m l5 e5).1 ∧ (⟨s.v.set p (q : Int), a, false⟩ : VSt) = foldR (done ++ [(a, q)])) := fun h => by
                  obtain ⟨h3, h4⟩ := HSN.out h
                  refine ⟨h3, ?_⟩
                  rw [← h4]
                  unfold stepRf
                  rw [if_pos (by dsimp only; omega), if_pos (Or.inl hla)]
                  have : a - 1 = p := by omega
                  rw [this]
                have C8 := Lib.hid (fun u => conv8i (a := a) (by omega) u)
                have S8 := Lib.hid (fun u => subI1 hp (by omega) u)
                have C16 := Lib.hid (fun u => low16_run (n := q) (by omega) u)
                have I3 := Lib.hid (fun u => idx3v gm hp64 u)
                have hcu : ∃ u, w5.cell? ⟨gm, 3 + p, none⟩ = some u := by
                  obtain ⟨u, hu⟩ := raw_vAt (k := k) (f := f) (t := t) VO.out zeroBl hp64 none 0 0
                  exact ⟨u, (KM5.out.cell _).trans hu⟩
                have ST : Hid ((Instr.storeAt 22 (.pointer (some ⟨gm, 3 + p, none⟩)) (.int .u16 (q : Int))).run Tryz.prog w5 = .ok () (w5.setCell ⟨gm, 3 + p, none⟩ (.int .u16 (q : Int)))) := by
                  obtain ⟨u, hu⟩ := hcu
                  exact store16_run gm (3 + p) (q : Int) w5 hu (KM5.out.fr _)
                have KM6 : Hid (Blk (w5.setCell ⟨gm, 3 + p, none⟩ (.int .u16 (q : Int))) gm 30 (rawC k f t (s.v.set p (q : Int)) zeroBl none 0 0).toArray) := by
                  have h1 := KM5.out.set_ (3 + p) (.int .u16 (q : Int))
                  rw [raw_v VO.out zeroBl hp64] at h1
                  exact h1
                have kp2 : Kept (fun k => k = gm) w5 (w5.setCell ⟨gm, 3 + p, none⟩ (.int .u16 (q : Int))) := (Kept.refl (fun k => k = gm) w5).setCell (p := ⟨gm, 3 + p, none⟩) (.inl rfl) _
                have KR6 := Lib.hid (KR5.out.keep (kp2.block gr KR5.out.lt (by have := hgs.out; omega)))
                have R6 := Lib.hid (R5.out.keepB kp2 (by have := hgs.out; omega) (by have := hgs.out; omega))
                have B6 : Hid (Below w.heap.size w (w5.setCell ⟨gm, 3 + p, none⟩ (.int .u16 (q : Int)))) := B5.out.trans (kp2.below (fun k e => by rw [e]; have := hgs.out; omega) B5.out.size)
                have VO6 := Lib.hid (vecOk_set VO.out (by omega : (0 : Int) ≤ (q : Int)) (by omega : (q : Int) ≤ 65535) p)
                clear kp2 hcu HSN KM5 KR5 R5 B5 VO
                replace hp := Lib.hid hp
                replace hp64 := Lib.hid hp64
                try replace hq0 := Lib.hid hq0
                generalize (w5.setCell ⟨gm, 3 + p, none⟩ (.int .u16 (q : Int))) = w6 at *
                go_wp2_with (first
                  | ((with_reducible refine wpList_convB ?_ (C8.out _) ?_); rfl)
                  | ((with_reducible refine wpList_comp ?_ ?_ ?_ (S8.out _) ?_); rfl; rfl; rfl)
                  | ((with_reducible refine wpList_convB ?_ (C16.out _) ?_); rfl)
                  | ((with_reducible refine wpList_idx ?_ ?_ (I3.out _) ?_); rfl; rfl)
                  | ((with_reducible refine wpList_st ?_ ?_ ST.out ?_); rfl; rfl))
                go_roundw
                case rel => exact ⟨i + 1, ⟨s.v.set p (q : Int), a, false⟩, l5, e5, done ++ [(a, q)], rfl, rfl, by go_num, by omega, hal, VO6.out, by rw [Hid, hm2.out]; exact HDN.out, by rw [Hid, hm2.out]; exact HF.out, R6.out, KM6.out, KR6.out, B6.out⟩
                case measure => simp [intOf]; omega
            · have z4 : ¬ (a : Int) ≤ (s.last : Int) := by omega
              by_cases hq0 : q = 0
              · have z5 : ((q : Int) == 0) = true := by rw [hq0]; rfl
                have hap : (0 : Int) < (a : Int) := by omega
                obtain ⟨p, hp⟩ : ∃ p, a = p + 1 := ⟨a - 1, by omega⟩
                have hp64 : p < 64 := by omega
                have HF : Hid ((pairsRd n0 l0 e0).2.2 = 0 → (pairsRd n0 l0 e0).1 = (done ++ [(a, q)]) ++ (pairsRd m l5 e5).1 ∧ (⟨s.v.set p (q : Int), a, false⟩ : VSt) = foldR (done ++ [(a, q)])) := fun h => by
                  obtain ⟨h3, h4⟩ := HSN.out h
                  refine ⟨h3, ?_⟩
                  rw [← h4]
                  unfold stepRf
                  rw [if_pos (by dsimp only; omega), if_pos (Or.inr hq0)]
                  have : a - 1 = p := by omega
                  rw [this]
                have C8 := Lib.hid (fun u => conv8i (a := a) (by omega) u)
                have S8 := Lib.hid (fun u => subI1 hp (by omega) u)
                have C16 := Lib.hid (fun u => low16_run (n := q) (by omega) u)
                have I3 := Lib.hid (fun u => idx3v gm hp64 u)
                have hcu : ∃ u, w5.cell? ⟨gm, 3 + p, none⟩ = some u := by
                  obtain ⟨u, hu⟩ := raw_vAt (k := k) (f := f) (t := t) VO.out zeroBl hp64 none 0 0
                  exact ⟨u, (KM5.out.cell _).trans hu⟩
                have ST : Hid ((Instr.storeAt 22 (.pointer (some ⟨gm, 3 + p, none⟩)) (.int .u16 (q : Int))).run Tryz.prog w5 = .ok () (w5.setCell ⟨gm, 3 + p, none⟩ (.int .u16 (q : Int)))) := by
                  obtain ⟨u, hu⟩ := hcu
                  exact store16_run gm (3 + p) (q : Int) w5 hu (KM5.out.fr _)
                have KM6 : Hid (Blk (w5.setCell ⟨gm, 3 + p, none⟩ (.int .u16 (q : Int))) gm 30 (rawC k f t (s.v.set p (q : Int)) zeroBl none 0 0).toArray) := by
                  have h1 := KM5.out.set_ (3 + p) (.int .u16 (q : Int))
                  rw [raw_v VO.out zeroBl hp64] at h1
                  exact h1
                have kp2 : Kept (fun k => k = gm) w5 (w5.setCell ⟨gm, 3 + p, none⟩ (.int .u16 (q : Int))) := (Kept.refl (fun k => k = gm) w5).setCell (p := ⟨gm, 3 + p, none⟩) (.inl rfl) _
                have KR6 := Lib.hid (KR5.out.keep (kp2.block gr KR5.out.lt (by have := hgs.out; omega)))
                have R6 := Lib.hid (R5.out.keepB kp2 (by have := hgs.out; omega) (by have := hgs.out; omega))
                have B6 : Hid (Below w.heap.size w (w5.setCell ⟨gm, 3 + p, none⟩ (.int .u16 (q : Int)))) := B5.out.trans (kp2.below (fun k e => by rw [e]; have := hgs.out; omega) B5.out.size)
                have VO6 := Lib.hid (vecOk_set VO.out (by omega : (0 : Int) ≤ (q : Int)) (by omega : (q : Int) ≤ 65535) p)
                clear kp2 hcu HSN KM5 KR5 R5 B5 VO
                replace hp := Lib.hid hp
                replace hp64 := Lib.hid hp64
                try replace hq0 := Lib.hid hq0
                generalize (w5.setCell ⟨gm, 3 + p, none⟩ (.int .u16 (q : Int))) = w6 at *
                go_wp2_with (first
                  | ((with_reducible refine wpList_convB ?_ (C8.out _) ?_); rfl)
                  | ((with_reducible refine wpList_comp ?_ ?_ ?_ (S8.out _) ?_); rfl; rfl; rfl)
                  | ((with_reducible refine wpList_convB ?_ (C16.out _) ?_); rfl)
                  | ((with_reducible refine wpList_idx ?_ ?_ (I3.out _) ?_); rfl; rfl)
                  | ((with_reducible refine wpList_st ?_ ?_ ST.out ?_); rfl; rfl))
                go_roundw
                case rel => exact ⟨i + 1, ⟨s.v.set p (q : Int), a, false⟩, l5, e5, done ++ [(a, q)], rfl, rfl, by go_num, by omega, hal, VO6.out, by rw [Hid, hm2.out]; exact HDN.out, by rw [Hid, hm2.out]; exact HF.out, R6.out, KM6.out, KR6.out, B6.out⟩
                case measure => simp [intOf]; omega
              · have z5 : ((q : Int) == 0) = false := by rw [beq_eq_false_iff_ne]; omega
                have hap : (0 : Int) < (a : Int) := by omega
                obtain ⟨p, hp⟩ : ∃ p, a = p + 1 := ⟨a - 1, by omega⟩
                have hp64 : p < 64 := by omega
                have HF : Hid ((pairsRd n0 l0 e0).2.2 = 0 → (pairsRd n0 l0 e0).1 = (done ++ [(a, q)]) ++ (pairsRd m l5 e5).1 ∧ (⟨s.v.set p (q : Int), a, s.fine⟩ : VSt) = foldR (done ++ [(a, q)])) := fun h => by
                  obtain ⟨h3, h4⟩ := HSN.out h
                  refine ⟨h3, ?_⟩
                  rw [← h4]
                  unfold stepRf
                  rw [if_pos (by dsimp only; omega), if_neg (by dsimp only; omega)]
                  have : a - 1 = p := by omega
                  rw [this]
                have C8 := Lib.hid (fun u => conv8i (a := a) (by omega) u)
                have S8 := Lib.hid (fun u => subI1 hp (by omega) u)
                have C16 := Lib.hid (fun u => low16_run (n := q) (by omega) u)
                have I3 := Lib.hid (fun u => idx3v gm hp64 u)
                have hcu : ∃ u, w5.cell? ⟨gm, 3 + p, none⟩ = some u := by
                  obtain ⟨u, hu⟩ := raw_vAt (k := k) (f := f) (t := t) VO.out zeroBl hp64 none 0 0
                  exact ⟨u, (KM5.out.cell _).trans hu⟩
                have ST : Hid ((Instr.storeAt 22 (.pointer (some ⟨gm, 3 + p, none⟩)) (.int .u16 (q : Int))).run Tryz.prog w5 = .ok () (w5.setCell ⟨gm, 3 + p, none⟩ (.int .u16 (q : Int)))) := by
                  obtain ⟨u, hu⟩ := hcu
                  exact store16_run gm (3 + p) (q : Int) w5 hu (KM5.out.fr _)
                have KM6 : Hid (Blk (w5.setCell ⟨gm, 3 + p, none⟩ (.int .u16 (q : Int))) gm 30 (rawC k f t (s.v.set p (q : Int)) zeroBl none 0 0).toArray) := by
                  have h1 := KM5.out.set_ (3 + p) (.int .u16 (q : Int))
                  rw [raw_v VO.out zeroBl hp64] at h1
                  exact h1
                have kp2 : Kept (fun k => k = gm) w5 (w5.setCell ⟨gm, 3 + p, none⟩ (.int .u16 (q : Int))) := (Kept.refl (fun k => k = gm) w5).setCell (p := ⟨gm, 3 + p, none⟩) (.inl rfl) _
                have KR6 := Lib.hid (KR5.out.keep (kp2.block gr KR5.out.lt (by have := hgs.out; omega)))
                have R6 := Lib.hid (R5.out.keepB kp2 (by have := hgs.out; omega) (by have := hgs.out; omega))
                have B6 : Hid (Below w.heap.size w (w5.setCell ⟨gm, 3 + p, none⟩ (.int .u16 (q : Int)))) := B5.out.trans (kp2.below (fun k e => by rw [e]; have := hgs.out; omega) B5.out.size)
                have VO6 := Lib.hid (vecOk_set VO.out (by omega : (0 : Int) ≤ (q : Int)) (by omega : (q : Int) ≤ 65535) p)
                clear kp2 hcu HSN KM5 KR5 R5 B5 VO
                replace hp := Lib.hid hp
                replace hp64 := Lib.hid hp64
                try replace hq0 := Lib.hid hq0
                generalize (w5.setCell ⟨gm, 3 + p, none⟩ (.int .u16 (q : Int))) = w6 at *
                go_wp2_with (first
                  | ((with_reducible refine wpList_convB ?_ (C8.out _) ?_); rfl)
                  | ((with_reducible refine wpList_comp ?_ ?_ ?_ (S8.out _) ?_); rfl; rfl; rfl)
                  | ((with_reducible refine wpList_convB ?_ (C16.out _) ?_); rfl)
                  | ((with_reducible refine wpList_idx ?_ ?_ (I3.out _) ?_); rfl; rfl)
                  | ((with_reducible refine wpList_st ?_ ?_ ST.out ?_); rfl; rfl))
                go_roundw
                case rel => exact ⟨i + 1, ⟨s.v.set p (q : Int), a, s.fine⟩, l5, e5, done ++ [(a, q)], rfl, rfl, by go_num, by omega, hal, VO6.out, by rw [Hid, hm2.out]; exact HDN.out, by rw [Hid, hm2.out]; exact HF.out, R6.out, KM6.out, KR6.out, B6.out⟩
                case measure => simp [intOf]; omega
          · have z3 : ((e5 : Int) == 0) = false := by rw [beq_eq_false_iff_ne]; omega
            have HV := Lib.hid (HEZ.out he5)
            clear HSN HEZ
            replace he5 := Lib.hid he5
            go_wp2_with fail
            go_roundw
            case rel => exact ⟨i + 1, ⟨s.v, a, s.fine⟩, l5, e5, done, rfl, rfl, by go_num, by omega, hal, VO.out, by rw [Hid, hm2.out]; exact HDN.out, fun h => absurd h HV.out, R5.out, KM5.out, KR5.out, B5.out⟩
            case measure => simp [intOf]; omega
        · have hps : pairsRd (n0 - i) l' e' = ([], l', e') := pairsRd_stop (by omega)
          have REX : Hid (∃ (ps : List (Nat × Nat)), vecRd l3 e3 = (ps, l', e') ∧ (e' = 0 → s = foldR ps)) := by
            have h1 := HD.out
            have h2 := HS.out
            rw [hps] at h1 h2
            refine ⟨(pairsRd n0 l0 e0).1, by rw [hrd.out]; exact Prod.ext rfl h1.symm, fun h => ?_⟩
            obtain ⟨h3, h4⟩ := h2 (by rw [← h1]; exact h)
            rw [h3, List.append_nil]
            exact h4
          clear HD HS hps
          by_cases hi0 : i < n0
          · have hmi : (i : Int) < (n0 : Int) := by omega
            have hz : ((e' : Int) == 0) = false := by rw [beq_eq_false_iff_ne]; omega
            replace hgo := Lib.hid hgo
            go_wp2_with fail
            go_meet
            case rel =>
              obtain ⟨ps, h1, h2⟩ := REX.out
              exact ⟨s, ps, l', e', rfl, h1, VO.out, h2, RD.out, KM.out, KR.out, BW.out⟩
          · have hmi : ¬ (i : Int) < (n0 : Int) := by omega
            replace hgo := Lib.hid hgo
            go_wp2_with fail
            go_meet
            case rel =>
              obtain ⟨ps, h1, h2⟩ := REX.out
              exact ⟨s, ps, l', e', rfl, h1, VO.out, h2, RD.out, KM.out, KR.out, BW.out⟩
    case rest =>
      clear R11 KM11 KR11 B11 hrd hnl
      obtain ⟨s, ps, l4, e4, rfl, hve, VO, HFO, R12, KM12, KR12, B12⟩ := hcut
      have HST : Hid ((restRd k l4 e4).2.2 = 0 → e4 = 0) := fun h => by
        rcases Nat.eq_zero_or_pos e4 with h0 | h0
        · exact h0
        · rw [sticky_rest k l4 e4 (by omega)] at h; exact absurd h (by omega)
      have hDB0 : Hid (decM l = if rEnd (restRd k l4 e4).2.1 (restRd k l4 e4).2.2 ≠ 0 then (zeroM, rEnd (restRd k l4 e4).2.1 (restRd k l4 e4).2.2) else if s.fine = true ∧ goodM ((kindF k, kindF f, kindF t), s.v, (restRd k l4 e4).1.1, (restRd k l4 e4).1.2) = true then (((kindF k, kindF f, kindF t), s.v, (restRd k l4 e4).1.1, (restRd k l4 e4).1.2), 0) else (zeroM, 4)) := by
        have e : msgRd b 0 = (((k, f, t), ps, (restRd k l4 e4).1), (restRd k l4 e4).2) := msgRd_eq hke.out hfe.out hte.out hve.out
        refine dec_fold (ps := ps) ?_ fun h => HFO.out (HST.out (rEnd_zero _ _ h))
        rw [hdm.out]
        unfold decBody
        rw [e]
        rfl
      clear hke hfe hte hve hdm HFO HST
      have y0 : wc.cell? ⟨gm, 0, none⟩ = some (.int .u8 (k : Int)) := KM12.out.cell 0
      go_upto_if 93 with fail
      clear y0
      go_cut [14] (fun _ wx => ∃ (bl : List Nat) (l5 : List UInt8) (e5 : Nat), Hid ((if k = 1 then numsRd 4 l4 e4 else (zeroBl, l4, e4)) = (bl, l5, e5)) ∧ Hid (BlOk bl) ∧ Hid (RrAt wx B g l5 e5) ∧ Hid (Blk wx gm 30 (rawC k f t s.v bl none 0 0).toArray) ∧ Hid (Blk wx gr 30 Z.toArray) ∧ Hid (Below w.heap.size w wx))
      case first =>
        by_cases hk1 : k = 1
        · have z1 : ((k : Int) == 1) = true := by rw [beq_iff_eq]; omega
          simp only [z1]
          clear z1
          replace hk1 := Lib.hid hk1
          have KM0 : Hid (Blk wc gm 30 (rawC k f t s.v (blAt []) none 0 0).toArray) := KM12.out
          clear KM12 hDB0
          go_wp2_with fail
          go_loopw [14] (fun iv wr => ∃ (i : Nat) (bs : List Nat) (l' : List UInt8) (e' : Nat), i ≤ 4 ∧ iv = .int .i64 (i : Int) ∧ Hid (bs.length = i) ∧ Hid (numsRd 4 l4 e4 = (bs ++ (numsRd (4 - i) l' e').1, (numsRd (4 - i) l' e').2)) ∧ Hid (∀ x ∈ bs, x < 18446744073709551616) ∧ Hid (RrAt wr B g l' e') ∧ Hid (Blk wr gm 30 (rawC k f t s.v (blAt bs) none 0 0).toArray) ∧ Hid (Blk wr gr 30 Z.toArray) ∧ Hid (Below w.heap.size w wr)) (fun iv _ => 4 - (intOf iv).toNat)
          case atStart => exact ⟨0, [], l4, e4, by omega, rfl, rfl, rfl, (fun x hx => by cases hx), R12.out, KM0.out, KR12.out, B12.out⟩
          case round =>
            clear KM0 R12 KR12 B12
            obtain ⟨i, bs, l', e', hi, rfl, hbl, HD, hbx, RD, KM, KR, BW⟩ := hrel
            by_cases hi4 : i < 4
            · have hii : (i : Int) < 4 := by omega
              obtain ⟨m, hm⟩ : ∃ m, 4 - i = m + 1 := ⟨3 - i, by omega⟩
              have hm2 : Hid (4 - (i + 1) = m) := by rw [Hid]; omega
              have HN := Lib.hid (rrNum_any RD.out 18446744073709551615)
              have hxl := rNum_le 18446744073709551615 l' e'
              obtain ⟨x, l2, e2, hx⟩ : ∃ x y z, rNum 18446744073709551615 l' e' = (x, y, z) := ⟨_, _, _, rfl⟩
              have HDS : Hid (numsRd 4 l4 e4 = ((bs ++ [x]) ++ (numsRd m l2 e2).1, (numsRd m l2 e2).2)) := by
                rw [Hid, HD.out, hm, numsRd_go, hx, List.append_assoc]
                rfl
              rw [hx] at HN hxl
              dsimp only at HN hxl
              replace hxl := Lib.hid hxl
              clear hx HD hm
              go_wp2_with fail
              refine HN.out.mono ?_
              rintro e wb ⟨rfl, kp, R⟩
              have Rb := Lib.hid R
              have Bb : Hid (Below w.heap.size w wb) := BW.out.trans (kp.below (fun k e => by rw [e]; have := hgs.out; omega) BW.out.size)
              have KRb := Lib.hid (KR.out.keep (kp.block gr KR.out.lt (by have := hgs.out; omega)))
              have KMb := Lib.hid (KM.out.keep (kp.block gm KM.out.lt (by have := hgs.out; omega)))
              clear kp R RD KR KM BW HN
              have hbo : Hid (BlOk (blAt bs)) := blAt_ok (by rw [hbl.out]; omega) hbx.out
              have I67 := Lib.hid (fun u => idx67 gm hi4 u)
              have hcu : ∃ u, wb.cell? ⟨gm, 67 + i, none⟩ = some u := by
                obtain ⟨u, hu⟩ := raw_blAt (k := k) (f := f) (t := t) VO.out (blAt bs) (i := i) (by rw [hbo.out.1]; exact hi4) none 0 0
                exact ⟨u, (KMb.out.cell _).trans hu⟩
              have ST : Hid ((Instr.storeAt 25 (.pointer (some ⟨gm, 67 + i, none⟩)) (.int .u64 (x : Int))).run Tryz.prog wb = .ok () (wb.setCell ⟨gm, 67 + i, none⟩ (.int .u64 (x : Int)))) := by
                obtain ⟨u, hu⟩ := hcu
                exact store64_run gm (67 + i) x wb hu (KMb.out.fr _)
              have KMc : Hid (Blk (wb.setCell ⟨gm, 67 + i, none⟩ (.int .u64 (x : Int))) gm 30 (rawC k f t s.v (blAt (bs ++ [x])) none 0 0).toArray) := by
                have h1 := KMb.out.set_ (67 + i) (.int .u64 (x : Int))
                rw [raw_bl VO.out (blAt bs) (by rw [hbo.out.1]; exact hi4), blAt_set hbl.out hi4] at h1
                exact h1
              have kp2 : Kept (fun k => k = gm) wb (wb.setCell ⟨gm, 67 + i, none⟩ (.int .u64 (x : Int))) := (Kept.refl (fun k => k = gm) wb).setCell (p := ⟨gm, 67 + i, none⟩) (.inl rfl) _
              have KRc := Lib.hid (KRb.out.keep (kp2.block gr KRb.out.lt (by have := hgs.out; omega)))
              have Bc : Hid (Below w.heap.size w (wb.setCell ⟨gm, 67 + i, none⟩ (.int .u64 (x : Int)))) := Bb.out.trans (kp2.below (fun k e => by rw [e]; have := hgs.out; omega) Bb.out.size)
              have Rc := Lib.hid (Rb.out.keepB kp2 (by have := hgs.out; omega) (by have := hgs.out; omega))
              clear kp2 hcu KMb KRb Bb Rb hbo
              generalize (wb.setCell ⟨gm, 67 + i, none⟩ (.int .u64 (x : Int))) = wd at *
              go_wp2_with (first
                | ((with_reducible refine wpList_idx ?_ ?_ (I67.out _) ?_); rfl; rfl)
                | ((with_reducible refine wpList_st ?_ ?_ ST.out ?_); rfl; rfl))
              go_roundw
              case rel => first
                | exact ⟨i + 1, bs ++ [x], l2, e2, by omega, by go_num, by rw [Hid, List.length_append, hbl.out]; rfl, by rw [Hid, hm2.out]; exact HDS.out, fun y hy => (List.mem_append.1 hy).elim (hbx.out y) fun h => by rw [List.mem_singleton.1 h]; have := hxl.out; omega, Rc.out, KMc.out, KRc.out, Bc.out⟩
                | exact ⟨_, _, _, _, _, _, _, _, _, _, ⟨i + 1, bs ++ [x], l2, e2, by omega, by go_num, by rw [Hid, List.length_append, hbl.out]; rfl, by rw [Hid, hm2.out]; exact HDS.out, fun y hy => (List.mem_append.1 hy).elim (hbx.out y) fun h => by rw [List.mem_singleton.1 h]; have := hxl.out; omega, Rc.out, KMc.out, KRc.out, Bc.out⟩, rfl⟩
              case measure => simp [intOf]; omega
            · have hii : ¬ (i : Int) < 4 := by omega
              have hin : 4 - i = 0 := by omega
              have hi5 : Hid (i = 4) := by rw [Hid]; omega
              have HDF : Hid (numsRd 4 l4 e4 = (bs, l', e')) := by
                rw [Hid, HD.out, hin]
                show (bs ++ [], l', e') = _
                rw [List.append_nil]
              have hbb : blAt bs = bs := by
                unfold blAt
                rw [hbl.out, hi5.out]
                exact List.append_nil _
              have hbo : Hid (BlOk bs) := by
                have := blAt_ok (bs := bs) (by rw [hbl.out]; omega) hbx.out
                rwa [hbb] at this
              rw [hbb] at KM
              clear hin HD hbb
              go_wp2_with fail
              go_meet
              case rel => exact ⟨bs, l', e', by rw [Hid, if_pos hk1.out]; exact HDF.out, hbo.out, RD.out, KM.out, KR.out, BW.out⟩
        · have z1 : ((k : Int) == 1) = false := by rw [beq_eq_false_iff_ne]; omega
          replace hk1 := Lib.hid hk1
          go_wp2_with fail
          go_meet
          case rel => exact ⟨zeroBl, l4, e4, by rw [Hid, if_neg hk1.out], zeroBl_ok, R12.out, KM12.out, KR12.out, B12.out⟩
      case rest =>
        clear R12 KM12 KR12 B12
        obtain ⟨bl, l5, e5, hbr, BLO, R13, KM13, KR13, B13⟩ := hcut
        have y0 : wc.cell? ⟨gm, 0, none⟩ = some (.int .u8 (k : Int)) := KM13.out.cell 0
        go_upto_if 105 with fail
        clear y0
        go_cut [8, 15, 16, 17, 18] (fun _ _ _ _ _ wx => ∃ (pats : List PatV) (l6 : List UInt8) (e6 : Nat), Hid (decM l = if rEnd l6 e6 ≠ 0 then (zeroM, rEnd l6 e6) else if s.fine = true ∧ goodM ((kindF k, kindF f, kindF t), s.v, bl, pats) = true then (((kindF k, kindF f, kindF t), s.v, bl, pats), 0) else (zeroM, 4)) ∧ Hid (RrAt wx B g l6 e6) ∧ Hid (Blk wx gr 30 Z.toArray) ∧ Hid (Below w.heap.size w wx) ∧ Hid (e6 = 0 → ∃ (A6 : Option Addr) (c6 : Nat), pats.length ≤ maxLen ∧ Blk wx gm 30 (rawC k f t s.v bl A6 pats.length c6).toArray ∧ PatsAt wx A6 pats.length pats ∧ ∀ u, Stay (fun q => gm ≤ q) wx u → PatsAt u A6 pats.length pats))
        case first =>
          by_cases hk2 : k = 2
          · have z2 : ((k : Int) == 2) = true := by rw [beq_iff_eq]; omega
            have hr : restRd k l4 e4 = ((zeroBl, (psRd l4 e4).1), (psRd l4 e4).2) := by unfold restRd; rw [if_neg (by omega), if_pos hk2]; rfl
            have hb2 := hbr.out
            rw [if_neg (by omega : ¬ k = 1)] at hb2
            simp only [Prod.mk.injEq] at hb2
            obtain ⟨rfl, rfl, rfl⟩ := hb2
            rw [hr] at hDB0
            dsimp only at hDB0
            clear hr hbr
            replace hk2 := Lib.hid hk2
            have hN := Lib.hid (rrNum_any R13.out 8)
            have hnl := rNum_le 8 l4 e4
            obtain ⟨n1, l1', e1', hB9⟩ : ∃ x y z, rNum 8 l4 e4 = (x, y, z) := ⟨_, _, _, rfl⟩
            have hpr : psRd l4 e4 = patsRd n1 l1' e1' := by
              unfold psRd bindR
              rw [hB9]
            rw [hB9] at hN hnl
            dsimp only at hN hnl
            rw [hpr] at hDB0
            clear hB9 hpr
            go_wp2_with fail
            refine hN.out.mono ?_
            rintro e w14 ⟨rfl, kp, R⟩
            have R14 := Lib.hid R
            have B14 : Hid (Below w.heap.size w w14) := B13.out.trans (kp.below (fun k e => by rw [e]; have := hgs.out; omega) B13.out.size)
            have KR14 := Lib.hid (KR13.out.keep (kp.block gr KR13.out.lt (by have := hgs.out; omega)))
            have KM14 := Lib.hid (KM13.out.keep (kp.block gm KM13.out.lt (by have := hgs.out; omega)))
            clear kp R R13 B13 KR13 KM13 hN
            have hmw : IntKind.i64.wrap (n1 : Int) = (n1 : Int) := by rw [IntKind.wrap_i64]; omega
            have hgb : Hid (gm < w14.heap.size ∧ w14.heap.size ≤ w14.heap.size) := ⟨KM14.out.lt, Nat.le_refl _⟩
            obtain ⟨gb, hgbe⟩ : ∃ gb, gb = w14.heap.size := ⟨_, rfl⟩
            have hgb : Hid (gm < gb ∧ gb ≤ w14.heap.size) := ⟨by rw [hgbe]; exact hgb.out.1, by rw [hgbe]; exact Nat.le_refl _⟩
            clear hgbe
            go_wp2_with fail
            clear hmw
            go_loopw [15] (fun iv wr => ∃ (j : Nat) (qs : List PatV) (l' : List UInt8) (e' : Nat) (A6 : Option Addr) (c6 : Nat), iv = .int .i64 ((j : Nat) : Int) ∧ j ≤ n1 ∧ qs.length ≤ j ∧ Hid ((patsRd n1 l1' e1').2 = (patsRd (n1 - j) l' e').2) ∧ Hid (e' = 0 → (patsRd n1 l1' e1').1 = qs ++ (patsRd (n1 - j) l' e').1) ∧ Hid (OwnC gb wr (.slice A6 qs.length c6) qs) ∧ Hid (Blk wr gm 30 (rawC k f t s.v zeroBl A6 qs.length c6).toArray) ∧ Hid (RrAt wr B g l' e') ∧ Hid (Blk wr gr 30 Z.toArray) ∧ Hid (Below w.heap.size w wr) ∧ Hid (gb ≤ wr.heap.size)) (fun iv _ => n1 - (intOf iv).toNat)
            case atStart => exact ⟨0, [], l1', e1', none, 0, rfl, Nat.zero_le _, Nat.zero_le _, rfl, fun _ => rfl, OwnC.nil _ _, KM14.out, R14.out, KR14.out, B14.out, hgb.out.2⟩
            case round =>
              clear R14 KM14 KR14 B14
              obtain ⟨j, qs, l', e', A6, c6, rfl, hj, hqj, HD, HS, OW, KM, RD, KR, BW, hgw⟩ := hrel
              have ye := RD.out.cell1.1
              by_cases hgo : j < n1 ∧ e' = 0
              · obtain ⟨hj0, he⟩ := hgo
                have hmi : (j : Int) < (n1 : Int) := by omega
                have hz : ((e' : Int) == 0) = true := by rw [he]; rfl
                obtain ⟨m, hm1⟩ : ∃ m, n1 - j = m + 1 := ⟨n1 - j - 1, by omega⟩
                have hm2 : Hid (n1 - (j + 1) = m) := by rw [Hid]; omega
                have hpr : Hid (patRd l' e' = if (rText 65536 l' e').2.2 ≠ 0 then (zeroPat, (rText 65536 l' e').2.1, (rText 65536 l' e').2.2) else ((decP (rText 65536 l' e').1).1, (rText 65536 l' e').2.1, (decP (rText 65536 l' e').1).2)) := rfl
                have HDS : Hid ((patsRd n1 l1' e1').2 = (patsRd m (patRd l' e').2.1 (patRd l' e').2.2).2 ∧ (patsRd n1 l1' e1').1 = (qs ++ [(patRd l' e').1]) ++ (patsRd m (patRd l' e').2.1 (patRd l' e').2.2).1) := by
                  have h1 := HD.out
                  have h2 := HS.out he
                  subst he
                  rw [hm1, patsRd_go] at h1 h2
                  exact ⟨h1, by rw [h2, List.append_assoc]; rfl⟩
                have htl := rText_len 65536 l' e'
                have HT := Lib.hid (rrText_any RD.out 65536 (by omega))
                clear HD HS he hm1
                go_wp2_with fail
                refine HT.out.mono ?_
                rintro e w4 ⟨rfl, kp, R⟩
                obtain ⟨tx, l2, e2, hB1⟩ : ∃ x y z, rText 65536 l' e' = (x, y, z) := ⟨_, _, _, rfl⟩
                rw [hB1] at htl R hpr ⊢
                dsimp only at htl R hpr ⊢
                clear hB1 HT ye hz
                have R4 := Lib.hid R
                have B4 : Hid (Below w.heap.size w w4) := BW.out.trans (kp.below (fun k e => by rw [e]; have := hgs.out; omega) BW.out.size)
                have KR4 := Lib.hid (KR.out.keep (kp.block gr KR.out.lt (by have := hgs.out; omega)))
                have KM4 := Lib.hid (KM.out.keep (kp.block gm KM.out.lt (by have := hgs.out; omega)))
                have O4 := Lib.hid (OW.out.stay (kp.stay fun k _ h1 h2 => by have h1 : gb ≤ k := h1; have h2 : k = g := h2; have := hgs.out; have := hgb.out; omega))
                have hw4 : Hid (gb ≤ w4.heap.size) := Nat.le_trans hgw.out kp.size
                clear kp R RD BW KR KM OW hgw
                have ye := R4.out.cell1.1
                rcases Nat.eq_zero_or_pos e2 with h2 | h2
                · have z2' : ((e2 : Int) == 0) = true := by rw [h2]; rfl
                  rw [if_neg (by simpa using h2)] at hpr
                  rw [hpr.out] at HDS
                  clear hpr
                  replace h2 := Lib.hid h2
                  have CB := Lib.hid (conv_bytes w4 (bytesOf tx))
                  have hts : (bytesOf tx).size = tx.length := by show (bytesOf tx).data.size = _; simp [bytesOf]
                  rw [hts] at CB
                  have BA := Lib.hid (conv_at w4 tx (by omega))
                  have bn := Lib.hid (conv_below w4 (bytesOf tx))
                  have R5 := Lib.hid (R4.out.ext bn.out)
                  have KR5 := Lib.hid (KR4.out.ext bn.out)
                  have KM5 := Lib.hid (KM4.out.ext bn.out)
                  have B5 := Lib.hid (B4.out.trans (bn.out.mono B4.out.size))
                  have O5 := Lib.hid (O4.out.ext bn.out)
                  have hw5 : Hid (gb ≤ (Lib.bytesWorld w4 5 (bytesOf tx)).heap.size) := Nat.le_trans hw4.out bn.out.size
                  go_upto_region 34 with fail
                  clear bn R4 KR4 KM4 B4 O4 hts ye hw4
                  generalize (Lib.bytesWorld w4 5 (bytesOf tx)) = w5 at *
                  generalize grownCap w4 tx.length 0 5 = c0 at *
                  generalize w4.heap.size = gt at *
                  have HDC := Lib.hid (rdecode19_far tx w5 _ _ _ BA.out)
                  go_wp2_with (refine wpList_convW rfl CB.out ?_)
                  refine HDC.out.mono ?_
                  rintro e w6 ⟨cs, rfl, pa, b6⟩
                  have pa2 := pa.lt
                  have hsz6 : Hid (w5.heap.size ≤ w6.heap.size) := b6.size
                  obtain ⟨⟨A3, c3, A4, c4, rfl, _⟩, _, _⟩ := pa
                  obtain ⟨q, er, hq⟩ : ∃ q er, decP tx = (q, er) := ⟨_, _, rfl⟩
                  rw [hq] at pa2 HDS ⊢
                  dsimp only at pa2 HDS ⊢
                  have hsl : Hid (∀ k, (Value.slice A6 qs.length c6).ownBlock = some k → k < w5.heap.size) := by
                    obtain ⟨rows5, D5, own5, _⟩ := O5.out
                    exact fun k e => (own5.lt k e).2
                  have R6 := Lib.hid (R5.out.ext b6)
                  have KR6 := Lib.hid (KR5.out.ext b6)
                  have KM6 := Lib.hid (KM5.out.ext b6)
                  have B6 := Lib.hid (B5.out.trans (b6.mono B5.out.size))
                  have O6 := Lib.hid (O5.out.ext b6)
                  have PA := Lib.hid pa2
                  have hcs := Lib.hid pa2.len4
                  clear pa2 b6 R5 KR5 KM5 B5 O5 HDC CB BA hq
                  have KZ : Hid (Blk (w6.alloc (.cells #[.int .u8 0, .int .u16 0, .slice none 0 0, .slice none 0 0] 64)) w6.heap.size 64 #[.int .u8 0, .int .u16 0, .slice none 0 0, .slice none 0 0]) := Blk.new _ _ _
                  obtain ⟨CS, hCS⟩ : ∃ CS, CS = patC q.1 A3 q.2.1.length c3 A4 q.2.2.length c4 := ⟨_, rfl⟩
                  rw [← hCS] at PA hcs ⊢
                  have HI : Hid ((Tryz.prog.info? 64).map (·.size) = some CS.toArray.size) := by rw [Hid, hCS]; exact infoPat
                  have HO : Hid (CS.toArray.all (·.oneCell') = true) := by rw [Hid, hCS]; exact patC_one
                  have KQ : Hid (Blk ((w6.alloc (.cells #[.int .u8 0, .int .u16 0, .slice none 0 0, .slice none 0 0] 64)).setRow w6.heap.size CS.toArray) w6.heap.size 64 CS.toArray) := KZ.out.row _
                  have BN : Hid (Below w6.heap.size w6 ((w6.alloc (.cells #[.int .u8 0, .int .u16 0, .slice none 0 0, .slice none 0 0] 64)).setRow w6.heap.size CS.toArray)) := below_setRow (below_new w6 _) (Nat.le_refl _) _
                  clear hCS
                  go_upto_region 35 with (first
                    | (refine wpList_alloced (allocPat _) ?_)
                    | (refine wpList_store_row rfl 64 _ _ (by rfl) w6.heap.size CS.toArray (by rfl) (by rfl) _ _ KZ.out HI.out (by simp only [List.size_toArray, hcs.out]; rfl) HO.out ?_))
                  generalize ((w6.alloc (.cells #[.int .u8 0, .int .u16 0, .slice none 0 0, .slice none 0 0] 64)).setRow w6.heap.size CS.toArray) = w7 at *
                  have R7 := Lib.hid (R6.out.ext BN.out)
                  have KR7 := Lib.hid (KR6.out.ext BN.out)
                  have KM7 := Lib.hid (KM6.out.ext BN.out)
                  have B7 := Lib.hid (B6.out.trans (BN.out.mono B6.out.size))
                  have O7 := Lib.hid (O6.out.ext BN.out)
                  have PN : Hid (PatIn w7 (fun k => w5.heap.size ≤ k ∧ k < w7.heap.size) CS q) := (PA.out.ext BN.out).mono fun k h => ⟨h.1, Nat.lt_of_lt_of_le h.2 BN.out.size⟩
                  have hgq : Hid (w5.heap.size ≤ w6.heap.size ∧ gm < w6.heap.size ∧ g < w6.heap.size) := ⟨hsz6.out, KM6.out.lt, by have := KM6.out.lt; have := hgs.out; omega⟩
                  have hw7 : Hid (gb ≤ w7.heap.size) := Nat.le_trans hw5.out (Nat.le_trans hgq.out.1 BN.out.size)
                  clear BN KZ PA R6 KR6 KM6 B6 O6
                  generalize w6.heap.size = gq at *
                  have ye := R7.out.cell1.1
                  have fe := R7.out.cell1.2
                  go_upto_region 36 with fail
                  have kpe := (R7.out.fail er).1
                  have R8 := Lib.hid (R7.out.fail er).2
                  have KR8 := Lib.hid (KR7.out.keep (kpe.block gr KR7.out.lt (by have := hgs.out; omega)))
                  have KM8 := Lib.hid (KM7.out.keep (kpe.block gm KM7.out.lt (by have := hgs.out; omega)))
                  have KQ8 := Lib.hid (KQ.out.keep (kpe.block gq KQ.out.lt (by have := hgq.out; omega)))
                  have B8 : Hid (Below w.heap.size w (w7.setCell ⟨g, 1, none⟩ (.int .i64 (er : Int)))) := B7.out.trans (kpe.below (fun k e => by rw [e]; have := hgs.out; omega) B7.out.size)
                  have O8 := Lib.hid (O7.out.stay (kpe.stay fun k _ h1 h2 => by have h1 : gb ≤ k := h1; have h2 : k = g := h2; have := hgs.out; have := hgb.out; omega))
                  have P8 := Lib.hid (PN.out.stay (kpe.stay fun k _ h1 h2 => by have h1 : w5.heap.size ≤ k ∧ k < w7.heap.size := h1; have h2 : k = g := h2; have := hgs.out; have := hgb.out; have := hw5.out; omega))
                  have P8 : Hid (PatIn (w7.setCell ⟨g, 1, none⟩ (.int .i64 (er : Int))) (fun k => w5.heap.size ≤ k ∧ k < (w7.setCell ⟨g, 1, none⟩ (.int .i64 (er : Int))).heap.size) CS q) := P8.out.mono fun k h => ⟨h.1, Nat.lt_of_lt_of_le h.2 kpe.size⟩
                  have hw8 : Hid (gb ≤ (w7.setCell ⟨g, 1, none⟩ (.int .i64 (er : Int))).heap.size) := Nat.le_trans hw7.out kpe.size
                  clear kpe ye fe R7 KR7 KM7 KQ B7 O7 PN hw7
                  generalize (w7.setCell ⟨g, 1, none⟩ (.int .i64 (er : Int))) = w8 at *
                  obtain ⟨rows, D, own, ri, hdd⟩ := O8.out
                  have own := Lib.hid own
                  have RI := Lib.hid ri
                  have HDD := Lib.hid hdd
                  clear ri hdd
                  have y71 : w8.cell? ⟨gm, 71, none⟩ = some (.slice A6 qs.length c6) := (KM8.out.cell 71).trans (raw_last VO.out zeroBl_ok A6 qs.length c6)
                  go_wp2_with (first
                    | (refine wpList_load_row rfl 64 _ (by rfl) gq (by rfl) _ _ _ _ KQ8.out underPat rfl HI.out ?_)
                    | (refine wpList_lit1 patSl hcs.out (by omega) (by rfl) ?_)
                    | (at_builtin; refine wpList_pushF patSl own.out CS hcs.out P8.out.one hw8.out (by omega) (by unfold maxLen; omega) (by rfl) (by rfl) (by rfl) ?_; intro v9 w9 own9 kep9 new9; obtain ⟨A9, c9, rfl, _, _⟩ := Sl.of_own own9; have KM9 := Lib.hid (KM8.out.keep (kep9.block gm KM8.out.lt (fun e => by have := (own.out.lt _ e).1; have := hgb.out; omega))); have y72 : w9.cell? ⟨gm, 71, none⟩ = some (.slice A6 qs.length c6) := (KM9.out.cell 71).trans (raw_last VO.out zeroBl_ok A6 qs.length c6); have f72 : w9.frozen? ⟨gm, 71, none⟩ = false := KM9.out.fr 71))
                  have O9 := Lib.hid (OwnC.push own9 kep9 new9 RI.out HDD.out P8.out hw5.out hsl.out)
                  have b9 := kep9.below (B := gb) (fun k e => (own.out.lt k e).1) hw8.out
                  have kp71 : Kept (fun k => k = gm) w9 (w9.setCell ⟨gm, 71, none⟩ (.slice A9 (qs.length + 1) c9)) := (Kept.refl (fun k => k = gm) w9).setCell (p := ⟨gm, 71, none⟩) (.inl rfl) _
                  have O10 := Lib.hid (O9.out.stay (kp71.stay fun k _ h1 h2 => by have h1 : gb ≤ k := h1; have h2 : k = gm := h2; have := hgb.out; omega))
                  have KM10 : Hid (Blk (w9.setCell ⟨gm, 71, none⟩ (.slice A9 (qs.length + 1) c9)) gm 30 (rawC k f t s.v zeroBl A9 (qs.length + 1) c9).toArray) := by
                    have h1 := KM9.out.set_ 71 (.slice A9 (qs.length + 1) c9)
                    rw [raw_set VO.out zeroBl_ok] at h1
                    exact h1
                  have R9 := Lib.hid (R8.out.belowR b9 (by have := hgs.out; have := hgb.out; omega))
                  have R10 := Lib.hid (R9.out.keepB kp71 (by have := hgs.out; omega) (by have := hgs.out; omega))
                  have KR9 := Lib.hid (KR8.out.keep (kep9.block gr KR8.out.lt (fun e => by have := (own.out.lt _ e).1; have := hgs.out; have := hgb.out; omega)))
                  have KR10 := Lib.hid (KR9.out.keep (kp71.block gr KR9.out.lt (by have := hgs.out; omega)))
                  have B9 := Lib.hid (B8.out.trans (b9.mono (by have := hgs.out; have := hgb.out; omega)))
                  have B10 : Hid (Below w.heap.size w (w9.setCell ⟨gm, 71, none⟩ (.slice A9 (qs.length + 1) c9))) := B9.out.trans (kp71.below (fun k e => by rw [e]; have := hgs.out; omega) B9.out.size)
                  have hg10 : Hid (gb ≤ (w9.setCell ⟨gm, 71, none⟩ (.slice A9 (qs.length + 1) c9)).heap.size) := Nat.le_trans hw8.out (Nat.le_trans kep9.size kp71.size)
                  clear own9 kep9 new9 b9 kp71 own RI HDD O8
                  have hql : (qs ++ [q]).length = qs.length + 1 := by rw [List.length_append]; rfl
                  replace hql := Lib.hid hql
                  go_roundw
                  case rel => exact ⟨j + 1, qs ++ [q], l2, er, A9, c9, by go_num, by omega, by rw [hql.out]; omega, by rw [Hid, hm2.out]; exact HDS.out.1, fun _ => by rw [hm2.out]; exact HDS.out.2, by rw [Hid, hql.out]; exact O10.out, by rw [Hid, hql.out]; exact KM10.out, R10.out, KR10.out, B10.out, hg10.out⟩
                  case measure => simp [intOf]; omega
                · have z2' : ((e2 : Int) == 0) = false := by rw [beq_eq_false_iff_ne]; omega
                  rw [if_pos (by omega)] at hpr
                  have hs2 : patsRd m l2 e2 = ([], l2, e2) := patsRd_stop (.inr (by omega))
                  rw [hpr.out] at HDS
                  dsimp only at HDS
                  replace h2 : Hid (e2 ≠ 0) := by rw [Hid]; omega
                  clear hpr hs2
                  go_wp2_with fail
                  go_roundw
                  case rel => exact ⟨j + 1, qs, l2, e2, A6, c6, by go_num, by omega, by omega, by rw [Hid, hm2.out]; exact HDS.out.1, fun h => absurd h h2.out, O4.out, KM4.out, R4.out, KR4.out, B4.out, hw4.out⟩
                  case measure => simp [intOf]; omega
              · have hps : patsRd (n1 - j) l' e' = ([], l', e') := patsRd_stop (by omega)
                have HFD : Hid (decM l = if rEnd l' e' ≠ 0 then (zeroM, rEnd l' e') else if s.fine = true ∧ goodM ((kindF k, kindF f, kindF t), s.v, zeroBl, qs) = true then (((kindF k, kindF f, kindF t), s.v, zeroBl, qs), 0) else (zeroM, 4)) := by
                  have h1 := HD.out
                  have h2 := HS.out
                  rw [hps] at h1 h2
                  rw [Hid, hDB0.out, h1]
                  dsimp only
                  by_cases hz : rEnd l' e' = 0
                  · have hzn : ¬ (rEnd l' e' ≠ 0) := fun h => h hz
                    rw [if_neg hzn, if_neg hzn, h2 (rEnd_zero _ _ hz), List.append_nil]
                  · rw [if_pos hz, if_pos hz]
                have HX : Hid (e' = 0 → ∃ (A6 : Option Addr) (c6 : Nat), qs.length ≤ maxLen ∧ Blk wr gm 30 (rawC k f t s.v zeroBl A6 qs.length c6).toArray ∧ PatsAt wr A6 qs.length qs ∧ ∀ u, Stay (fun q => gm ≤ q) wr u → PatsAt u A6 qs.length qs) := fun _ => ⟨A6, c6, by unfold maxLen; omega, KM.out, OW.out.pats.at_, fun u hu => (OW.out.stay (hu.mono fun q h => by have := hgb.out; omega)).pats.at_⟩
                clear HD HS hps
                by_cases hi0 : j < n1
                · have hmi : (j : Int) < (n1 : Int) := by omega
                  have hz : ((e' : Int) == 0) = false := by rw [beq_eq_false_iff_ne]; omega
                  replace hgo := Lib.hid hgo
                  go_wp2_with fail
                  go_meet
                  case rel => exact ⟨qs, l', e', HFD.out, RD.out, KR.out, BW.out, HX.out⟩
                · have hmi : ¬ (j : Int) < (n1 : Int) := by omega
                  replace hgo := Lib.hid hgo
                  go_wp2_with fail
                  go_meet
                  case rel => exact ⟨qs, l', e', HFD.out, RD.out, KR.out, BW.out, HX.out⟩
          · have z2 : ((k : Int) == 2) = false := by rw [beq_eq_false_iff_ne]; omega
            have hr : restRd k l4 e4 = ((bl, []), l5, e5) := by
              have hb2 := hbr.out
              unfold restRd
              by_cases hk1 : k = 1
              · rw [if_pos hk1] at hb2 ⊢
                unfold bindR pureR
                rw [hb2]
              · rw [if_neg hk1] at hb2 ⊢
                rw [if_neg hk2]
                simp only [Prod.mk.injEq] at hb2
                obtain ⟨rfl, rfl, rfl⟩ := hb2
                rfl
            rw [hr] at hDB0
            dsimp only at hDB0
            clear hr
            replace hk2 := Lib.hid hk2
            go_wp2_with fail
            go_meet
            case rel => exact ⟨[], l5, e5, hDB0.out, R13.out, KR13.out, B13.out, fun _ => ⟨none, 0, Nat.zero_le _, KM13.out, pats_none _, fun u _ => pats_none u⟩⟩
        case rest =>
          clear R13 KM13 KR13 B13 hbr hDB0
          obtain ⟨pats, l6, e6, hDB, Rt, KRt, Bt, HX⟩ := hcut
          have HEn := Lib.hid (rrEnd_any Rt.out)
          have HRZ := Lib.hid (rEnd_zero l6 e6)
          obtain ⟨re, hre⟩ : ∃ re, re = rEnd l6 e6 := ⟨_, rfl⟩
          rw [← hre] at HEn hDB HRZ
          clear hre Rt
          go_wp2_with fail
          refine HEn.out.mono ?_
          rintro e _ ⟨rfl, rfl⟩
          by_cases hz : re = 0
          · have z0 : ((re : Int) != 0) = false := by rw [hz]; rfl
            have hDB2 := hDB.out
            rw [if_neg (fun h => h hz)] at hDB2
            replace hDB2 := Lib.hid hDB2
            obtain ⟨A6, c6, h2, h3, h4, h5⟩ := HX.out (HRZ.out hz)
            have PLE := Lib.hid h2
            have KMt := Lib.hid h3
            have PI := Lib.hid h4
            have PS := Lib.hid h5
            clear hDB HRZ hz HX h2 h3 h4 h5 HEn
            obtain ⟨fine, hfi⟩ : ∃ F, F = s.fine := ⟨_, rfl⟩
            rw [← hfi] at hDB2 ⊢
            clear hfi
            cases fine
            · have EQ : Hid (decM l = (zeroM, 4)) := by rw [Hid, hDB2.out, if_neg (fun h => by cases h.1)]
              clear hDB2 PI PS KMt PLE
              have kp3 : Kept (fun k => k = gr) wc (wc.setRow gr Tryz.zeroCells30) := kept_row (fun k => k = gr) wc rfl _
              have BF : Hid (Below w.heap.size w (wc.setRow gr Tryz.zeroCells30)) := Bt.out.trans (kp3.below (fun k e => by rw [e]; exact Nat.le_of_eq hgr.out.symm) Bt.out.size)
              have KF : Hid (Blk (wc.setRow gr Tryz.zeroCells30) gr 30 Tryz.zeroCells30) := KRt.out.row _
              clear kp3
              go_wp2_with (first
                | (refine wpList_store_row rfl 30 _ _ (by rfl) gr Tryz.zeroCells30 (by rfl) (by rfl) _ _ KRt.out IZ2.out (by rw [EZ.out]) OZ2.out ?_)
                | (refine bodyPost_ret (results_row_tmp rfl _ _ gr _ Tryz.zeroCells30 _ rfl KF.out underMsg rfl IZ2.out) rfl ?_
                   unfold DecRet
                   rw [EQ.out]
                   exact ⟨Z, by rw [← EZ.out]; rfl, ZAT.out _, BF.out⟩))
            · obtain ⟨M, hM⟩ : ∃ M : MsgV, M = ((kindF k, kindF f, kindF t), s.v, bl, pats) := ⟨_, rfl⟩
              rw [← hM] at hDB2
              obtain ⟨CS, hCS⟩ : ∃ CS, CS = rawC k f t s.v bl A6 pats.length c6 := ⟨_, rfl⟩
              rw [← hCS] at KMt
              have MA : Hid (MsgAt wc CS M) := by
                rw [Hid, hCS, hM, rawC_msg (by omega) (by omega) (by omega) s.v bl pats]
                exact ⟨⟨VO.out, BLO.out⟩, ⟨A6, c6, rfl, PI.out⟩, PLE.out⟩
              have MX : Hid (∀ u, Stay (fun q => gm ≤ q) wc u → MsgAt u CS M) := fun u hu => by
                rw [hCS, hM, rawC_msg (by omega) (by omega) (by omega) s.v bl pats]
                exact ⟨⟨VO.out, BLO.out⟩, ⟨A6, c6, rfl, PS.out u hu⟩, PLE.out⟩
              have IC : Hid ((Tryz.prog.info? 30).map (·.size) = some CS.toArray.size) := by rw [Hid, hCS, List.size_toArray, rawC_len VO.out BLO.out]; exact infoMsg
              have clen : Hid (CS.length = 72) := by rw [Hid, hCS]; exact rawC_len VO.out BLO.out A6 pats.length c6
              have OC : Hid (CS.toArray.all (·.oneCell') = true) := by rw [Hid, hCS]; exact rawC_one _ _ _ _ _ _ _ _
              have HG := Lib.hid (rmsgGood_any M wc CS MA.out)
              replace hCS := Lib.hid hCS
              replace hM := Lib.hid hM
              obtain ⟨G, hG⟩ : ∃ G, G = goodM M := ⟨_, rfl⟩
              rw [← hG] at HG hDB2
              clear PI PS hG
              go_wp2_with (refine wpList_load_rowG (by kernel_rfl) 30 _ (by rfl) gm (by rfl) _ _ _ _ KMt.out underMsg rfl IC.out ?_)
              refine HG.out.mono ?_
              rintro e w20 ⟨rfl, b20⟩
              have KR20 := Lib.hid (KRt.out.ext b20)
              have KM20 := Lib.hid (KMt.out.ext b20)
              have B20 := Lib.hid (Bt.out.trans (b20.mono Bt.out.size))
              have ST20 : Hid (Stay (fun q => gm ≤ q) wc w20) := Stay.of_below b20
              clear b20 KRt KMt Bt HG MA
              cases G
              · have EQ : Hid (decM l = (zeroM, 4)) := by rw [Hid, hDB2.out, if_neg (fun h => by cases h.2)]
                clear hDB2
                have kp3 : Kept (fun k => k = gr) w20 (w20.setRow gr Tryz.zeroCells30) := kept_row (fun k => k = gr) w20 rfl _
                have BF : Hid (Below w.heap.size w (w20.setRow gr Tryz.zeroCells30)) := B20.out.trans (kp3.below (fun k e => by rw [e]; exact Nat.le_of_eq hgr.out.symm) B20.out.size)
                have KF : Hid (Blk (w20.setRow gr Tryz.zeroCells30) gr 30 Tryz.zeroCells30) := KR20.out.row _
                clear kp3
                go_wp2_with (first
                  | (refine wpList_store_row rfl 30 _ _ (by rfl) gr Tryz.zeroCells30 (by rfl) (by rfl) _ _ KR20.out IZ2.out (by rw [EZ.out]) OZ2.out ?_)
                  | (refine bodyPost_ret (results_row_tmp rfl _ _ gr _ Tryz.zeroCells30 _ rfl KF.out underMsg rfl IZ2.out) rfl ?_
                     unfold DecRet
                     rw [EQ.out]
                     exact ⟨Z, by rw [← EZ.out]; rfl, ZAT.out _, BF.out⟩))
              · have EQ : Hid (decM l = (M, 0)) := by rw [Hid, hDB2.out, if_pos (by simp)]
                clear hDB2
                have kp3 : Kept (fun k => k = gr) w20 (w20.setRow gr CS.toArray) := kept_row (fun k => k = gr) w20 rfl _
                have BF : Hid (Below w.heap.size w (w20.setRow gr CS.toArray)) := B20.out.trans (kp3.below (fun k e => by rw [e]; exact Nat.le_of_eq hgr.out.symm) B20.out.size)
                have KF : Hid (Blk (w20.setRow gr CS.toArray) gr 30 CS.toArray) := KR20.out.row _
                have STF : Stay (fun q => gm ≤ q) w20 (w20.setRow gr CS.toArray) := kp3.stay fun q _ h1 h2 => by
                  have h1 : gm ≤ q := h1
                  have h2 : q = gr := h2
                  have := hgs.out
                  omega
                have MF := Lib.hid (MX.out _ (stay_tr34 ST20.out STF))
                clear kp3 STF MX
                go_wp2_with (first
                  | (refine wpList_load_row rfl 30 _ (by rfl) gm (by rfl) _ _ _ _ KM20.out underMsg rfl IC.out ?_)
                  | (refine wpList_store_row rfl 30 _ _ (by rfl) gr CS.toArray (by rfl) (by rfl) _ _ KR20.out IC.out (by simp only [List.size_toArray, clen.out, zl.out]) OC.out ?_)
                  | (refine bodyPost_ret (results_row_tmp rfl _ _ gr _ CS.toArray _ rfl KF.out underMsg rfl IC.out) rfl ?_
                     unfold DecRet
                     rw [EQ.out]
                     exact ⟨CS, rfl, MF.out, BF.out⟩))
          · have z0 : ((re : Int) != 0) = true := by rw [bne_iff_ne]; omega
            have EQ : Hid (decM l = (zeroM, re)) := by rw [Hid, hDB.out, if_pos hz]
            clear hDB HRZ HX
            replace hz := Lib.hid hz
            go_wp2_with fail
            refine HEn.out.mono ?_
            rintro e _ ⟨rfl, rfl⟩
            clear HEn
            have kp3 : Kept (fun k => k = gr) wc (wc.setRow gr Tryz.zeroCells30) := kept_row (fun k => k = gr) wc rfl _
            have BF : Hid (Below w.heap.size w (wc.setRow gr Tryz.zeroCells30)) := Bt.out.trans (kp3.below (fun k e => by rw [e]; exact Nat.le_of_eq hgr.out.symm) Bt.out.size)
            have KF : Hid (Blk (wc.setRow gr Tryz.zeroCells30) gr 30 Tryz.zeroCells30) := KRt.out.row _
            clear kp3
            go_wp2_with (first
              | (refine wpList_store_row rfl 30 _ _ (by rfl) gr Tryz.zeroCells30 (by rfl) (by rfl) _ _ KRt.out IZ2.out (by rw [EZ.out]) OZ2.out ?_)
              | (refine bodyPost_ret (results_row_tmp rfl _ _ gr _ Tryz.zeroCells30 _ rfl KF.out underMsg rfl IZ2.out) rfl ?_
                 unfold DecRet
                 rw [EQ.out]
                 exact ⟨Z, by rw [← EZ.out]; rfl, ZAT.out _, BF.out⟩))
  · obtain ⟨re, hre⟩ : ∃ re, re = (openB l).2 := ⟨_, rfl⟩
    have EQ : Hid (decM l = (zeroM, re)) := by rw [Hid, hre]; unfold decM; rw [if_pos (by omega)]
    rw [← hre] at hop ⊢
    have z0 : ((re : Int) != 0) = true := by rw [bne_iff_ne]; omega
    clear hre o2
    have kp3 : Kept (fun k => k = gr) w2 (w2.setRow gr Tryz.zeroCells30) := kept_row (fun k => k = gr) w2 rfl _
    have BF : Hid (Below w.heap.size w (w2.setRow gr Tryz.zeroCells30)) := B2.out.trans (kp3.below (fun k e => by rw [e]; exact Nat.le_of_eq hgr.out.symm) B2.out.size)
    have KF : Hid (Blk (w2.setRow gr Tryz.zeroCells30) gr 30 Tryz.zeroCells30) := KR2.out.row _
    clear kp3
    go_wp2_with (first
      | (refine wpList_store_row rfl 30 _ _ (by rfl) gr Tryz.zeroCells30 (by rfl) (by rfl) _ _ KR2.out IZ2.out (by rw [EZ.out]) OZ2.out ?_)
      | (refine bodyPost_ret (results_row_tmp rfl _ _ gr _ Tryz.zeroCells30 _ rfl KF.out underMsg rfl IZ2.out) rfl ?_
         unfold DecRet
         rw [EQ.out]
         exact ⟨Z, by rw [← EZ.out]; rfl, ZAT.out _, BF.out⟩))
end Go.Proofs.YtdafiipedlglpaaGreatDoor
