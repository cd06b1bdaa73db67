/- A message is decoded by the program: walked. -/
import Derived.Test.YtdafiipedlglpaaGreatDoorMsgl
import Derived.Test.YtdafiipedlglpaaGreatDoorHints
import Derived.Deep.CutBlock
import Derived.Deep.DeepCutAuto
namespace Go.Proofs.YtdafiipedlglpaaGreatDoor
open Go.RowKit

def rawC (k f t : Nat) (v : List Int) (bl : List Nat) (A : Option Addr) (n c : Nat) : List Value := .int .u8 (k : Int) :: .int .u8 (f : Int) :: .int .u8 (t : Int) :: (vecK v ++ (encBl bl ++ [.slice A n c]))
theorem rawC_msg {k f t : Nat} (hk : k < 256) (hf : f < 256) (ht : t < 256) (v : List Int) (bl : List Nat) (ps : List PatV) (A : Option Addr) (n c : Nat) : rawC k f t v bl A n c = msgC ((kindF k, kindF f, kindF t), v, bl, ps) A n c := by
  have e1 : (kindF k).val = k := Nat.mod_eq_of_lt hk
  have e2 : (kindF f).val = f := Nat.mod_eq_of_lt hf
  have e3 : (kindF t).val = t := Nat.mod_eq_of_lt ht
  unfold rawC msgC
  rw [e1, e2, e3]
theorem rawC_len {k f t : Nat} {v : List Int} {bl : List Nat} (hv : VecOk v) (hb : BlOk bl) (A : Option Addr) (n c : Nat) : (rawC k f t v bl A n c).length = 72 := by
  unfold rawC
  simp only [List.length_cons, List.length_append, vecK_len hv, encBl_len hb, List.length_nil]
theorem rawC_one (k f t : Nat) (v : List Int) (bl : List Nat) (A : Option Addr) (n c : Nat) : (rawC k f t v bl A n c).toArray.all (·.oneCell') = true := all_oneCell_toArray fun u hu => by
  unfold rawC at hu
  simp only [List.mem_cons, List.mem_append, List.not_mem_nil, or_false] at hu
  rcases hu with rfl | rfl | rfl | hu | hu | rfl
  · rfl
  · rfl
  · rfl
  · obtain ⟨x, _, rfl⟩ := List.mem_map.1 hu; rfl
  · obtain ⟨x, _, rfl⟩ := List.mem_map.1 hu; rfl
  · rfl
theorem allocMsg (w : World) : (Instr.alloc 30 true (.tuple #[])).run Tryz.prog w = .ok (.pointer (some ⟨w.heap.size, 0, none⟩)) (w.alloc (.cells (rawC 0 0 0 vec0 zeroBl none 0 0).toArray 30)) := by kernel_rfl
theorem buildMsg0 (w : World) : (Instr.build 30 #[]).run Tryz.prog w = .ok (.agg (rawC 0 0 0 vec0 zeroBl none 0 0).toArray) w := by kernel_rfl
theorem buildMsg3 (k f t : Nat) (w : World) : (Instr.build 30 #[(0, .int .u8 (k : Int)), (1, .int .u8 (f : Int)), (2, .int .u8 (t : Int))]).run Tryz.prog w = .ok (.agg (rawC k f t vec0 zeroBl none 0 0).toArray) w := by kernel_rfl
theorem infoMsg : (Tryz.prog.info? 30).map (·.size) = some 72 := by kernel_rfl
theorem zeroM_at (w : World) : MsgAt w (rawC 0 0 0 vec0 zeroBl none 0 0) zeroM :=
  ⟨⟨vec0_ok, zeroBl_ok⟩, ⟨none, 0, rfl, ⟨rfl, [], ⟨rfl, fun _ _ _ h => by simp at h⟩, ⟨rfl, fun h => absurd h (by decide)⟩⟩⟩, by decide⟩
/-- a run of cells in the middle of a block is written -/
theorem setCells_blk {g : Nat} {t : TypeId} : ∀ (vs old pre post : List Value) (w : World), old.length = vs.length → Blk w g t (pre ++ (old ++ post)).toArray → Blk (w.setCells g pre.length vs) g t (pre ++ (vs ++ post)).toArray ∧ Kept (fun k => k = g) w (w.setCells g pre.length vs)
  | [], old, pre, post, w, hl, h => by
    have : old = [] := List.eq_nil_of_length_eq_zero hl
    subst this
    exact ⟨h, Kept.refl _ _⟩
  | v :: vs, [], pre, post, w, hl, h => by simp at hl
  | v :: vs, x :: old, pre, post, w, hl, h => by
    have h1 := h.set_ pre.length v
    have e : (pre ++ (x :: old ++ post)).toArray.setIfInBounds pre.length v = ((pre ++ [v]) ++ (old ++ post)).toArray := by
      rw [List.setIfInBounds_toArray]
      congr 1
      rw [List.set_append_right _ _ (Nat.le_refl _), Nat.sub_self]
      simp
    rw [e] at h1
    have h2 := setCells_blk vs old (pre ++ [v]) post _ (by simpa using hl) h1
    rw [List.length_append] at h2
    refine ⟨?_, ?_⟩
    · have := h2.1
      rw [List.append_assoc] at this
      exact this
    · exact (((Kept.refl (fun k => k = g) w).setCell (p := ⟨g, pre.length, none⟩) (.inl rfl) _)).trans h2.2 fun _ e => .inl e
theorem raw_vec {w : World} {g k f t : Nat} {v v' : List Int} {bl : List Nat} {A : Option Addr} {n c : Nat} (hv : VecOk v) (hv' : VecOk v') (h : Blk w g 30 (rawC k f t v bl A n c).toArray) : Blk (w.setCells g 3 (vecK v')) g 30 (rawC k f t v' bl A n c).toArray ∧ Kept (fun k => k = g) w (w.setCells g 3 (vecK v')) :=
  setCells_blk (vecK v') (vecK v) [.int .u8 (k : Int), .int .u8 (f : Int), .int .u8 (t : Int)] (encBl bl ++ [.slice A n c]) w (by rw [vecK_len hv, vecK_len hv']) h
theorem there_raw {w : World} {g k f t : Nat} {v v' : List Int} {bl : List Nat} {A : Option Addr} {n c : Nat} (hv : VecOk v) (hb : BlOk bl) (hv' : VecOk v') (h : Blk w g 30 (rawC k f t v bl A n c).toArray) : w.there g 3 (vecK v').toArray.size := fun i hi => by
  rw [List.size_toArray, vecK_len hv'] at hi
  refine ⟨?_, h.fr _⟩
  rw [h.cell, List.getElem?_toArray, List.getElem?_eq_getElem (by rw [rawC_len hv hb]; omega)]
  rfl
theorem pats_none (w : World) : PatsAt w none 0 [] := ⟨rfl, [], ⟨rfl, fun _ _ _ h => by simp at h⟩, ⟨rfl, fun h => absurd h (by decide)⟩⟩
theorem rEnd_zero (l : List UInt8) (e : Nat) : rEnd l e = 0 → e = 0 := by
  unfold rEnd
  split
  · intro h; cases h
  · exact id
theorem stay_tr34 {G : Nat → Prop} {a b c : World} (h : Stay G a b) (k : Stay G b c) : Stay G a c := ⟨Nat.le_trans h.1 k.1, fun q hq hg => (k.2 q (Nat.lt_of_lt_of_le hq h.1) hg).trans (h.2 q hq hg)⟩
theorem msgRd_eq {b l1 l2 l3 l4 : List UInt8} {k f t e1 e2 e3 e4 : Nat} {ps : List (Nat × Nat)} (h1 : rByte 2 b 0 = (k, l1, e1)) (h2 : rByte 64 l1 e1 = (f, l2, e2)) (h3 : rByte 64 l2 e2 = (t, l3, e3)) (h4 : vecRd l3 e3 = (ps, l4, e4)) : msgRd b 0 = (((k, f, t), ps, (restRd k l4 e4).1), (restRd k l4 e4).2) := by
  simp only [vecRd, bindR] at h4
  simp only [msgRd, bindR, pureR, h1, h2, h3, h4]
theorem raw_cut (k f t : Nat) (v : List Int) (bl : List Nat) (A : Option Addr) (n c : Nat) : rawC k f t v bl A n c = (.int .u8 (k : Int) :: .int .u8 (f : Int) :: .int .u8 (t : Int) :: (vecK v ++ encBl bl)) ++ [.slice A n c] := by unfold rawC; simp
theorem raw_last {k f t : Nat} {v : List Int} {bl : List Nat} (hv : VecOk v) (hb : BlOk bl) (A : Option Addr) (n c : Nat) : (rawC k f t v bl A n c).toArray[71]? = some (.slice A n c) := by
  have hl : (Value.int .u8 (k : Int) :: .int .u8 (f : Int) :: .int .u8 (t : Int) :: (vecK v ++ encBl bl)).length = 71 := by simp only [List.length_cons, List.length_append, vecK_len hv, encBl_len hb]
  rw [List.getElem?_toArray, raw_cut, List.getElem?_append_right (by omega), hl]
  rfl
theorem raw_set {k f t : Nat} {v : List Int} {bl : List Nat} (hv : VecOk v) (hb : BlOk bl) (A A' : Option Addr) (n c n' c' : Nat) : (rawC k f t v bl A n c).toArray.setIfInBounds 71 (.slice A' n' c') = (rawC k f t v bl A' n' c').toArray := by
  have hl : (Value.int .u8 (k : Int) :: .int .u8 (f : Int) :: .int .u8 (t : Int) :: (vecK v ++ encBl bl)).length = 71 := by simp only [List.length_cons, List.length_append, vecK_len hv, encBl_len hb]
  rw [List.setIfInBounds_toArray, raw_cut, raw_cut, List.set_append_right _ _ (by omega), hl]
  rfl
theorem rEnd_err {l : List UInt8} {e : Nat} (h : e ≠ 0) : rEnd l e = e := if_neg fun h2 => h h2.1
theorem numsRd_go (n : Nat) (l : List UInt8) (e : Nat) : numsRd (n + 1) l e = ((rNum 18446744073709551615 l e).1 :: (numsRd n (rNum 18446744073709551615 l e).2.1 (rNum 18446744073709551615 l e).2.2).1, (numsRd n (rNum 18446744073709551615 l e).2.1 (rNum 18446744073709551615 l e).2.2).2) := rfl
def blAt (bs : List Nat) : List Nat := bs ++ List.replicate (4 - bs.length) 0
theorem blAt_set {bs : List Nat} {i : Nat} (h : bs.length = i) (hi : i < 4) (x : Nat) : (blAt bs).set i x = blAt (bs ++ [x]) := by
  unfold blAt
  obtain ⟨m, hm⟩ : ∃ m, 4 - bs.length = m + 1 := ⟨3 - bs.length, by omega⟩
  rw [hm, List.replicate_succ, List.set_append_right _ _ (by omega), h, Nat.sub_self, List.set_cons_zero, List.append_assoc, List.length_append, List.length_singleton]
  have e : 4 - (i + 1) = m := by omega
  rw [h, e]
  rfl
theorem blAt_ok {bs : List Nat} (h : bs.length ≤ 4) (hb : ∀ x ∈ bs, x < 18446744073709551616) : BlOk (blAt bs) := by
  refine ⟨by unfold blAt; rw [List.length_append, List.length_replicate]; omega, fun x hx => ?_⟩
  unfold blAt at hx
  rcases List.mem_append.1 hx with hx | hx
  · exact hb x hx
  · rw [List.eq_of_mem_replicate hx]; omega
theorem raw_bl {k f t : Nat} {v : List Int} (hv : VecOk v) (bl : List Nat) {i : Nat} (hi : i < bl.length) (x : Nat) (A : Option Addr) (n c : Nat) : (rawC k f t v bl A n c).toArray.setIfInBounds (67 + i) (.int .u64 (x : Int)) = (rawC k f t v (bl.set i x) A n c).toArray := by
  have e : ∀ b, rawC k f t v b A n c = (.int .u8 (k : Int) :: .int .u8 (f : Int) :: .int .u8 (t : Int) :: vecK v) ++ (encBl b ++ [.slice A n c]) := fun b => by unfold rawC; simp
  have hl : (Value.int .u8 (k : Int) :: .int .u8 (f : Int) :: .int .u8 (t : Int) :: vecK v).length = 67 := by simp only [List.length_cons, vecK_len hv]
  have hb : (encBl bl).length = bl.length := by unfold encBl; rw [List.length_map]
  rw [List.setIfInBounds_toArray, e, e, List.set_append_right _ _ (by omega), hl, Nat.add_sub_cancel_left, List.set_append_left _ _ (by omega), encBl_set]
theorem raw_blAt {k f t : Nat} {v : List Int} (hv : VecOk v) (bl : List Nat) {i : Nat} (hi : i < bl.length) (A : Option Addr) (n c : Nat) : ∃ u, (rawC k f t v bl A n c).toArray[67 + i]? = some u := by
  have hl : (rawC k f t v bl A n c).length = 68 + bl.length := by
    unfold rawC
    simp only [List.length_cons, List.length_append, vecK_len hv, List.length_nil]
    unfold encBl
    rw [List.length_map]
    omega
  exact ⟨_, by rw [List.getElem?_toArray]; exact List.getElem?_eq_getElem (by omega)⟩
theorem idx67 (g : Nat) {i : Nat} (hi : i < 4) (w : World) : (Instr.indexAt 27 (.pointer (some ⟨g, 67, none⟩)) (.int .i64 ((i : Nat) : Int))).run Tryz.prog w = .ok (.pointer (some ⟨g, 67 + i, none⟩)) w := by
  have h0 : (0 : Int) ≤ (i : Int) := by omega
  have h1 : (i : Int) < 4 := by omega
  simp [go_sem, h0, h1]
def DecRet (w : World) (l : List UInt8) (en : Ending) (w' : World) : Prop :=
  ∃ cs : List Value, en = .returned (.tuple #[.agg cs.toArray, .int .i64 (((decM l).2 : Nat) : Int)]) ∧ MsgAt w' cs (decM l).1 ∧ Below w.heap.size w w'
set_option maxRecDepth 100000 in
set_option maxHeartbeats 8000000 in
theorem decM_any (l : List UInt8) (w : World) (A : Option Addr) (n c : Nat) (h : BytesAt w A n c l) (hm : n ≤ 10000000) (hF : FourOk w) : Calls Tryz.prog 22 #[.slice A n c] w (DecRet w l) := by
  obtain ⟨Z, hZ⟩ : ∃ Z, Z = rawC 0 0 0 vec0 zeroBl none 0 0 := ⟨_, rfl⟩
  have KR1 : Hid (Blk (w.alloc (.cells Z.toArray 30)) w.heap.size 30 Z.toArray) := Blk.new _ _ _
  have B1 : Hid (Below w.heap.size w (w.alloc (.cells Z.toArray 30))) := below_new _ _
  have AL : Hid (∀ u : World, (Instr.alloc 30 true (.tuple #[])).run Tryz.prog u = .ok (.pointer (some ⟨u.heap.size, 0, none⟩)) (u.alloc (.cells Z.toArray 30))) := by rw [Hid, hZ]; exact allocMsg
  have B0Z : Hid (∀ u : World, (Instr.build 30 #[]).run Tryz.prog u = .ok (.agg Z.toArray) u) := by rw [Hid, hZ]; exact buildMsg0
  have IZ : Hid ((Tryz.prog.info? 30).map (·.size) = some Z.toArray.size) := by rw [Hid, hZ, List.size_toArray, rawC_len vec0_ok zeroBl_ok]; exact infoMsg
  have OZ : Hid (Z.toArray.all (·.oneCell') = true) := by rw [Hid, hZ]; exact rawC_one _ _ _ _ _ _ _ _
  have ZAT : Hid (∀ u, MsgAt u Z zeroM) := by rw [Hid, hZ]; exact zeroM_at
  have EZ : Hid (Tryz.zeroCells30 = Z.toArray) := by rw [Hid, hZ]; kernel_rfl
  have IZ2 : Hid ((Tryz.prog.info? 30).map (·.size) = some Tryz.zeroCells30.size) := by rw [Hid, EZ.out]; exact IZ.out
  have OZ2 : Hid (Tryz.zeroCells30.all (·.oneCell') = true) := by rw [Hid, EZ.out]; exact OZ.out
  have zl : Hid (Z.length = 72) := by rw [Hid, hZ]; exact rawC_len vec0_ok zeroBl_ok none 0 0
  replace hZ := Lib.hid hZ
  have HB := Lib.hid (h.ext B1.out)
  have HO := Lib.hid (open_any l _ A n c HB.out hm (four_ext hF B1.out))
  have hln := h.len
  clear h hF HB
  go_enter Tryz.func22, Tryz.ntmps22
  go_upto_region 1 with (refine wpList_alloced (AL.out _) ?_)
  generalize (w.alloc (.cells Z.toArray 30)) = w1 at *
  obtain ⟨gr, hgr⟩ : ∃ gr, gr = w.heap.size := ⟨_, rfl⟩
  rw [← hgr] at KR1 ⊢
  replace hgr := Lib.hid hgr
  go_wp2_with fail
  refine HO.out.mono ?_
  rintro e w2 ⟨v2, rfl, o2, b2⟩
  have KR2 := Lib.hid (KR1.out.ext b2)
  have B2 := Lib.hid (B1.out.trans (b2.mono B1.out.size))
  clear b2 KR1 B1 HO
  rcases Nat.eq_zero_or_pos (openB l).2 with hop | hop
  · obtain ⟨b, hb⟩ : ∃ b, openB l = (b, 0) := ⟨(openB l).1, Prod.ext rfl hop⟩
    have hdm : Hid (decM l = decBody b) := by
      rw [Hid]; unfold decM; rw [hb, if_neg (fun h => h rfl)]
    rw [hb] at o2 ⊢
    dsimp only at o2 ⊢
    obtain ⟨A2, c2, rfl, ba⟩ := own_bytes o2 rfl
    have HR := Lib.hid (rdOpen_any b w2 A2 _ c2 ba)
    clear o2 ba hb hop
    go_wp2_with fail
    refine HR.out.mono ?_
    rintro e w3 ⟨g, rfl, R, b3, hg⟩
    have R3 := Lib.hid R
    have KR3 := Lib.hid (KR2.out.ext b3)
    have B3 := Lib.hid (B2.out.trans (b3.mono B2.out.size))
    have hrg : Hid (gr < g) := by rw [Hid, hg]; exact KR2.out.lt
    obtain ⟨B, hBB⟩ : ∃ B, B = w2.heap.size := ⟨_, rfl⟩
    rw [← hBB] at R3
    clear R b3 hg KR2 B2 hBB HR
    have hgw : Hid (gr = w.heap.size ∧ w.heap.size ≤ g) := ⟨hgr.out, by have := hrg.out; have := hgr.out; omega⟩
    have hB1 := Lib.hid (rdByte_any R3.out 2)
    go_wp2_with fail
    refine hB1.out.mono ?_
    rintro e w4 ⟨rfl, kp, R⟩
    have hkl := rByte_le 2 b 0
    obtain ⟨k, l1, e1, hke⟩ : ∃ x y z, rByte 2 b 0 = (x, y, z) := ⟨_, _, _, rfl⟩
    rw [hke] at hkl R ⊢
    dsimp only at hkl R ⊢
    replace hke := Lib.hid hke
    have R4 := Lib.hid R
    have B4 : Hid (Below w.heap.size w w4) := B3.out.trans (kp.below (fun k e => by rw [e]; exact hgw.out.2) B3.out.size)
    have KR4 := Lib.hid (KR3.out.keep (kp.block gr KR3.out.lt (by have := hrg.out; omega)))
    clear kp R R3 KR3 B3 hB1
    have hB2 := Lib.hid (rdByte_any R4.out 64)
    go_wp2_with fail
    refine hB2.out.mono ?_
    rintro e w5 ⟨rfl, kp, R⟩
    have hfl := rByte_le 64 l1 e1
    obtain ⟨f, l2, e2, hfe⟩ : ∃ x y z, rByte 64 l1 e1 = (x, y, z) := ⟨_, _, _, rfl⟩
    rw [hfe] at hfl R ⊢
    dsimp only at hfl R ⊢
    replace hfe := Lib.hid hfe
    have R5 := Lib.hid R
    have B5 : Hid (Below w.heap.size w w5) := B4.out.trans (kp.below (fun k e => by rw [e]; exact hgw.out.2) B4.out.size)
    have KR5 := Lib.hid (KR4.out.keep (kp.block gr KR4.out.lt (by have := hrg.out; omega)))
    clear kp R R4 KR4 B4 hB2
    have hB3 := Lib.hid (rdByte_any R5.out 64)
    go_wp2_with fail
    refine hB3.out.mono ?_
    rintro e w6 ⟨rfl, kp, R⟩
    have htl := rByte_le 64 l2 e2
    obtain ⟨t, l3, e3, hte⟩ : ∃ x y z, rByte 64 l2 e2 = (x, y, z) := ⟨_, _, _, rfl⟩
    rw [hte] at htl R ⊢
    dsimp only at htl R ⊢
    replace hte := Lib.hid hte
    have R6 := Lib.hid R
    have B6 : Hid (Below w.heap.size w w6) := B5.out.trans (kp.below (fun k e => by rw [e]; exact hgw.out.2) B5.out.size)
    have KR6 := Lib.hid (KR5.out.keep (kp.block gr KR5.out.lt (by have := hrg.out; omega)))
    clear kp R R5 KR5 B5 hB3
    obtain ⟨C0, hC0⟩ : ∃ C0, C0 = rawC k f t vec0 zeroBl none 0 0 := ⟨_, rfl⟩
    have BM := Lib.hid (fun u => buildMsg3 k f t u)
    have IM : Hid ((Tryz.prog.info? 30).map (·.size) = some C0.toArray.size) := by rw [Hid, hC0, List.size_toArray, rawC_len vec0_ok zeroBl_ok]; exact infoMsg
    have c0l : Hid (C0.length = 72) := by rw [Hid, hC0]; exact rawC_len vec0_ok zeroBl_ok none 0 0
    have OM : Hid (C0.toArray.all (·.oneCell') = true) := by rw [Hid, hC0]; exact rawC_one _ _ _ _ _ _ _ _
    rw [← hC0] at BM
    replace hC0 := Lib.hid hC0
    have KZ : Hid (Blk (w6.alloc (.cells Z.toArray 30)) w6.heap.size 30 Z.toArray) := Blk.new _ _ _
    have KM : Hid (Blk ((w6.alloc (.cells Z.toArray 30)).setRow w6.heap.size C0.toArray) w6.heap.size 30 C0.toArray) := KZ.out.row _
    have BN : Hid (Below w6.heap.size w6 ((w6.alloc (.cells Z.toArray 30)).setRow w6.heap.size C0.toArray)) := below_setRow (below_new w6 _) (Nat.le_refl _) _
    go_upto_region 6 with (first
      | (refine wpList_built (BM.out _) ?_ ?_; simp only [List.map_toArray, List.map_cons, List.map_nil]; rfl)
      | (refine wpList_alloced (AL.out _) ?_)
      | (refine wpList_store_row rfl 30 _ _ (by rfl) w6.heap.size C0.toArray (by rfl) (by rfl) _ _ KZ.out IM.out (by simp only [List.size_toArray, c0l.out, zl.out]) OM.out ?_))
    generalize ((w6.alloc (.cells Z.toArray 30)).setRow w6.heap.size C0.toArray) = w7 at *
    have R7 := Lib.hid (R6.out.ext BN.out)
    have B7 := Lib.hid (B6.out.trans (BN.out.mono B6.out.size))
    have KR7 := Lib.hid (KR6.out.ext BN.out)
    have hgl : g < w6.heap.size := by obtain ⟨_, _, h1, _⟩ := R6.out.ex; exact h1.lt
    have hws6 : w.heap.size ≤ w6.heap.size := B6.out.size
    obtain ⟨gm, hgme⟩ : ∃ gm, gm = w6.heap.size := ⟨_, rfl⟩
    rw [← hgme] at KM hgl hws6 ⊢
    clear BN KZ R6 B6 KR6 hgme BM IM OM c0l
    have hgs : Hid (gr < g ∧ g < gm ∧ w.heap.size ≤ gm) := ⟨hrg.out, hgl, hws6⟩
    rw [hC0.out] at KM
    clear hC0 hgl hws6
    have HV := Lib.hid (readVec_any R7.out)
    go_wp2_with fail
    refine HV.out.mono ?_
    rintro e w8 ⟨v, fine, rfl, vok, kp, R, hps⟩
    obtain ⟨ps, l4, e4, hve⟩ : ∃ x y z, vecRd l3 e3 = (x, y, z) := ⟨_, _, _, rfl⟩
    rw [hve] at R hps
    dsimp only at R hps
    replace hve := Lib.hid hve
    replace hps := Lib.hid hps
    have VO := Lib.hid vok
    have R8 := Lib.hid R
    have B8 : Hid (Below w.heap.size w w8) := B7.out.trans (kp.below (fun k e => by rw [e]; exact hgw.out.2) B7.out.size)
    have KR8 := Lib.hid (KR7.out.keep (kp.block gr KR7.out.lt (by have := hgs.out; omega)))
    have KM8 := Lib.hid (KM.out.keep (kp.block gm KM.out.lt (by have := hgs.out; omega)))
    clear kp R R7 B7 KR7 KM vok HV
    have TH := Lib.hid (there_raw vec0_ok zeroBl_ok VO.out KM8.out)
    have I64 : Hid ((Tryz.prog.info? 24).map (·.size) = some (vecK v).toArray.size) := by rw [Hid, vecK_size VO.out]; exact info64
    have O64 := Lib.hid (vecK_one v)
    have KM9 := Lib.hid (raw_vec vec0_ok VO.out KM8.out).1
    have kp9 := (raw_vec vec0_ok VO.out KM8.out).2
    have R9 := Lib.hid (R8.out.keepB kp9 (by have := hgs.out; omega) (by have := R8.out.ge; have := hgs.out; omega))
    have KR9 := Lib.hid (KR8.out.keep (kp9.block gr KR8.out.lt (by have := hgs.out; omega)))
    have B9 : Hid (Below w.heap.size w (w8.setCells gm 3 (vecK v))) := B8.out.trans (kp9.below (fun k e => by rw [e]; exact hgs.out.2.2) B8.out.size)
    clear kp9 R8 KR8 B8 KM8
    go_upto_region 8 with (refine wpList_store_mid rfl 24 _ _ rfl gm 3 (vecK v).toArray (by rfl) (by rfl) TH.out I64.out O64.out ?_)
    try simp only [List.toList_toArray]
    clear TH I64 O64
    generalize (w8.setCells gm 3 (vecK v)) = w9 at *
    have HST : Hid ((restRd k l4 e4).2.2 = 0 → e4 = 0) := fun h => by
      rcases Nat.eq_zero_or_pos e4 with h0 | h0
      · exact h0
      · rw [sticky_rest k l4 e4 (by omega)] at h; exact absurd h (by omega)
    have hDB0 : Hid (decM l = if rEnd (restRd k l4 e4).2.1 (restRd k l4 e4).2.2 ≠ 0 then (zeroM, rEnd (restRd k l4 e4).2.1 (restRd k l4 e4).2.2) else if (foldP ps).fine = true ∧ goodM ((kindF k, kindF f, kindF t), (foldP ps).v, (restRd k l4 e4).1.1, (restRd k l4 e4).1.2) = true then (((kindF k, kindF f, kindF t), (foldP ps).v, (restRd k l4 e4).1.1, (restRd k l4 e4).1.2), 0) else (zeroM, 4)) := by
      have e : msgRd b 0 = (((k, f, t), ps, (restRd k l4 e4).1), (restRd k l4 e4).2) := msgRd_eq hke.out hfe.out hte.out hve.out
      rw [Hid, hdm.out]
      unfold decBody
      rw [e]
      rfl
    clear hke hfe hte hve hdm
    have y0 : w9.cell? ⟨gm, 0, none⟩ = some (.int .u8 (k : Int)) := KM9.out.cell 0
    go_upto_block 0 with fail
    clear y0
    go_cut [4, 8] (fun _ _ wx => ∃ (l5 : List UInt8) (e5 : Nat) (bl : List Nat) (pats : List PatV), Hid (RdAt wx B g l5 e5) ∧ Hid (Blk wx gr 30 Z.toArray) ∧ Hid (Below w.heap.size w wx) ∧ Hid (decM l = if rEnd l5 e5 ≠ 0 then (zeroM, rEnd l5 e5) else if (foldP ps).fine = true ∧ goodM ((kindF k, kindF f, kindF t), (foldP ps).v, bl, pats) = true then (((kindF k, kindF f, kindF t), (foldP ps).v, bl, pats), 0) else (zeroM, 4)) ∧ Hid (e5 = 0 → e4 = 0) ∧ Hid (e5 = 0 → ∃ (A6 : Option Addr) (c6 : Nat), BlOk bl ∧ pats.length ≤ maxLen ∧ Blk wx gm 30 (rawC k f t v bl A6 pats.length c6).toArray ∧ PatsAt wx A6 pats.length pats ∧ ∀ u, Stay (fun q => gm ≤ q) wx u → PatsAt u A6 pats.length pats))
    case first =>
      by_cases hk1 : k = 1
      · have z1 : ((k : Int) == 1) = true := by rw [beq_iff_eq]; omega
        have hr : restRd k l4 e4 = (((numsRd 4 l4 e4).1, []), (numsRd 4 l4 e4).2) := by unfold restRd; rw [if_pos hk1]; rfl
        rw [hr] at hDB0 HST
        dsimp only at hDB0 HST
        replace hk1 := Lib.hid hk1
        have KM0 : Hid (Blk w9 gm 30 (rawC k f t v (blAt []) none 0 0).toArray) := KM9.out
        clear hr KM9
        go_wp2_with fail
        go_loopw [38] (fun iv wr => ∃ (i : Nat) (bs : List Nat) (l' : List UInt8) (e' : Nat), i ≤ 4 ∧ iv = .int .i64 (i : Int) ∧ Hid (bs.length = i) ∧ Hid (numsRd 4 l4 e4 = (bs ++ (numsRd (4 - i) l' e').1, (numsRd (4 - i) l' e').2)) ∧ Hid (∀ x ∈ bs, x < 18446744073709551616) ∧ Hid (RdAt wr B g l' e') ∧ Hid (Blk wr gm 30 (rawC k f t v (blAt bs) none 0 0).toArray) ∧ Hid (Blk wr gr 30 Z.toArray) ∧ Hid (Below w.heap.size w wr)) (fun iv _ => 4 - (intOf iv).toNat)
        case atStart => exact ⟨0, [], l4, e4, by omega, rfl, rfl, rfl, (fun x hx => by cases hx), R9.out, KM0.out, KR9.out, B9.out⟩
        case round =>
          clear KM0 R9 KR9 B9
          obtain ⟨i, bs, l', e', hi, rfl, hbl, HD, hbx, RD, KM, KR, BW⟩ := hrel
          by_cases hi4 : i < 4
          · have hii : (i : Int) < 4 := by omega
            obtain ⟨m, hm⟩ : ∃ m, 4 - i = m + 1 := ⟨3 - i, by omega⟩
            have hm2 : Hid (4 - (i + 1) = m) := by rw [Hid]; omega
            have HN := Lib.hid (rdNum_any RD.out 18446744073709551615)
            have hxl := rNum_le 18446744073709551615 l' e'
            obtain ⟨x, l2, e2, hx⟩ : ∃ x y z, rNum 18446744073709551615 l' e' = (x, y, z) := ⟨_, _, _, rfl⟩
            have HDS : Hid (numsRd 4 l4 e4 = ((bs ++ [x]) ++ (numsRd m l2 e2).1, (numsRd m l2 e2).2)) := by
              rw [Hid, HD.out, hm, numsRd_go, hx, List.append_assoc]
              rfl
            rw [hx] at HN hxl
            dsimp only at HN hxl
            replace hxl := Lib.hid hxl
            clear hx HD hm
            go_wp2_with fail
            refine HN.out.mono ?_
            rintro e wb ⟨rfl, kp, R⟩
            have Rb := Lib.hid R
            have Bb : Hid (Below w.heap.size w wb) := BW.out.trans (kp.below (fun k e => by rw [e]; exact hgw.out.2) BW.out.size)
            have KRb := Lib.hid (KR.out.keep (kp.block gr KR.out.lt (by have := hgs.out; omega)))
            have KMb := Lib.hid (KM.out.keep (kp.block gm KM.out.lt (by have := hgs.out; omega)))
            clear kp R RD KR KM BW HN
            have hbo : Hid (BlOk (blAt bs)) := blAt_ok (by rw [hbl.out]; omega) hbx.out
            have I67 := Lib.hid (fun u => idx67 gm hi4 u)
            have hcu : ∃ u, wb.cell? ⟨gm, 67 + i, none⟩ = some u := by
              obtain ⟨u, hu⟩ := raw_blAt (k := k) (f := f) (t := t) VO.out (blAt bs) (i := i) (by rw [hbo.out.1]; exact hi4) none 0 0
              exact ⟨u, (KMb.out.cell _).trans hu⟩
            have ST : Hid ((Instr.storeAt 25 (.pointer (some ⟨gm, 67 + i, none⟩)) (.int .u64 (x : Int))).run Tryz.prog wb = .ok () (wb.setCell ⟨gm, 67 + i, none⟩ (.int .u64 (x : Int)))) := by
              obtain ⟨u, hu⟩ := hcu
              exact store64_run gm (67 + i) x wb hu (KMb.out.fr _)
            have KMc : Hid (Blk (wb.setCell ⟨gm, 67 + i, none⟩ (.int .u64 (x : Int))) gm 30 (rawC k f t v (blAt (bs ++ [x])) none 0 0).toArray) := by
              have h1 := KMb.out.set_ (67 + i) (.int .u64 (x : Int))
              rw [raw_bl VO.out (blAt bs) (by rw [hbo.out.1]; exact hi4), blAt_set hbl.out hi4] at h1
              exact h1
            have kp2 : Kept (fun k => k = gm) wb (wb.setCell ⟨gm, 67 + i, none⟩ (.int .u64 (x : Int))) := (Kept.refl (fun k => k = gm) wb).setCell (p := ⟨gm, 67 + i, none⟩) (.inl rfl) _
            have KRc := Lib.hid (KRb.out.keep (kp2.block gr KRb.out.lt (by have := hgs.out; omega)))
            have Bc : Hid (Below w.heap.size w (wb.setCell ⟨gm, 67 + i, none⟩ (.int .u64 (x : Int)))) := Bb.out.trans (kp2.below (fun k e => by rw [e]; exact hgs.out.2.2) Bb.out.size)
            have Rc := Lib.hid (Rb.out.keepB kp2 (by have := hgs.out; omega) (by have := Rb.out.ge; have := hgs.out; omega))
            clear kp2 hcu KMb KRb Bb Rb hbo
            generalize (wb.setCell ⟨gm, 67 + i, none⟩ (.int .u64 (x : Int))) = wd at *
            go_wp2_with (first
              | ((with_reducible refine wpList_idx ?_ ?_ (I67.out _) ?_); rfl; rfl)
              | ((with_reducible refine wpList_st ?_ ?_ ST.out ?_); rfl; rfl))
            go_roundw
            case rel => exact ⟨i + 1, bs ++ [x], l2, e2, by omega, by go_num, by rw [Hid, List.length_append, hbl.out]; rfl, by rw [Hid, hm2.out]; exact HDS.out, fun y hy => (List.mem_append.1 hy).elim (hbx.out y) fun h => by rw [List.mem_singleton.1 h]; have := hxl.out; omega, Rc.out, KMc.out, KRc.out, Bc.out⟩
            case measure => simp [intOf]; omega
          · have hii : ¬ (i : Int) < 4 := by omega
            have hin : 4 - i = 0 := by omega
            have hi5 : Hid (i = 4) := by rw [Hid]; omega
            have HDF : numsRd 4 l4 e4 = (bs, l', e') := by
              rw [HD.out, hin]
              show (bs ++ [], l', e') = _
              rw [List.append_nil]
            rw [HDF] at hDB0 HST
            dsimp only at hDB0 HST
            have hbb : blAt bs = bs := by
              unfold blAt
              rw [hbl.out, hi5.out]
              exact List.append_nil _
            have hbo : Hid (BlOk bs) := by
              have := blAt_ok (bs := bs) (by rw [hbl.out]; omega) hbx.out
              rwa [hbb] at this
            rw [hbb] at KM
            clear HDF hin HD hbb
            go_wp2_with fail
            go_meet
            case rel => exact ⟨l', e', bs, [], RD.out, KR.out, BW.out, hDB0.out, HST.out, fun _ => ⟨none, 0, hbo.out, Nat.zero_le _, KM.out, pats_none _, fun u _ => pats_none u⟩⟩
      by_cases hk2 : k = 2
      · have z1 : ((k : Int) == 1) = false := by rw [beq_eq_false_iff_ne]; omega
        have z2 : ((k : Int) == 2) = true := by rw [beq_iff_eq]; omega
        have hr : restRd k l4 e4 = ((zeroBl, (psRd l4 e4).1), (psRd l4 e4).2) := by unfold restRd; rw [if_neg hk1, if_pos hk2]; rfl
        obtain ⟨pats, l5, e5, hpe⟩ : ∃ x y z, psRd l4 e4 = (x, y, z) := ⟨_, _, _, rfl⟩
        rw [hr, hpe] at hDB0 HST
        dsimp only at hDB0 HST
        have HP := Lib.hid (patches_any R9.out)
        rw [hpe] at HP
        replace hk1 := Lib.hid hk1
        replace hk2 := Lib.hid hk2
        have hB9 : Hid (gm < w9.heap.size ∧ w.heap.size ≤ w9.heap.size) := ⟨KM9.out.lt, B9.out.size⟩
        clear hr hpe
        go_wp2_with fail
        refine HP.out.mono ?_
        rintro e w10 ⟨A6, m6, c6, err, rfl, kp, he1, he0⟩
        dsimp only at he1 he0
        replace he1 := Lib.hid he1
        replace he0 := Lib.hid he0
        have B10 : Hid (Below w.heap.size w w10) := B9.out.trans (kp.below (fun k e => by rw [e]; exact hgw.out.2) B9.out.size)
        have KR10 := Lib.hid (KR9.out.keep (kp.block gr KR9.out.lt (by have := hgs.out; omega)))
        have KM10 := Lib.hid (KM9.out.keep (kp.block gm KM9.out.lt (by have := hgs.out; omega)))
        clear kp HP R9 B9 KR9 KM9
        have y71 : w10.cell? ⟨gm, 71, none⟩ = some (.slice none 0 0) := (KM10.out.cell 71).trans (raw_last VO.out zeroBl_ok none 0 0)
        have f71 : w10.frozen? ⟨gm, 71, none⟩ = false := KM10.out.fr 71
        have KM11 : Hid (Blk (w10.setCell ⟨gm, 71, none⟩ (.slice A6 m6 c6)) gm 30 (rawC k f t v zeroBl A6 m6 c6).toArray) := by
          have h1 := KM10.out.set_ 71 (.slice A6 m6 c6)
          rw [raw_set VO.out zeroBl_ok] at h1
          exact h1
        have kp2 : Kept (fun k => k = gm) w10 (w10.setCell ⟨gm, 71, none⟩ (.slice A6 m6 c6)) := (Kept.refl (fun k => k = gm) w10).setCell (p := ⟨gm, 71, none⟩) (.inl rfl) _
        have KR11 := Lib.hid (KR10.out.keep (kp2.block gr KR10.out.lt (by have := hgs.out; omega)))
        have B11 : Hid (Below w.heap.size w (w10.setCell ⟨gm, 71, none⟩ (.slice A6 m6 c6))) := B10.out.trans (kp2.below (fun k e => by rw [e]; exact hgs.out.2.2) B10.out.size)
        have HX : Hid (err = 0 → RdAt (w10.setCell ⟨gm, 71, none⟩ (.slice A6 m6 c6)) B g l5 e5 ∧ (e5 = 0 → m6 = pats.length ∧ OwnC w9.heap.size (w10.setCell ⟨gm, 71, none⟩ (.slice A6 m6 c6)) (.slice A6 m6 c6) pats ∧ pats.length ≤ 8)) := fun h => by
          obtain ⟨h1, h2⟩ := he0.out h
          refine ⟨h1.keepB kp2 (by have := hgs.out; omega) (by have := h1.ge; have := hgs.out; omega), fun h3 => ?_⟩
          obtain ⟨h4, h5, h6⟩ := h2 h3
          exact ⟨h4, h5.stay (kp2.stay fun q _ h1 h2 => by have h1 : w9.heap.size ≤ q := h1; have h2 : q = gm := h2; have := hB9.out; omega), h6⟩
        clear kp2 he0 KM10 KR10 B10
        go_upto_region 17 with fail
        generalize (w10.setCell ⟨gm, 71, none⟩ (.slice A6 m6 c6)) = w11 at *
        clear y71 f71
        by_cases he : err = 0
        · have z3 : ((err : Int) != 0) = false := by rw [he]; rfl
          obtain ⟨h1, h2⟩ := HX.out he
          have Rt := Lib.hid h1
          have H2 := Lib.hid h2
          clear HX h1 h2 he1
          replace he := Lib.hid he
          go_wp2_with fail
          go_meet
          case rel => exact ⟨l5, e5, zeroBl, pats, Rt.out, KR11.out, B11.out, hDB0.out, HST.out, fun h5 => by
            obtain ⟨h6, h7, h8⟩ := H2.out h5
            subst h6
            exact ⟨A6, c6, zeroBl_ok, by unfold maxLen; omega, KM11.out, h7.pats.at_, fun u hu => (h7.stay (hu.mono fun q h => by have := hB9.out; omega)).pats.at_⟩⟩
        · have z3 : ((err : Int) != 0) = true := by rw [bne_iff_ne]; omega
          have h5 := he1.out he
          have EQ : Hid (decM l = (zeroM, err)) := by rw [Hid, hDB0.out, h5, rEnd_err he, if_pos he]
          clear hDB0 h5 he1 HX
          replace he := Lib.hid he
          have kp3 : Kept (fun k => k = gr) w11 (w11.setRow gr Tryz.zeroCells30) := kept_row (fun k => k = gr) w11 rfl _
          have BF : Hid (Below w.heap.size w (w11.setRow gr Tryz.zeroCells30)) := B11.out.trans (kp3.below (fun k e => by rw [e]; exact Nat.le_of_eq hgr.out.symm) B11.out.size)
          have KF : Hid (Blk (w11.setRow gr Tryz.zeroCells30) gr 30 Tryz.zeroCells30) := KR11.out.row _
          clear kp3
          go_wp2_with (refine wpList_store_row rfl 30 _ _ (by rfl) gr Tryz.zeroCells30 (by rfl) (by rfl) _ _ KR11.out IZ2.out (by rw [EZ.out]) OZ2.out ?_)
          refine bodyPost_ret (results_row_tmp rfl _ _ gr _ Tryz.zeroCells30 _ rfl KF.out underMsg rfl IZ2.out) rfl ?_
          unfold DecRet
          rw [EQ.out]
          exact ⟨Z, by rw [← EZ.out]; rfl, ZAT.out _, BF.out⟩
      have z1 : ((k : Int) == 1) = false := by rw [beq_eq_false_iff_ne]; omega
      have z2 : ((k : Int) == 2) = false := by rw [beq_eq_false_iff_ne]; omega
      have hr : restRd k l4 e4 = ((zeroBl, []), l4, e4) := by unfold restRd; rw [if_neg hk1, if_neg hk2]; rfl
      rw [hr] at hDB0 HST
      dsimp only at hDB0 HST
      clear hr
      replace hk1 := Lib.hid hk1
      replace hk2 := Lib.hid hk2
      go_wp2_with fail
      go_meet
      case rel => exact ⟨l4, e4, zeroBl, [], R9.out, KR9.out, B9.out, hDB0.out, HST.out, fun _ => ⟨none, 0, zeroBl_ok, Nat.zero_le _, KM9.out, pats_none _, fun u _ => pats_none u⟩⟩
    case rest =>
      obtain ⟨l5, e5, bl, pats, Rt, KRt, Bt, hDB, HST, HX⟩ := hcut
      have HEn := Lib.hid (rdEnd_any Rt.out)
      have HRZ := Lib.hid (rEnd_zero l5 e5)
      obtain ⟨re, hre⟩ : ∃ re, re = rEnd l5 e5 := ⟨_, rfl⟩
      rw [← hre] at HEn hDB HRZ
      clear hre Rt
      go_wp2_with fail
      refine HEn.out.mono ?_
      rintro e _ ⟨rfl, rfl⟩
      clear HEn
      by_cases hz : re = 0
      · have z0 : ((re : Int) != 0) = false := by rw [hz]; rfl
        have hv := hps.out (HST.out (HRZ.out hz))
        have hDB2 := hDB.out
        rw [if_neg (fun h => h hz), ← hv.1, ← hv.2] at hDB2
        replace hDB2 := Lib.hid hDB2
        obtain ⟨A6, c6, h1, h2, h3, h4, h5⟩ := HX.out (HRZ.out hz)
        have BLO := Lib.hid h1
        have PLE := Lib.hid h2
        have KMt := Lib.hid h3
        have PI := Lib.hid h4
        have PS := Lib.hid h5
        clear hDB hv HRZ hz HX h1 h2 h3 h4 h5 HST hps
        cases fine
        · have EQ : Hid (decM l = (zeroM, 4)) := by rw [Hid, hDB2.out, if_neg (fun h => by cases h.1)]
          clear hDB2 PI PS KMt BLO PLE
          have kp3 : Kept (fun k => k = gr) wc (wc.setRow gr Tryz.zeroCells30) := kept_row (fun k => k = gr) wc rfl _
          have BF : Hid (Below w.heap.size w (wc.setRow gr Tryz.zeroCells30)) := Bt.out.trans (kp3.below (fun k e => by rw [e]; exact Nat.le_of_eq hgr.out.symm) Bt.out.size)
          have KF : Hid (Blk (wc.setRow gr Tryz.zeroCells30) gr 30 Tryz.zeroCells30) := KRt.out.row _
          clear kp3
          go_wp2_with (refine wpList_store_row rfl 30 _ _ (by rfl) gr Tryz.zeroCells30 (by rfl) (by rfl) _ _ KRt.out IZ2.out (by rw [EZ.out]) OZ2.out ?_)
          refine bodyPost_ret (results_row_tmp rfl _ _ gr _ Tryz.zeroCells30 _ rfl KF.out underMsg rfl IZ2.out) rfl ?_
          unfold DecRet
          rw [EQ.out]
          exact ⟨Z, by rw [← EZ.out]; rfl, ZAT.out _, BF.out⟩
        · obtain ⟨M, hM⟩ : ∃ M : MsgV, M = ((kindF k, kindF f, kindF t), v, bl, pats) := ⟨_, rfl⟩
          rw [← hM] at hDB2
          obtain ⟨CS, hCS⟩ : ∃ CS, CS = rawC k f t v bl A6 pats.length c6 := ⟨_, rfl⟩
          rw [← hCS] at KMt
          have MA : Hid (MsgAt wc CS M) := by
            rw [Hid, hCS, hM, rawC_msg (by omega) (by omega) (by omega) v bl pats]
            exact ⟨⟨VO.out, BLO.out⟩, ⟨A6, c6, rfl, PI.out⟩, PLE.out⟩
          have MX : Hid (∀ u, Stay (fun q => gm ≤ q) wc u → MsgAt u CS M) := fun u hu => by
            rw [hCS, hM, rawC_msg (by omega) (by omega) (by omega) v bl pats]
            exact ⟨⟨VO.out, BLO.out⟩, ⟨A6, c6, rfl, PS.out u hu⟩, PLE.out⟩
          have IC : Hid ((Tryz.prog.info? 30).map (·.size) = some CS.toArray.size) := by rw [Hid, hCS, List.size_toArray, rawC_len VO.out BLO.out]; exact infoMsg
          have clen : Hid (CS.length = 72) := by rw [Hid, hCS]; exact rawC_len VO.out BLO.out A6 pats.length c6
          have OC : Hid (CS.toArray.all (·.oneCell') = true) := by rw [Hid, hCS]; exact rawC_one _ _ _ _ _ _ _ _
          have HG := Lib.hid (msgGood_any M wc CS MA.out)
          replace hCS := Lib.hid hCS
          replace hM := Lib.hid hM
          obtain ⟨G, hG⟩ : ∃ G, G = goodM M := ⟨_, rfl⟩
          rw [← hG] at HG hDB2
          clear PI PS hG
          go_wp2_with (refine wpList_load_rowG (by kernel_rfl) 30 _ (by rfl) gm (by rfl) _ _ _ _ KMt.out underMsg rfl IC.out ?_)
          refine HG.out.mono ?_
          rintro e w20 ⟨rfl, b20⟩
          have KR20 := Lib.hid (KRt.out.ext b20)
          have KM20 := Lib.hid (KMt.out.ext b20)
          have B20 := Lib.hid (Bt.out.trans (b20.mono Bt.out.size))
          have ST20 : Hid (Stay (fun q => gm ≤ q) wc w20) := Stay.of_below b20
          clear b20 KRt KMt Bt HG MA
          cases G
          · have EQ : Hid (decM l = (zeroM, 4)) := by rw [Hid, hDB2.out, if_neg (fun h => by cases h.2)]
            clear hDB2
            have kp3 : Kept (fun k => k = gr) w20 (w20.setRow gr Tryz.zeroCells30) := kept_row (fun k => k = gr) w20 rfl _
            have BF : Hid (Below w.heap.size w (w20.setRow gr Tryz.zeroCells30)) := B20.out.trans (kp3.below (fun k e => by rw [e]; exact Nat.le_of_eq hgr.out.symm) B20.out.size)
            have KF : Hid (Blk (w20.setRow gr Tryz.zeroCells30) gr 30 Tryz.zeroCells30) := KR20.out.row _
            clear kp3
            go_wp2_with (refine wpList_store_row rfl 30 _ _ (by rfl) gr Tryz.zeroCells30 (by rfl) (by rfl) _ _ KR20.out IZ2.out (by rw [EZ.out]) OZ2.out ?_)
            refine bodyPost_ret (results_row_tmp rfl _ _ gr _ Tryz.zeroCells30 _ rfl KF.out underMsg rfl IZ2.out) rfl ?_
            unfold DecRet
            rw [EQ.out]
            exact ⟨Z, by rw [← EZ.out]; rfl, ZAT.out _, BF.out⟩
          · have EQ : Hid (decM l = (M, 0)) := by rw [Hid, hDB2.out, if_pos (by simp)]
            clear hDB2
            have kp3 : Kept (fun k => k = gr) w20 (w20.setRow gr CS.toArray) := kept_row (fun k => k = gr) w20 rfl _
            have BF : Hid (Below w.heap.size w (w20.setRow gr CS.toArray)) := B20.out.trans (kp3.below (fun k e => by rw [e]; exact Nat.le_of_eq hgr.out.symm) B20.out.size)
            have KF : Hid (Blk (w20.setRow gr CS.toArray) gr 30 CS.toArray) := KR20.out.row _
            have STF : Stay (fun q => gm ≤ q) w20 (w20.setRow gr CS.toArray) := kp3.stay fun q _ h1 h2 => by
              have h1 : gm ≤ q := h1
              have h2 : q = gr := h2
              have := hgs.out
              omega
            have MF := Lib.hid (MX.out _ (stay_tr34 ST20.out STF))
            clear kp3 STF MX
            go_wp2_with (first
              | (refine wpList_load_row rfl 30 _ (by rfl) gm (by rfl) _ _ _ _ KM20.out underMsg rfl IC.out ?_)
              | (refine wpList_store_row rfl 30 _ _ (by rfl) gr CS.toArray (by rfl) (by rfl) _ _ KR20.out IC.out (by simp only [List.size_toArray, clen.out, zl.out]) OC.out ?_))
            refine bodyPost_ret (results_row_tmp rfl _ _ gr _ CS.toArray _ rfl KF.out underMsg rfl IC.out) rfl ?_
            unfold DecRet
            rw [EQ.out]
            exact ⟨CS, rfl, MF.out, BF.out⟩
      · have z0 : ((re : Int) != 0) = true := by rw [bne_iff_ne]; omega
        have EQ : Hid (decM l = (zeroM, re)) := by rw [Hid, hDB.out, if_pos hz]
        clear hDB hz HRZ HX HST hps
        have kp3 : Kept (fun k => k = gr) wc (wc.setRow gr Tryz.zeroCells30) := kept_row (fun k => k = gr) wc rfl _
        have BF : Hid (Below w.heap.size w (wc.setRow gr Tryz.zeroCells30)) := Bt.out.trans (kp3.below (fun k e => by rw [e]; exact Nat.le_of_eq hgr.out.symm) Bt.out.size)
        have KF : Hid (Blk (wc.setRow gr Tryz.zeroCells30) gr 30 Tryz.zeroCells30) := KRt.out.row _
        clear kp3
        go_wp2_with (refine wpList_store_row rfl 30 _ _ (by rfl) gr Tryz.zeroCells30 (by rfl) (by rfl) _ _ KRt.out IZ2.out (by rw [EZ.out]) OZ2.out ?_)
        refine bodyPost_ret (results_row_tmp rfl _ _ gr _ Tryz.zeroCells30 _ rfl KF.out underMsg rfl IZ2.out) rfl ?_
        unfold DecRet
        rw [EQ.out]
        exact ⟨Z, by rw [← EZ.out]; rfl, ZAT.out _, BF.out⟩
  · obtain ⟨re, hre⟩ : ∃ re, re = (openB l).2 := ⟨_, rfl⟩
    have EQ : Hid (decM l = (zeroM, re)) := by rw [Hid, hre]; unfold decM; rw [if_pos (by omega)]
    rw [← hre] at hop ⊢
    have z0 : ((re : Int) != 0) = true := by rw [bne_iff_ne]; omega
    clear hre o2 B0Z
    have kp3 : Kept (fun k => k = gr) w2 (w2.setRow gr Tryz.zeroCells30) := kept_row (fun k => k = gr) w2 rfl _
    have BF : Hid (Below w.heap.size w (w2.setRow gr Tryz.zeroCells30)) := B2.out.trans (kp3.below (fun k e => by rw [e]; exact Nat.le_of_eq hgr.out.symm) B2.out.size)
    have KF : Hid (Blk (w2.setRow gr Tryz.zeroCells30) gr 30 Tryz.zeroCells30) := KR2.out.row _
    clear kp3
    go_wp2_with (refine wpList_store_row rfl 30 _ _ (by rfl) gr Tryz.zeroCells30 (by rfl) (by rfl) _ _ KR2.out IZ2.out (by rw [EZ.out]) OZ2.out ?_)
    refine bodyPost_ret (results_row_tmp rfl _ _ gr _ Tryz.zeroCells30 _ rfl KF.out underMsg rfl IZ2.out) rfl ?_
    unfold DecRet
    rw [EQ.out]
    exact ⟨Z, by rw [← EZ.out]; rfl, ZAT.out _, BF.out⟩
end Go.Proofs.YtdafiipedlglpaaGreatDoor
