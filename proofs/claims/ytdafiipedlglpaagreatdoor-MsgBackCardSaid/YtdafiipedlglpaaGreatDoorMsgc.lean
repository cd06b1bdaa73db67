/- A message as it lies; whether a vector, and a message, may be: walked. -/
import Derived.Test.YtdafiipedlglpaaGreatDoorMsga
import Derived.Test.YtdafiipedlglpaaGreatDoorLists
import Derived.Test.YtdafiipedlglpaaGreatDoorIdxw
import Derived.Test.YtdafiipedlglpaaGreatDoorPats
import Derived.Test.YtdafiipedlglpaaGreatDoorPatr
namespace Go.Proofs.YtdafiipedlglpaaGreatDoor
open Go.RowKit

def vecK (v : List Int) : List Value := v.map (Value.int .u16)
theorem vecK_len {v : List Int} (h : VecOk v) : (vecK v).length = 64 := by unfold vecK; rw [List.length_map, h.len]
/-- a message's cells -/
def msgC (m : MsgV) (A : Option Addr) (n c : Nat) : List Value := .int .u8 ((m.1.1.val : Nat) : Int) :: .int .u8 ((m.1.2.1.val : Nat) : Int) :: .int .u8 ((m.1.2.2.val : Nat) : Int) :: (vecK m.2.1 ++ (encBl m.2.2.1 ++ [.slice A n c]))
theorem msgC_len {m : MsgV} (h : MsgOk m) (A : Option Addr) (n c : Nat) : (msgC m A n c).length = 72 := by
  unfold msgC
  simp only [List.length_cons, List.length_append, vecK_len h.vec, encBl_len h.bl, List.length_nil]
/-- a message as it lies -/
structure MsgAt (w : World) (cs : List Value) (m : MsgV) : Prop where
  ok : MsgOk m
  ex : ∃ A c, cs = msgC m A m.2.2.2.length c ∧ PatsAt w A m.2.2.2.length m.2.2.2
  small : m.2.2.2.length ≤ maxLen
theorem MsgAt.ext {w w' : World} {cs : List Value} {m : MsgV} (h : MsgAt w cs m) (hb : Below w.heap.size w w') : MsgAt w' cs m := by
  obtain ⟨A, c, e, h1⟩ := h.ex
  exact ⟨h.ok, ⟨A, c, e, h1.ext hb⟩, h.small⟩
section
variable {w : World} {g : Nat} {t : TypeId} {m : MsgV} {A : Option Addr} {n c : Nat}
theorem msg_at3 (j : Nat) : (msgC m A n c).toArray[3 + j]? = (vecK m.2.1 ++ (encBl m.2.2.1 ++ [.slice A n c]))[j]? := by
  rw [show 3 + j = j + 1 + 1 + 1 by omega, List.getElem?_toArray]
  rfl
theorem msg_vec (_ho : MsgOk m) (K : Blk w g t (msgC m A n c).toArray) : w.rangeAt g 3 (vecK m.2.1) := fun j v hj => by
  rw [K.cell (3 + j), msg_at3, List.getElem?_append_left (List.getElem?_eq_some_iff.1 hj).1]
  exact hj
theorem msg_bl (ho : MsgOk m) (K : Blk w g t (msgC m A n c).toArray) : w.rangeAt g 67 (encBl m.2.2.1) := fun j v hj => by
  have e : 67 + j = 3 + (64 + j) := by omega
  rw [e, K.cell (3 + (64 + j)), msg_at3, List.getElem?_append_right (by rw [vecK_len ho.vec]; omega), vecK_len ho.vec, Nat.add_sub_cancel_left, List.getElem?_append_left (List.getElem?_eq_some_iff.1 hj).1]
  exact hj
theorem msg_pats (ho : MsgOk m) (K : Blk w g t (msgC m A n c).toArray) : w.cell? ⟨g, 71, none⟩ = some (.slice A n c) := by
  have e : (71 : Nat) = 3 + (64 + 4) := rfl
  rw [e, K.cell (3 + (64 + 4)), msg_at3, List.getElem?_append_right (by rw [vecK_len ho.vec]; omega), vecK_len ho.vec, Nat.add_sub_cancel_left, List.getElem?_append_right (by rw [encBl_len ho.bl]; omega), encBl_len ho.bl]
  rfl
theorem msg_kind (K : Blk w g t (msgC m A n c).toArray) : w.cell? ⟨g, 0, none⟩ = some (.int .u8 ((m.1.1.val : Nat) : Int)) := K.cell 0
theorem msg_from (K : Blk w g t (msgC m A n c).toArray) : w.cell? ⟨g, 1, none⟩ = some (.int .u8 ((m.1.2.1.val : Nat) : Int)) := K.cell 1
theorem msg_to (K : Blk w g t (msgC m A n c).toArray) : w.cell? ⟨g, 2, none⟩ = some (.int .u8 ((m.1.2.2.val : Nat) : Int)) := K.cell 2
end
set_option maxRecDepth 100000 in
theorem node34_any (k : Nat) (w : World) : Calls Tryz.prog 65 #[.int .u8 (k : Int)] w (Ret w (.bool (nodeN k))) := by
  by_cases h1 : 1 ≤ k
  · have h1i : (1 : Int) ≤ (k : Int) := by omega
    by_cases h2 : k ≤ 64
    · have h2i : (k : Int) ≤ 64 := by omega
      have E : Hid (nodeN k = true) := decide_eq_true ⟨h1, h2⟩
      go_enter Tryz.func65, Tryz.ntmps65
      go_wp2
      go_ret
      exact ⟨ret_bool E.out.symm, rfl⟩
    · have h2i : ¬ (k : Int) ≤ 64 := by omega
      have E : Hid (nodeN k = false) := decide_eq_false fun h => h2 h.2
      go_enter Tryz.func65, Tryz.ntmps65
      go_wp2
      go_ret
      exact ⟨ret_bool E.out.symm, rfl⟩
  · have h1i : ¬ (1 : Int) ≤ (k : Int) := by omega
    have E : Hid (nodeN k = false) := decide_eq_false fun h => h1 h.1
    go_enter Tryz.func65, Tryz.ntmps65
    go_wp2
    go_ret
    exact ⟨ret_bool E.out.symm, rfl⟩
theorem vgood_snoc {v : List Int} (hv : VecOk v) {k : Nat} (hk : k < 64) : vgoodV (v.take (k + 1)) = (vgoodV (v.take k) && decide (v.getD k 0 ≤ 60000)) := by
  have hl : k < v.length := by rw [hv.len]; exact hk
  unfold vgoodV
  rw [List.take_add_one, List.getElem?_eq_getElem hl, List.all_append, List.getD_eq_getElem?_getD, List.getElem?_eq_getElem hl]
  simp
theorem vgood_less {v : List Int} {k : Nat} (h : vgoodV (v.take k) = false) : vgoodV v = false := by
  unfold vgoodV at *
  rw [List.all_eq_false] at *
  obtain ⟨x, hx, h2⟩ := h
  exact ⟨x, List.mem_of_mem_take hx, h2⟩
set_option maxRecDepth 100000 in
set_option maxHeartbeats 1000000 in
theorem vecGood_any (a : List Int) (ha : VecOk a) (w : World) : Calls Tryz.prog 66 #[.agg (vecA a)] w (RetB w (.bool (vgoodV a))) := by
  have HA := Lib.hid ha
  have hs1 : Hid ((vecA a).size = 64) := by rw [Hid, vecA_size]; exact ha.len
  have B0 : Hid (Below w.heap.size w (w.alloc (.cells (vecA a) 24))) := (Below.refl _ _).alloc (Nat.le_refl _) _
  have K1 : Hid (Blk (w.alloc (.cells (vecA a) 24)) w.heap.size 24 (vecA a)) := Blk.new _ _ _
  clear ha
  go_enter Tryz.func66, Tryz.ntmps66
  go_wp2_with (refine wpList_load_row rfl 24 _ (by rfl) w.heap.size (by rfl) _ _ _ _ K1.out under64 rfl (by rw [hs1.out]; exact info64) ?_)
  go_loop [6] (fun i => ∃ k : Nat, k ≤ 64 ∧ i = .int .i64 k ∧ Hid (vgoodV (a.take k) = true)) (fun i => 64 - (intOf i).toNat)
  case atStart => exact ⟨0, by omega, rfl, by rw [Hid, List.take_zero]; rfl⟩
  case round =>
    obtain ⟨k, hk, rfl, T⟩ := hrel
    by_cases hlt : k < 64
    · have hix := index_vec a HA.out k hlt
      have S := Lib.hid (vgood_snoc HA.out hlt)
      obtain ⟨x0, x1⟩ := HA.out.get k hlt
      have L := Lib.hid (fun h => vgood_less (v := a) (k := k + 1) h)
      generalize a.getD k 0 = x at *
      have hb0 : (k : Int) < 64 := by omega
      by_cases hx : (60000 : Int) < x
      · have N : Hid (vgoodV a = false) := L.out (by rw [S.out, decide_eq_false (by omega), Bool.and_false])
        go_wp2
        go_ret
        exact ⟨ret_bool N.out.symm, B0.out⟩
      · have N : Hid (vgoodV (a.take (k + 1)) = true) := by rw [Hid, S.out, T.out, decide_eq_true (by omega)]; rfl
        go_wp2
        go_round
        case rel => exact ⟨k + 1, by omega, by go_num, N.out⟩
        case measure => simp [intOf]; omega
    · have hk' : k = 64 := by omega
      subst hk'
      have N : Hid (vgoodV a = true) := by
        have := T.out
        rwa [List.take_of_length_le (by rw [HA.out.len]; omega)] at this
      go_wp2
      go_ret
      exact ⟨ret_bool N.out.symm, B0.out⟩
set_option maxRecDepth 100000 in
set_option maxHeartbeats 1000000 in
theorem rvecGood_any (a : List Int) (ha : VecOk a) (w : World) : Calls Tryz.prog 70 #[.agg (vecA a)] w (RetB w (.bool (vgoodV a))) := by
  have HA := Lib.hid ha
  have B0 : Hid (Below w.heap.size w (w.alloc (.cells (vecA a) 24))) := (Below.refl _ _).alloc (Nat.le_refl _) _
  have K1 : Hid (Blk (w.alloc (.cells (vecA a) 24)) w.heap.size 24 (vecA a)) := Blk.new _ _ _
  clear ha
  go_enter Tryz.func70, Tryz.ntmps70
  go_wp2_with fail
  generalize (w.alloc (.cells (vecA a) 24)) = w0 at *
  go_loop [3] (fun i => ∃ k : Nat, k ≤ 64 ∧ i = .int .i64 k ∧ Hid (vgoodV (a.take k) = true)) (fun i => 64 - (intOf i).toNat)
  case atStart => exact ⟨0, by omega, rfl, by rw [Hid, List.take_zero]; rfl⟩
  case round =>
    obtain ⟨k, hk, rfl, T⟩ := hrel
    by_cases hlt : k < 64
    · have c1 := K1.out.cell k
      rw [vecA_get _ _ (by rw [HA.out.len]; exact hlt)] at c1
      have S := Lib.hid (vgood_snoc HA.out hlt)
      have L := Lib.hid (fun h => vgood_less (v := a) (k := k + 1) h)
      generalize a.getD k 0 = x at *
      have hb0 : (k : Int) < 64 := by omega
      by_cases hx : (60000 : Int) < x
      · have N : Hid (vgoodV a = false) := L.out (by rw [S.out, decide_eq_false (by omega), Bool.and_false])
        go_wp2
        go_ret
        exact ⟨ret_bool N.out.symm, B0.out⟩
      · have N : Hid (vgoodV (a.take (k + 1)) = true) := by rw [Hid, S.out, T.out, decide_eq_true (by omega)]; rfl
        go_wp2
        go_round
        case rel => exact ⟨k + 1, by omega, by go_num, N.out⟩
        case measure => simp [intOf]; omega
    · have hk' : k = 64 := by omega
      subst hk'
      have N : Hid (vgoodV a = true) := by
        have := T.out
        rwa [List.take_of_length_le (by rw [HA.out.len]; omega)] at this
      go_wp2
      go_ret
      exact ⟨ret_bool N.out.symm, B0.out⟩
set_option maxRecDepth 100000 in
set_option maxHeartbeats 1000000 in
theorem bad34_any (p : PatV) (w : World) (cs : List Value) (hp : PatAt w cs p) : Calls Tryz.prog 68 #[.agg cs.toArray] w (RetB w (.bool (!patB p))) := by
  have h4 : Hid (cs.toArray.size = 4) := hp.len4
  have KB : Hid (Blk (w.alloc (.cells cs.toArray 64)) w.heap.size 64 cs.toArray) := Blk.new _ _ _
  have B0 : Hid (Below w.heap.size w (w.alloc (.cells cs.toArray 64))) := below_new _ _
  have HG := Lib.hid (good18_any p _ cs (hp.ext B0.out))
  clear hp
  generalize patB p = b at *
  generalize cs.toArray = ca at *
  go_enter Tryz.func68, Tryz.ntmps68
  go_wp2_with (refine wpList_load_row rfl 64 _ (by rfl) w.heap.size (by rfl) _ _ _ _ KB.out underPat rfl (by rw [h4.out]; exact infoPat) ?_)
  refine HG.out.mono ?_
  rintro e w3 ⟨rfl, b3⟩
  have B3 := Lib.hid (B0.out.trans (b3.mono B0.out.size))
  clear b3
  go_wp2
  go_ret
  exact ⟨rfl, B3.out⟩
def IdxR (l : List PatV) (z : Int) : Prop := 0 ≤ z ↔ l.all patB = false
set_option maxRecDepth 100000 in
set_option maxHeartbeats 2000000 in
theorem idx34_any (l : List PatV) (w : World) (A : Option Addr) (n c : Nat) (h : PatsAt w A n l) (hm : n ≤ maxLen) :
    Calls Tryz.prog 141 #[.slice A n c, .func (.func 68) #[] #[]] w (fun e w' => (∃ z : Int, e = .returned (.int .i64 z) ∧ IdxR l z) ∧ Below w.heap.size w w') := by
  have hln := h.len
  unfold maxLen at hm
  have H := Lib.hid h
  have BR := Lib.hid (Below.refl w.heap.size w)
  have hf : ∀ args u, (callFunc 68 args).run Tryz.prog u = .ok (.enter 68 args) u := enters_of Tryz.func68 (by kernel_rfl) rfl
  clear h
  go_enter Tryz.func141, Tryz.ntmps141
  go_wp2_with fail
  go_loopw [8] (fun i wr => ∃ k : Nat, k ≤ n ∧ i = .int .i64 k ∧ Hid ((l.take k).all patB = true) ∧ Hid (Below w.heap.size w wr)) (fun i _ => n - (intOf i).toNat)
  case atStart => exact ⟨0, by omega, rfl, rfl, BR.out⟩
  case round =>
    clear BR
    obtain ⟨k, hk, rfl, T, B⟩ := hrel
    obtain ⟨wi, rfl⟩ : ∃ wx, wx = wr := ⟨_, rfl⟩
    have hk0 : (0 : Int) ≤ (k : Int) := by omega
    by_cases hlt : k < n
    · have hlk : (k : Int) < (n : Int) := by omega
      obtain ⟨b, o, p, r, rfl, hb, hp, pa, R⟩ := (H.out.ext B.out).at_ hlt
      have HB := Lib.hid (bad34_any p wi r pa)
      have RH := Lib.hid R
      have hr4 : Hid ((Tryz.prog.info? 64).map (·.size) = some r.length) := by rw [Hid, pa.len4]; exact infoPat
      have TA := Lib.hid (fun h => allL_snoc (f := patB) hp T.out h)
      have FA := Lib.hid (fun h => allL_false (f := patB) hp h)
      clear R pa hb hp
      cases hg : patB p
      · have F := Lib.hid (FA.out hg)
        rw [hg] at HB
        clear hg TA FA
        go_wp2_with (refine wpList_load_mid rfl 64 _ (by rfl) b (o + k * 4) (by rfl) _ _ RH.out underPat rfl hr4.out ?_)
        refine HB.out.mono ?_
        rintro e w3 ⟨rfl, b3⟩
        have B3 := Lib.hid (ext_trans B.out b3)
        clear b3
        go_wp2
        go_ret
        exact ⟨⟨(k : Int), rfl, ⟨fun _ => F.out, fun _ => hk0⟩⟩, B3.out⟩
      · have F := Lib.hid (TA.out hg)
        rw [hg] at HB
        clear hg TA FA
        go_wp2_with (refine wpList_load_mid rfl 64 _ (by rfl) b (o + k * 4) (by rfl) _ _ RH.out underPat rfl hr4.out ?_)
        refine HB.out.mono ?_
        rintro e w3 ⟨rfl, b3⟩
        have B3 := Lib.hid (ext_trans B.out b3)
        clear b3
        go_wp2_with fail
        go_roundw
        case rel => exact ⟨k + 1, by omega, by go_num, F.out, B3.out⟩
        case measure => simp [intOf]; omega
    · have hlk : ¬ (k : Int) < (n : Int) := by omega
      have F : Hid (l.all patB = true) := by
        have := T.out
        rwa [List.take_of_length_le (by omega)] at this
      go_wp2
      go_ret
      exact ⟨⟨-1, rfl, ⟨fun h => absurd h (by omega), fun h => by rw [F.out] at h; cases h⟩⟩, B.out⟩
set_option maxRecDepth 100000 in
set_option maxHeartbeats 2000000 in
theorem cont34_any (l : List PatV) (w : World) (A : Option Addr) (n c : Nat) (h : PatsAt w A n l) (hm : n ≤ maxLen) :
    Calls Tryz.prog 67 #[.slice A n c, .func (.func 68) #[] #[]] w (RetB w (.bool (!l.all patB))) := by
  have HI := Lib.hid (idx34_any l w A n c h hm)
  clear h
  go_enter Tryz.func67, Tryz.ntmps67
  go_wp2_with fail
  refine HI.out.mono ?_
  rintro e w3 ⟨⟨z, rfl, hz⟩, b3⟩
  have B3 := Lib.hid b3
  clear b3 HI
  by_cases h0 : 0 ≤ z
  · have E := Lib.hid (hz.1 h0)
    clear hz
    go_wp2
    go_ret
    exact ⟨ret_bool (by rw [E.out]; rfl), B3.out⟩
  · have E : Hid (l.all patB = true) := by
      cases h : l.all patB
      · exact absurd (hz.2 h) h0
      · rfl
    clear hz
    go_wp2
    go_ret
    exact ⟨ret_bool (by rw [decide_eq_false (by omega), E.out]; rfl), B3.out⟩
end Go.Proofs.YtdafiipedlglpaaGreatDoor
