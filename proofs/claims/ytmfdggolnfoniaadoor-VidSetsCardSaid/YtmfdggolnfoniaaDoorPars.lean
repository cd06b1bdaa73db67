/- bruitref10.Dots. -/
import Derived.Test.YtmfdggolnfoniaaDoorParr
import Derived.Test.YtmfdggolnfoniaaDoorPush
namespace Go.Proofs.YtmfdggolnfoniaaDoor
open Go.RowKit

theorem strSl : SlT Tryd.prog 63 9 1 16 := slT_of Tryd.underlying63 (z := .string ByteArray.empty) (by kernel_rfl) rfl (by omega)
theorem extract_mid (s : ByteArray) (i j : Nat) : s.extract i j = ⟨((s.data.toList.take j).drop i).toArray⟩ := by
  apply ByteArray.ext
  rw [ByteArray.data_extract]
  apply Array.toList_inj.1
  simp [List.drop_take]
def strL (d : List (List UInt8)) : List Value := d.map fun l => Value.string ⟨l.toArray⟩
theorem strL_snoc (d : List (List UInt8)) (x : List UInt8) : strL (d ++ [x]) = strL d ++ [.string ⟨x.toArray⟩] := by unfold strL; simp
theorem dots_end {l : List UInt8} {outs : List (List UInt8)} {k at' : Nat} (hk : k = l.length) (h : dotsL l = outs ++ addH ((l.take k).drop at') (dotsL (l.drop k))) : dotsL l = outs ++ [(l.take k).drop at'] := by
  have e : l.drop k = [] := List.drop_eq_nil_of_le (by omega)
  rw [h, e]
  simp [dotsL, addH]
theorem dots_cut {l : List UInt8} {outs : List (List UInt8)} {k at' : Nat} (hk : k < l.length) (hc : l[k] = 46) (h : dotsL l = outs ++ addH ((l.take k).drop at') (dotsL (l.drop k))) : dotsL l = (outs ++ [(l.take k).drop at']) ++ addH ((l.take (k + 1)).drop (k + 1)) (dotsL (l.drop (k + 1))) := by
  have e : (l.take (k + 1)).drop (k + 1) = [] := List.drop_eq_nil_of_le (by rw [List.length_take]; omega)
  rw [h, List.drop_eq_getElem_cons hk, hc, e, addH_nil (dotsL_ne _)]
  show outs ++ addH _ ([] :: dotsL _) = _
  simp [addH]
theorem dots_more {l : List UInt8} {outs : List (List UInt8)} {k at' : Nat} (hk : k < l.length) (ha : at' ≤ k) (hc : l[k] ≠ 46) (h : dotsL l = outs ++ addH ((l.take k).drop at') (dotsL (l.drop k))) : dotsL l = outs ++ addH ((l.take (k + 1)).drop at') (dotsL (l.drop (k + 1))) := by
  rw [h, List.drop_eq_getElem_cons hk, dotsL_cons hc, addH_addH _ _ (dotsL_ne _), List.take_succ_eq_append_getElem hk, List.drop_append_of_le_length (by rw [List.length_take]; omega)]

set_option maxRecDepth 100000 in
set_option maxHeartbeats 4000000 in
theorem dots_any (s : ByteArray) (w : World) (hs : s.size ≤ 100) : Calls Tryd.prog 39 #[.string s] w (RetSl w 1 (dotsL s.data.toList).length (strL (dotsL s.data.toList))) := by
  have hl : Hid (s.data.toList.length = s.size) := Array.length_toList
  go_enter Tryd.func39, Tryd.ntmps39
  go_wp2_with fail
  go_loopw [3, 4, 5] (fun v a i wr => ∃ (k at' : Nat) (outs : List (List UInt8)), k ≤ s.size + 1 ∧ at' ≤ k ∧ outs.length ≤ k ∧ i = .int .i64 k ∧ a = .int .i64 at' ∧ Hid (k ≤ s.size → dotsL s.data.toList = outs ++ addH ((s.data.toList.take k).drop at') (dotsL (s.data.toList.drop k))) ∧ Hid (k = s.size + 1 → dotsL s.data.toList = outs) ∧ Hid (wr.ownsRow w.heap.size 9 1 v outs.length (strL outs)) ∧ Hid (Below w.heap.size w wr)) (fun _ _ i _ => s.size + 1 - (intOf i).toNat)
  case atStart =>
    refine ⟨0, 0, [], by omega, by omega, by simp, rfl, rfl, fun _ => ?_, fun h => by omega, ⟨rfl, .inl ⟨rfl, rfl⟩⟩, Below.refl _ _⟩
    simp [addH_nil (dotsL_ne _)]
  case round =>
    obtain ⟨k, at', outs, hk, ha, ho, rfl, rfl, E1, E2, O, B⟩ := hrel
    have hk0 : (0 : Int) ≤ (k : Int) := by omega
    have ha0 : (0 : Int) ≤ (at' : Int) := by omega
    by_cases hlt : k ≤ s.size
    · have hle : (at' : Int) ≤ (k : Int) := by omega
      have hks : (k : Int) ≤ (s.size : Int) := by omega
      by_cases hend : k = s.size
      · have N := Lib.hid (dots_end (by rw [hl.out]; exact hend) (E1.out hlt))
        clear E1 E2
        subst hend
        clear hlt
        go_wp2_with (at_builtin; refine wpList_push strSl O.out [.string (s.extract at' s.size)] rfl (by simp [Value.oneCell']) B.out.size (by omega) (by unfold maxLen; omega) (by rfl) (by rfl) (by rfl) ?_; intro v1 w2 own1 bel1)
        have B2 := Lib.hid (B.out.trans bel1)
        have O2 : Hid (w2.ownsRow w.heap.size 9 1 v1 (outs ++ [(s.data.toList.take s.size).drop at']).length (strL (outs ++ [(s.data.toList.take s.size).drop at']))) := by
          rw [Hid, strL_snoc, List.length_append, ← extract_mid]; exact own1
        clear own1 bel1 O B
        go_roundw
        case rel => exact ⟨s.size + 1, s.size + 1, _, by omega, by omega, by rw [List.length_append]; simp only [List.length_cons, List.length_nil]; omega, by go_num, by go_num, fun h => by omega, fun _ => N.out, O2, B2⟩
        case measure => simp [intOf]
      · have hlt' : k < s.size := by omega
        have hkl : k < s.data.toList.length := by rw [hl.out]; exact hlt'
        have hek : ((k : Int) == (s.size : Int)) = false := beq_eq_false_iff_ne.2 (by omega)
        by_cases hc : s.data.toList[k]'hkl = 46
        · have N := Lib.hid (dots_cut hkl hc (E1.out hlt))
          have d1 : ((s[k]'hlt').toNat : Int) = 46 := by
            have : (s[k]'hlt') = 46 := hc
            rw [this]; rfl
          have d2 : (((s[k]'hlt').toNat : Int) == 46) = true := beq_iff_eq.2 d1
          clear d1
          clear E1 E2 hlt
          go_wp2_with (at_builtin; refine wpList_push strSl O.out [.string (s.extract at' k)] rfl (by simp [Value.oneCell']) B.out.size (by omega) (by unfold maxLen; omega) (by rfl) (by rfl) (by rfl) ?_; intro v1 w2 own1 bel1)
          have B2 := Lib.hid (B.out.trans bel1)
          have O2 : Hid (w2.ownsRow w.heap.size 9 1 v1 (outs ++ [(s.data.toList.take k).drop at']).length (strL (outs ++ [(s.data.toList.take k).drop at']))) := by
            rw [Hid, strL_snoc, List.length_append, ← extract_mid]; exact own1
          clear own1 bel1 O B
          go_roundw
          case rel => exact ⟨k + 1, k + 1, _, by omega, by omega, by rw [List.length_append]; simp only [List.length_cons, List.length_nil]; omega, by go_num, by go_num, fun _ => N.out, fun h => by omega, O2, B2⟩
          case measure => simp [intOf]; omega
        · have N := Lib.hid (dots_more hkl ha hc (E1.out hlt))
          have d0 : (s[k]'hlt').toNat ≠ 46 := fun e => hc (UInt8.toNat_inj.1 e)
          have d1 : ((s[k]'hlt').toNat : Int) ≠ 46 := by omega
          have d2 : (((s[k]'hlt').toNat : Int) == 46) = false := beq_eq_false_iff_ne.2 d1
          clear d1 d0
          clear E1 E2 hlt
          go_wp2_with fail
          go_roundw
          case rel => exact ⟨k + 1, at', outs, by omega, by omega, by omega, by go_num, rfl, fun _ => N.out, fun h => by omega, O.out, B.out⟩
          case measure => simp [intOf]; omega
    · have hk' : k = s.size + 1 := by omega
      subst hk'
      have N := Lib.hid (E2.out rfl)
      clear E1 E2
      obtain rfl : dotsL s.data.toList = outs := N.out
      obtain ⟨A, c, rfl, hc, hsl⟩ := Sl.of_own O.out
      clear N O
      go_wp2
      go_ret
      exact ⟨A, c, rfl, hc, hsl, B.out⟩
end Go.Proofs.YtmfdggolnfoniaaDoor
