/- pid.Parse. -/
import Derived.Test.YtmfdggolnfoniaaDoorParl
import Derived.Laws.Closers25
namespace Go.Proofs.YtmfdggolnfoniaaDoor
open Go.RowKit

/-- what strings.Cut gives at a dot -/
def cutD (l : List UInt8) : List UInt8 × List UInt8 × Bool := if 0 ≤ Lib.indexByte l 46 then (l.take (Lib.indexByte l 46).toNat, l.drop ((Lib.indexByte l 46).toNat + 1), true) else (l, [], false)
theorem cutD_pid (a s : Nat) : cutD (pidText a s) = (Lib.itoa (a : Int), Lib.itoa (s : Int), true) := by
  unfold cutD pidText
  rw [index_dot _ (itoa_dot a), if_pos (by omega)]
  simp
def CutRet (l : List UInt8) (w : World) (e : Ending) (w' : World) : Prop := e = .returned (.tuple #[.string ⟨(cutD l).1.toArray⟩, .string ⟨(cutD l).2.1.toArray⟩, .bool (cutD l).2.2]) ∧ ∃ n, w' = w.drewN n
theorem extract_take (s : ByteArray) (k : Nat) : s.extract 0 k = ⟨(s.data.toList.take k).toArray⟩ := by
  apply ByteArray.ext
  rw [ByteArray.data_extract]
  apply Array.toList_inj.1
  simp
theorem extract_drop (s : ByteArray) (k : Nat) : s.extract k s.size = ⟨(s.data.toList.drop k).toArray⟩ := by
  apply ByteArray.ext
  rw [ByteArray.data_extract]
  apply Array.toList_inj.1
  have hl : (s.data.toList.drop k).length ≤ s.size - k := by rw [List.length_drop]; exact Nat.le_refl _
  simpa using List.take_of_length_le hl
set_option maxRecDepth 100000 in
set_option maxHeartbeats 1000000 in
theorem slcut_any (s : ByteArray) (w : World) (hs : s.size ≤ maxLen) : Calls Tryd.prog 57 #[.string s, .string ⟨#[46]⟩] w (CutRet s.data.toList w) := by
  have hs : s.size ≤ 9223372036854775807 := hs
  have mixed : Tryd.prog.follows .mixedOrders = true := by kernel_rfl
  have hl : s.data.toList.length = s.size := Array.length_toList
  have miss : Lib.indexByte s.data.toList 46 = -1 → Calls Tryd.prog 57 #[.string s, .string ⟨#[46]⟩] w (CutRet s.data.toList w) := fun h => by
    have E := Lib.hid (show cutD s.data.toList = (s.data.toList, [], false) by unfold cutD; rw [h, if_neg (by omega)])
    go_enter Tryd.func57, Tryd.ntmps57
    go_wp2_with fail
    refine (Tryd.stringslite_Index_one s 46 w).mono ?_
    rintro e w1 ⟨rfl, rfl⟩
    rw [h]
    clear h
    go_wp2
    go_ret3
    refine ⟨?_, 0, rfl⟩
    rw [E.out]
    rfl
  rcases index_bd s.data.toList 46 with ⟨_, h2⟩ | h
  · by_cases h0 : 0 ≤ Lib.indexByte s.data.toList 46
    · obtain ⟨i, hi⟩ : ∃ i : Nat, Lib.indexByte s.data.toList 46 = i := ⟨(Lib.indexByte s.data.toList 46).toNat, by omega⟩
      rw [hi, hl] at h2
      have E : cutD s.data.toList = (s.data.toList.take i, s.data.toList.drop (i + 1), true) := by
        unfold cutD
        rw [hi, if_pos (by omega)]; simp
      have E := Lib.hid E
      have wr1 : IntKind.i64.wrap ((i : Int) + 1) = (i : Int) + 1 := by
        have h3 : (i : Int) + 1 ≤ 9223372036854775807 := by omega
        simp [IntKind.wrap, IntKind.bits, IntKind.signed]; omega
      have c1 : (0 : Int) ≤ (i : Int) := by omega
      have c2 : (i : Int) ≤ (s.size : Int) := by omega
      have c3 : (0 : Int) ≤ (i : Int) + 1 := by omega
      have c4 : (i : Int) + 1 ≤ (s.size : Int) := by omega
      go_enter Tryd.func57, Tryd.ntmps57
      go_wp2_with fail
      refine (Tryd.stringslite_Index_one s 46 w).mono ?_
      rintro e w1 ⟨rfl, rfl⟩
      rw [hi]
      clear hi h0
      go_wp2_with fail
      go_region_o
      go_wp2
      go_ret3
      refine ⟨?_, 1, rfl⟩
      rw [E.out, extract_take, extract_drop]
      rfl
    · exact miss (by omega)
  · exact miss h
set_option maxRecDepth 100000 in
set_option maxHeartbeats 1000000 in
theorem cut_any (s : ByteArray) (w : World) (hs : s.size ≤ maxLen) : Calls Tryd.prog 37 #[.string s, .string ⟨#[46]⟩] w (CutRet s.data.toList w) := by
  have mixed : Tryd.prog.follows .mixedOrders = true := by kernel_rfl
  have HC := Lib.hid (slcut_any s w hs)
  go_enter Tryd.func37, Tryd.ntmps37
  clear hs
  go_wp2_with fail
  refine HC.out.mono ?_
  rintro e w1 ⟨rfl, k, rfl⟩
  go_wp2
  go_ret3
  exact ⟨rfl, k, rfl⟩
end Go.Proofs.YtmfdggolnfoniaaDoor
