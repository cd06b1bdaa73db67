/- Trees: their texts, by a Builder. -/
import Derived.Test.YtceapefjdiphpaaTreeh
import Derived.Test.YtceapefjdiphpaaBuild
namespace Go.Proofs.Ytceapefjdiphpaa
open Go.RowKit

def oneC (ah s : ByteArray) : List Value := Lib.strCells ah ++ (Lib.strCells s ++ [.int .u8 10])
def putC (ah : ByteArray) (l : List ByteArray) : List Value := l.flatMap (oneC ah)
theorem putC_succ (ah : ByteArray) (l : List ByteArray) {k : Nat} (hk : k < l.length) : putC ah (l.take (k + 1)) = putC ah (l.take k) ++ oneC ah l[k] := by
  unfold putC; rw [List.take_succ_eq_append_getElem hk, List.flatMap_append]; simp
theorem putC_le (ah : ByteArray) (l : List ByteArray) (k : Nat) : (putC ah (l.take k)).length ≤ (putC ah l).length := by
  have : putC ah l = putC ah (l.take k) ++ putC ah (l.drop k) := by unfold putC; rw [← List.flatMap_append, List.take_append_drop]
  rw [this, List.length_append]; omega
def PutRet (B b : Nat) (bs : List Value) (w : World) (e : Ending) (w' : World) : Prop := e = .returned (.tuple #[]) ∧ IsB B b bs w' ∧ Below B w w' ∧ StayB w w'

set_option maxRecDepth 100000 in
set_option maxHeartbeats 2000000 in
theorem put_any (B b : Nat) (bs : List Value) (ah : ByteArray) (l : List ByteArray) (w : World) (A : Option Addr) (n c : Nat) (hn : l.length = n) (hm : n ≤ maxLen) (h : IsB B b bs w)
    (hr : ∀ w', Below B w w' → StayB w w' → Sl w' w'.heap.size 1 A n (strsC l)) (hlen : bs.length + (putC ah l).length ≤ 140737488355328) :
    Calls Try.prog 65 #[.string ah, .slice A n c, .pointer (some ⟨b, 0, none⟩)] w (PutRet B b (bs ++ putC ah l) w) := by
  unfold maxLen at hm
  have HL := Lib.hid hn
  have H := Lib.hid h
  have R := Lib.hid hr
  have LN := Lib.hid hlen
  clear hn h hr hlen
  go_enter Try.func65, Try.ntmps65
  go_wp2_with fail
  go_loopw [9] (fun i wr => ∃ k : Nat, k ≤ n ∧ i = .int .i64 k ∧ Hid (IsB B b (bs ++ putC ah (l.take k)) wr) ∧ Hid (Below B w wr) ∧ Hid (StayB w wr)) (fun i _ => n - (intOf i).toNat)
  case atStart => exact ⟨0, by omega, rfl, by simpa [putC, Hid] using H.out, Below.refl _ _, StayB.refl _⟩
  case round =>
    obtain ⟨k, hk, rfl, I, Bl, St⟩ := hrel
    by_cases hlt : k < n
    · obtain ⟨b', o, rfl, hb, L1⟩ := strs_at (R.out wr Bl.out St.out) HL.out (k := k) (by rw [HL.out]; exact hlt)
      have P1 : Hid (putC ah (l.take (k + 1)) = putC ah (l.take k) ++ oneC ah (l[k]'(by rw [HL.out]; exact hlt))) := putC_succ ah l _
      generalize l[k]'(by rw [HL.out]; exact hlt) = s at *
      have hle : bs.length + (putC ah (l.take k)).length + ((Lib.strCells ah).length + ((Lib.strCells s).length + 1)) ≤ 140737488355328 := by
        have h1 := putC_le ah l (k + 1)
        have h2 := LN.out
        rw [P1.out, List.length_append] at h1
        unfold oneC at h1
        rw [List.length_append, List.length_append] at h1
        simp only [List.length_cons, List.length_nil] at h1
        omega
      have z1 : (Lib.strCells ah).length = ah.size := Lib.strCells_length _
      have z2 : (Lib.strCells s).length = s.size := Lib.strCells_length _
      have hlk : (k : Int) < (n : Int) := by omega
      have hk0 : (0 : Int) ≤ (k : Int) := by omega
      have E1 : Hid ((bs ++ putC ah (l.take k)).length + ah.size ≤ 140737488355328) := by rw [Hid, List.length_append]; omega
      have E2 : Hid ((bs ++ putC ah (l.take k) ++ Lib.strCells ah).length + s.size ≤ 140737488355328) := by rw [Hid, List.length_append, List.length_append]; omega
      have E3 : Hid ((bs ++ putC ah (l.take k) ++ Lib.strCells ah ++ Lib.strCells s).length + 1 ≤ 140737488355328) := by rw [Hid, List.length_append, List.length_append, List.length_append]; omega
      clear z1 z2 hle
      go_wp2_with fail
      refine (writeString_any B b _ ah wr I.out E1.out).mono ?_
      rintro e w1 ⟨rfl, i1, b1, s1⟩
      have I1 := Lib.hid i1
      have B1 := Lib.hid (Bl.out.trans b1)
      have S1 := Lib.hid (St.out.trans s1)
      clear i1 b1 s1 L1
      go_wp2_with fail
      refine (writeString_any B b _ s w1 I1.out E2.out).mono ?_
      rintro e w2 ⟨rfl, i2, b2, s2⟩
      have I2 := Lib.hid i2
      have B2 := Lib.hid (B1.out.trans b2)
      have S2 := Lib.hid (S1.out.trans s2)
      clear i2 b2 s2
      go_wp2_with fail
      refine (writeByte_any B b _ 10 w2 I2.out E3.out).mono ?_
      rintro e w3 ⟨rfl, i3, b3, s3⟩
      have I3 : Hid (IsB B b (bs ++ putC ah (l.take (k + 1))) w3) := by
        rw [P1.out]; unfold oneC
        simpa [Hid, List.append_assoc] using i3
      have B3 := Lib.hid (B2.out.trans b3)
      have S3 := Lib.hid (S2.out.trans s3)
      clear i3 b3 s3
      go_wp2_with fail
      go_roundw
      case rel => exact ⟨k + 1, by omega, by go_num, I3, B3, S3⟩
      case measure => simp [intOf]; omega
    · have hk' : k = n := by omega
      subst hk'
      have I2 : Hid (IsB B b (bs ++ putC ah l) wr) := by have := I.out; rwa [List.take_of_length_le (by rw [HL.out]; exact Nat.le_refl _)] at this
      go_wp2
      go_end0
      exact ⟨rfl, I2.out, Bl.out, St.out⟩
end Go.Proofs.Ytceapefjdiphpaa
