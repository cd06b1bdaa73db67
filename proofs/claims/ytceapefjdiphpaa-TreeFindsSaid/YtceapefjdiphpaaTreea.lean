/- Trees: lists of texts, files and trees held against each other. -/
import Derived.Test.YtceapefjdiphpaaTree
import Derived.Test.YtceapefjdiphpaaWordb
namespace Go.Proofs.Ytceapefjdiphpaa
open Go.RowKit

theorem str_ne {s t : ByteArray} (h : s ≠ t) : (s.toList == t.toList) = false := by
  rw [beq_eq_false_iff_ne]
  intro e
  rw [ByteArray.toList_eq, ByteArray.toList_eq] at e
  exact h (ByteArray.ext (Array.ext' e))
theorem strs_at {w : World} {B n : Nat} {A : Option Addr} {l : List ByteArray} (h : Sl w B 1 A n (strsC l)) (hn : l.length = n) {k : Nat} (hk : k < l.length) :
    ∃ b o, A = some ⟨b, o, none⟩ ∧ b < B ∧ w.cell? ⟨b, o + k, none⟩ = some (.string l[k]) := by
  obtain ⟨b, o, u, hA, hb, hu, hc⟩ := h.at_ (k := k) (by omega)
  refine ⟨b, o, hA, hb, ?_⟩
  rw [hc]
  simp only [strsC, List.getElem?_map, List.getElem?_eq_getElem hk, Option.map_some, Option.some.injEq] at hu
  rw [← hu]

set_option maxRecDepth 100000 in
set_option maxHeartbeats 1000000 in
theorem rtexts_any (l l' : List ByteArray) (w : World) (A A' : Option Addr) (n n' c c' : Nat) (hn : l.length = n) (hn' : l'.length = n') (hm : n ≤ maxLen) (h : Sl w w.heap.size 1 A n (strsC l)) (h' : Sl w w.heap.size 1 A' n' (strsC l')) :
    Calls Try.prog 62 #[.slice A n c, .slice A' n' c'] w (RetD w (.bool (decide (l = l')))) := by
  unfold maxLen at hm
  by_cases hne : n = n'
  · subst hne
    have HL := Lib.hid hn
    have HL' := Lib.hid hn'
    have H := Lib.hid h
    have H' := Lib.hid h'
    clear h h' hn hn'
    go_enter Try.func62, Try.ntmps62
    go_wp2_with fail
    go_loopw [5] (fun i wr => ∃ k : Nat, k ≤ n ∧ i = .int .i64 k ∧ l.take k = l'.take k ∧ ∃ m, wr = w.drewN m) (fun i _ => n - (intOf i).toNat)
    case atStart => exact ⟨0, by omega, rfl, by simp, 0, rfl⟩
    case round =>
      obtain ⟨k, hk, rfl, ht, q, hq⟩ := hrel
      have T := Lib.hid ht
      have Q := Lib.hid hq
      clear ht hq
      by_cases hlt : k < n
      · obtain ⟨b, o, rfl, hb, L1⟩ := strs_at H.out HL.out (k := k) (by rw [HL.out]; exact hlt)
        obtain ⟨b', o', rfl, hb', L2⟩ := strs_at H'.out HL'.out (k := k) (by rw [HL'.out]; exact hlt)
        have P1 : Hid (l.take (k + 1) = l.take k ++ [l[k]'(by rw [HL.out]; exact hlt)]) := List.take_succ_eq_append_getElem _
        have P2 : Hid (l'.take (k + 1) = l'.take k ++ [l'[k]'(by rw [HL'.out]; exact hlt)]) := List.take_succ_eq_append_getElem _
        have Q1 : Hid (l[k]? = some (l[k]'(by rw [HL.out]; exact hlt))) := List.getElem?_eq_getElem _
        have Q2 : Hid (l'[k]? = some (l'[k]'(by rw [HL'.out]; exact hlt))) := List.getElem?_eq_getElem _
        generalize l[k]'(by rw [HL.out]; exact hlt) = s at *
        generalize l'[k]'(by rw [HL'.out]; exact hlt) = t at *
        have L3 : wr.cell? ⟨b, o + k, none⟩ = some (.string s) := by rw [Q.out]; exact L1
        have L4 : wr.cell? ⟨b', o' + k, none⟩ = some (.string t) := by rw [Q.out]; exact L2
        clear L1 L2
        have hlk : (k : Int) < (n : Int) := by omega
        have hk0 : (0 : Int) ≤ (k : Int) := by omega
        by_cases he : s = t
        · subst he
          have N : Hid (l.take (k + 1) = l'.take (k + 1)) := by rw [Hid, P1.out, P2.out, T.out]
          clear P1 P2 Q1 Q2 T
          go_wp2_with fail
          go_quiet (fail)
          go_wp2_with fail
          go_roundw
          case rel => exact ⟨k + 1, by omega, by go_num, N.out, q + _, by rw [Q.out]; first | rfl | exact World.drewN_drewN _ _ _⟩
          case measure => simp [intOf]; omega
        · have d := str_ne he
          have N : Hid (l ≠ l') := fun e => he (by have h1 := Q1.out; rw [e, Q2.out] at h1; simpa using h1.symm)
          clear P1 P2 Q1 Q2 T he
          go_wp2_with fail
          go_quiet (fail)
          go_wp2_with fail
          go_ret
          exact ⟨ret_bool (decide_eq_false N.out).symm, q + _, by rw [Q.out]; first | rfl | exact World.drewN_drewN _ _ _⟩
      · have hk' : k = n := by omega
        subst hk'
        have N : Hid (l = l') := by have h1 := T.out; rw [List.take_of_length_le (by rw [HL.out]; exact Nat.le_refl _), List.take_of_length_le (by rw [HL'.out]; exact Nat.le_refl _)] at h1; exact h1
        go_wp2
        go_ret
        exact ⟨ret_bool (decide_eq_true N.out).symm, q, Q.out⟩
  · have N : Hid (l ≠ l') := fun e => hne (by rw [← hn, ← hn', e])
    have hd : ¬ (n : Int) = (n' : Int) := by omega
    clear hn hn' h h' hne
    go_enter Try.func62, Try.ntmps62
    go_wp2
    go_ret
    exact ⟨ret_bool (decide_eq_false N.out).symm, 0, rfl⟩

set_option maxRecDepth 100000 in
set_option maxHeartbeats 1000000 in
theorem equal_any (l l' : List ByteArray) (w : World) (A A' : Option Addr) (n n' c c' : Nat) (hn : l.length = n) (hn' : l'.length = n') (hm : n ≤ maxLen) (h : Sl w w.heap.size 1 A n (strsC l)) (h' : Sl w w.heap.size 1 A' n' (strsC l')) :
    Calls Try.prog 80 #[.slice A n c, .slice A' n' c'] w (RetD w (.bool (decide (l = l')))) := by
  unfold maxLen at hm
  by_cases hne : n = n'
  · subst hne
    have HL := Lib.hid hn
    have HL' := Lib.hid hn'
    have H := Lib.hid h
    have H' := Lib.hid h'
    clear h h' hn hn'
    go_enter Try.func80, Try.ntmps80
    go_wp2_with fail
    go_loopw [13] (fun i wr => ∃ k : Nat, k ≤ n ∧ i = .int .i64 k ∧ l.take k = l'.take k ∧ ∃ m, wr = w.drewN m) (fun i _ => n - (intOf i).toNat)
    case atStart => exact ⟨0, by omega, rfl, by simp, 0, rfl⟩
    case round =>
      obtain ⟨k, hk, rfl, ht, q, hq⟩ := hrel
      have T := Lib.hid ht
      have Q := Lib.hid hq
      clear ht hq
      by_cases hlt : k < n
      · obtain ⟨b, o, rfl, hb, L1⟩ := strs_at H.out HL.out (k := k) (by rw [HL.out]; exact hlt)
        obtain ⟨b', o', rfl, hb', L2⟩ := strs_at H'.out HL'.out (k := k) (by rw [HL'.out]; exact hlt)
        have P1 : Hid (l.take (k + 1) = l.take k ++ [l[k]'(by rw [HL.out]; exact hlt)]) := List.take_succ_eq_append_getElem _
        have P2 : Hid (l'.take (k + 1) = l'.take k ++ [l'[k]'(by rw [HL'.out]; exact hlt)]) := List.take_succ_eq_append_getElem _
        have Q1 : Hid (l[k]? = some (l[k]'(by rw [HL.out]; exact hlt))) := List.getElem?_eq_getElem _
        have Q2 : Hid (l'[k]? = some (l'[k]'(by rw [HL'.out]; exact hlt))) := List.getElem?_eq_getElem _
        generalize l[k]'(by rw [HL.out]; exact hlt) = s at *
        generalize l'[k]'(by rw [HL'.out]; exact hlt) = t at *
        have L3 : wr.cell? ⟨b, o + k, none⟩ = some (.string s) := by rw [Q.out]; exact L1
        have L4 : wr.cell? ⟨b', o' + k, none⟩ = some (.string t) := by rw [Q.out]; exact L2
        clear L1 L2
        have hlk : (k : Int) < (n : Int) := by omega
        have hk0 : (0 : Int) ≤ (k : Int) := by omega
        by_cases he : s = t
        · subst he
          have N : Hid (l.take (k + 1) = l'.take (k + 1)) := by rw [Hid, P1.out, P2.out, T.out]
          clear P1 P2 Q1 Q2 T
          go_wp2_with fail
          go_quiet (fail)
          go_wp2_with fail
          go_roundw
          case rel => exact ⟨k + 1, by omega, by go_num, N.out, q + _, by rw [Q.out]; first | rfl | exact World.drewN_drewN _ _ _⟩
          case measure => simp [intOf]; omega
        · have d := str_ne he
          have N : Hid (l ≠ l') := fun e => he (by have h1 := Q1.out; rw [e, Q2.out] at h1; simpa using h1.symm)
          clear P1 P2 Q1 Q2 T he
          go_wp2_with fail
          go_quiet (fail)
          go_wp2_with fail
          go_ret
          exact ⟨ret_bool (decide_eq_false N.out).symm, q + _, by rw [Q.out]; first | rfl | exact World.drewN_drewN _ _ _⟩
      · have hk' : k = n := by omega
        subst hk'
        have N : Hid (l = l') := by have h1 := T.out; rw [List.take_of_length_le (by rw [HL.out]; exact Nat.le_refl _), List.take_of_length_le (by rw [HL'.out]; exact Nat.le_refl _)] at h1; exact h1
        go_wp2
        go_ret
        exact ⟨ret_bool (decide_eq_true N.out).symm, q, Q.out⟩
  · have N : Hid (l ≠ l') := fun e => hne (by rw [← hn, ← hn', e])
    have hd : ¬ (n : Int) = (n' : Int) := by omega
    clear hn hn' h h' hne
    go_enter Try.func80, Try.ntmps80
    go_wp2
    go_ret
    exact ⟨ret_bool (decide_eq_false N.out).symm, 0, rfl⟩

/-- are two files, two trees the same? -/
def sameF (f g : FileV) : Bool := decide (f.name = g.name) && (decide (f.also = g.also) && decide (f.lines = g.lines))
def plainF (f : FileV) : ByteArray × List ByteArray × List ByteArray := (f.name, f.also, f.lines)
def sameT (fs gs : List FileV) : Bool := decide (fs.map plainF = gs.map plainF)
theorem sameF_iff {f g : FileV} : sameF f g = true ↔ plainF f = plainF g := by
  simp [sameF, plainF]
end Go.Proofs.Ytceapefjdiphpaa
