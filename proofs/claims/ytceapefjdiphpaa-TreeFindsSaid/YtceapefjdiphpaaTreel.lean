/- Trees: cloned. -/
import Derived.Test.YtceapefjdiphpaaTreek
import Derived.Test.YtceapefjdiphpaaHeldm
import Derived.Lib.LazyBuf
namespace Go.Proofs.Ytceapefjdiphpaa
open Go.RowKit

theorem treeSl : SlT Try.prog 58 68 3 64 := slT_of (z := .agg #[.string ByteArray.empty, .slice none 0 0, .slice none 0 0]) (by kernel_rfl) (by kernel_rfl) rfl (by omega)
def OwnRet (w : World) (e : TypeId) (size n : Nat) (xs : List Value) (en : Ending) (w' : World) : Prop := ∃ v, en = .returned v ∧ w'.ownsRow w.heap.size e size v n xs ∧ Below w.heap.size w w'

theorem cloneS_any (l : List ByteArray) (w : World) (A : Option Addr) (n c : Nat) (hn : l.length = n) (hm : n ≤ 100) (h : Sl w w.heap.size 1 A n (strsC l)) :
    Calls Try.prog 70 #[.slice A n c] w (OwnRet w 9 1 n (strsC l)) := by
  cases A with
  | none =>
    have hn0 : n = 0 := by
      rcases Nat.eq_zero_or_pos n with h0 | h0
      · exact h0
      · obtain ⟨b, o, e, _⟩ := h.2 h0; cases e
    subst hn0
    have hl : l = [] := List.length_eq_zero_iff.1 hn
    subst hl
    refine (Try.slices_Clone_string_nil 0 c w).mono ?_
    rintro e w' ⟨rfl, rfl⟩
    exact ⟨_, rfl, World.ownsRow_nil _ _ _ _, Below.refl _ _⟩
  | some a =>
    rcases Nat.eq_zero_or_pos n with h0 | h0
    · subst h0
      have hl : l = [] := List.length_eq_zero_iff.1 hn
      subst hl
      refine (Try.slices_Clone_string_zero a c w).mono ?_
      rintro e w' ⟨v, rfl, ho, _, hb⟩
      exact ⟨v, rfl, ho, hb⟩
    · obtain ⟨b, o, e, hb, hc⟩ := h.2 h0
      injection e with e
      subst e
      refine (Try.slices_Clone_string b o n c l w (by omega) (by omega) (fun j hj => ?_)).mono ?_
      · rw [hc j (by omega)]
        simp [strsC, List.getElem?_eq_getElem hj, List.getD_eq_getElem?_getD]
      · rintro e w' ⟨v, rfl, ho, _, hb⟩
        refine ⟨v, rfl, ?_, hb⟩
        rwa [List.take_of_length_le (by omega)] at ho

set_option maxRecDepth 100000 in
set_option maxHeartbeats 1000000 in
theorem cloneT_any (fs : List FileV) (w : World) (A : Option Addr) (n c : Nat) (hn : fs.length = n) (hm : n ≤ 40) (h : TreeOk w w.heap.size A fs) :
    Calls Try.prog 69 #[.slice A n c] w (OwnRet w 68 3 n (fs.flatMap fileC)) := by
  have HE : ∀ u : World, (binOp .eql 58 (.slice A n c) (.slice none 0 0)).run Try.prog u = .ok (.bool A.isNone) u := fun u => Lib.run_eql_slice_nil u _ _ A n c 0 0 Try.underlying58
  have HS : Hid (Sl w w.heap.size 3 A n (fs.flatMap fileC)) := by rw [Hid, ← hn]; exact h.sl
  have HL := Lib.hid hn
  clear h hn
  cases A with
  | none =>
    have hn0 : n = 0 := by
      rcases Nat.eq_zero_or_pos n with h0 | h0
      · exact h0
      · obtain ⟨b, o, e, _⟩ := HS.out.2 h0; cases e
    subst hn0
    have hl : Hid (fs = []) := List.length_eq_zero_iff.1 HL.out
    have HE' : ∀ u : World, (binOp .eql 58 (.slice none 0 c) (.slice none 0 0)).run Try.prog u = .ok (.bool true) u := HE
    clear HE
    go_enter Try.func69, Try.ntmps69
    go_wp2
    go_ret
    refine ⟨_, rfl, ?_, Below.refl _ _⟩
    rw [hl.out]
    exact World.ownsRow_nil _ _ _ _
  | some a =>
    have HE' : ∀ u : World, (binOp .eql 58 (.slice (some a) n c) (.slice none 0 0)).run Try.prog u = .ok (.bool false) u := HE
    clear HE
    have B0 : Hid (Below w.heap.size w (w.alloc (.cells #[] 68))) := below_new _ _
    have O0 : Hid ((w.alloc (.cells #[] 68)).ownsRow w.heap.size 68 3 (.slice (some ⟨w.heap.size, 0, none⟩) 0 0) 0 []) :=
      ⟨rfl, .inr ⟨w.heap.size, 0, #[], rfl, Nat.le_refl _, heap_alloc_new w _, Nat.le_refl _, by simp, rfl, rfl⟩⟩
    have S0 : Hid (Sl (w.alloc (.cells #[] 68)) w.heap.size 3 (some a) n (fs.flatMap fileC)) := HS.out.below B0.out (Nat.le_refl _)
    go_enter Try.func69, Try.ntmps69
    go_wp2_with (at_builtin; refine wpList_cat treeSl O0.out S0.out (fun u hu => ?_) B0.out.size (by omega) (by unfold maxLen; omega) (by rfl) (by rfl) ?_)
    · obtain ⟨f, _, hf⟩ := List.mem_flatMap.1 hu
      simp only [fileC, List.mem_cons, List.not_mem_nil, or_false] at hf
      rcases hf with rfl | rfl | rfl <;> rfl
    · intro v' w' ho hb
      rw [Nat.zero_add, List.nil_append] at ho
      have O1 := Lib.hid ho
      have B1 := Lib.hid (B0.out.trans hb)
      clear ho hb
      obtain ⟨A2, c2, hv, _, _⟩ := Sl.of_own O1.out
      subst hv
      go_wp2
      go_ret
      exact ⟨_, rfl, O1.out, B1.out⟩

theorem fieldRun (b o : Nat) (i : Nat) (hi : i < 3) (w : World) : (Instr.fieldAt 68 (.pointer (some ⟨b, o, none⟩)) i).run Try.prog w = .ok (.pointer (some ⟨b, o + i, none⟩)) w := by
  match i, hi with
  | 0, _ => simp [go_sem]
  | 1, _ => simp [go_sem]
  | 2, _ => simp [go_sem]
theorem indexRun (g n cap k : Nat) (hk : k < n) (w : World) : (Instr.indexAt 58 (.slice (some ⟨g, 0, none⟩) n cap) (.int .i64 k)).run Try.prog w = .ok (.pointer (some ⟨g, k * 3, none⟩)) w := by
  have h1 : (k : Int) < (n : Int) := by omega
  have h0 : (0 : Int) ≤ (k : Int) := by omega
  simp [go_sem, h1, h0]
end Go.Proofs.Ytceapefjdiphpaa
