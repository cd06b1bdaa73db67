/- Trees: the chapter's example. -/
import Derived.Test.YtceapefjdiphpaaTreem
namespace Go.Proofs.Ytceapefjdiphpaa
open Go.RowKit

/-- a copy, as a callee leaves it -/
theorem CopyOk.tree {w' : World} {B n : Nat} {v : Value} {fs gs : List FileV} (h : CopyOk w' B n v fs gs) : ∃ A c, v = .slice A n c ∧ TreeOk w' w'.heap.size A gs := by
  obtain ⟨A, c, hv, _, hs⟩ := Sl.of_own h.own
  refine ⟨A, c, hv, ?_, fun g hg => (h.files g hg).ok⟩
  rw [h.len]; exact hs
theorem sameT_of {fs gs : List FileV} (h : fs.map plainF = gs.map plainF) : sameT fs gs = true := decide_eq_true h
theorem fewP_same {fs gs : List FileV} (h : gs.map plainF = fs.map plainF) (hf : FewP fs) : FewP gs := by
  have hl : gs.length = fs.length := by have := congrArg List.length h; simpa using this
  refine ⟨by rw [hl]; exact hf.len, fun g hg => ?_⟩
  obtain ⟨k, hk, rfl⟩ := List.getElem_of_mem hg
  have hk' : k < fs.length := by omega
  have h1 := congrArg (fun l => l[k]?) h
  simp only [List.getElem?_map, List.getElem?_eq_getElem hk, List.getElem?_eq_getElem hk', Option.map_some, Option.some.injEq, plainF, Prod.mk.injEq] at h1
  have h2 := hf.ok _ (List.getElem_mem hk')
  exact ⟨by rw [h1.1]; exact h2.name, by rw [h1.2.1]; exact h2.al, by rw [h1.2.2]; exact h2.ll, by rw [h1.2.1]; exact h2.also, by rw [h1.2.2]; exact h2.lines⟩

def tree0 (g : Nat) : List FileV := [⟨(ByteArray.mk #[97]), none, 0, [], some ⟨g, 0, none⟩, 2, [(ByteArray.mk #[120]), (ByteArray.mk #[])]⟩]
theorem few0 (g : Nat) : FewP (tree0 g) := ⟨show (1 : Nat) ≤ 40 by decide, fun f hf => by
  simp only [tree0, List.mem_singleton] at hf
  subst hf
  exact ⟨show ((ByteArray.mk #[97])).size ≤ 200 by decide, show (0 : Nat) ≤ 40 by decide, show (2 : Nat) ≤ 100 by decide, by simp, fun s hs => by
    simp only [List.mem_cons, List.not_mem_nil, or_false] at hs
    rcases hs with rfl | rfl <;> decide⟩⟩
theorem text0 (g : Nat) : textT (tree0 g) = [61, 32, 97, 10, 58, 120, 10, 58, 10] := rfl
theorem good0 (g : Nat) : goodT (tree0 g) = true := by
  have hg : goodF ⟨(ByteArray.mk #[97]), none, 0, [], some ⟨g, 0, none⟩, 2, [(ByteArray.mk #[120]), (ByteArray.mk #[])]⟩ = true := by
    have h : (nameB ((ByteArray.mk #[97])).data.toList && (decide ((0 : Nat) = 0) && (decide ((2 : Nat) ≤ 60) && !([(ByteArray.mk #[120]), (ByteArray.mk #[])].any badL)))) = true := by decide
    exact h
  unfold goodT
  have : okAt (tree0 g) 0 = true := by rw [okAt_zero (fs := tree0 g) rfl]; exact hg
  simp only [tree0, List.length_cons, List.length_nil] at *
  simp [List.range_succ, this]
theorem find0a (g : Nat) : findV (tree0 g) (ByteArray.mk #[97]) = 0 := findV_at (k := 0) (by simp [tree0]) rfl (fun j hj => by omega)
theorem find0b (g : Nat) : findV (tree0 g) (ByteArray.mk #[98]) = -1 := findV_none fun j hj => by
  have hj0 : j = 0 := by simp [tree0] at hj; omega
  subst hj0
  show (ByteArray.mk #[97]) ≠ (ByteArray.mk #[98])
  decide

set_option maxRecDepth 100000 in
set_option maxHeartbeats 4000000 in
theorem works15 (w : World) : Calls Try.prog 40 #[] w (RetB w (.bool true)) := by
  have B0 : Hid (Below w.heap.size w ((w.alloc (.cells #[.string (ByteArray.mk #[120]), .string (ByteArray.mk #[])] 9)).alloc (.cells #[.string (ByteArray.mk #[97]), .slice none 0 0, .slice (some ⟨w.heap.size, 0, none⟩) 2 2] 68))) := two_box3 _ _ _
  have K1 : Hid (Blk ((w.alloc (.cells #[.string (ByteArray.mk #[120]), .string (ByteArray.mk #[])] 9)).alloc (.cells #[.string (ByteArray.mk #[97]), .slice none 0 0, .slice (some ⟨w.heap.size, 0, none⟩) 2 2] 68)) w.heap.size 9 #[.string (ByteArray.mk #[120]), .string (ByteArray.mk #[])]) := (Blk.new _ _ _).alloc _
  have K2 : Hid (Blk ((w.alloc (.cells #[.string (ByteArray.mk #[120]), .string (ByteArray.mk #[])] 9)).alloc (.cells #[.string (ByteArray.mk #[97]), .slice none 0 0, .slice (some ⟨w.heap.size, 0, none⟩) 2 2] 68)) (w.heap.size + 1) 68 #[.string (ByteArray.mk #[97]), .slice none 0 0, .slice (some ⟨w.heap.size, 0, none⟩) 2 2]) := Blk.newAt (by simp) _ _
  go_enter Try.func40, Try.ntmps40
  go_wp2_with fail
  generalize hw0 : ((w.alloc (.cells #[.string (ByteArray.mk #[120]), .string (ByteArray.mk #[])] 9)).alloc (.cells #[.string (ByteArray.mk #[97]), .slice none 0 0, .slice (some ⟨w.heap.size, 0, none⟩) 2 2] 68)) = w0 at *
  have T0 : Hid (TreeOk w0 w0.heap.size (some ⟨w.heap.size + 1, 0, none⟩) (tree0 w.heap.size)) := by
    refine ⟨⟨rfl, fun _ => ⟨_, _, rfl, K2.out.lt, fun j hj => ?_⟩⟩, fun f hf => ?_⟩
    · rw [Nat.zero_add, K2.out.cell]
      show (([.string (ByteArray.mk #[97]), .slice none 0 0, .slice (some ⟨w.heap.size, 0, none⟩) 2 2] : List Value).toArray)[j]? = ([.string (ByteArray.mk #[97]), .slice none 0 0, .slice (some ⟨w.heap.size, 0, none⟩) 2 2] : List Value)[j]?
      rw [List.getElem?_toArray]
    · simp only [tree0, List.mem_singleton] at hf
      subst hf
      refine ⟨(show ((ByteArray.mk #[97])).size ≤ maxLen by decide), ⟨Nat.le_refl _, (show (0 : Nat) ≤ maxLen by decide)⟩, ⟨Nat.le_refl _, (show (2 : Nat) ≤ maxLen by decide)⟩, ⟨rfl, fun h => absurd h (by simp)⟩, ⟨rfl, fun _ => ⟨_, _, rfl, K1.out.lt, fun j hj => ?_⟩⟩, by simp, fun s hs => ?_⟩
      · rw [Nat.zero_add, K1.out.cell]
        show (([.string (ByteArray.mk #[120]), .string (ByteArray.mk #[])] : List Value).toArray)[j]? = ([.string (ByteArray.mk #[120]), .string (ByteArray.mk #[])] : List Value)[j]?
        rw [List.getElem?_toArray]
      · simp only [List.mem_cons, List.not_mem_nil, or_false] at hs
        rcases hs with rfl | rfl <;> decide
  clear K1 K2 hw0
  refine (text_any (tree0 w.heap.size) w0 _ 1 1 rfl (few0 _) T0.out).mono ?_
  rintro e w1 ⟨rfl, b1⟩
  rw [text0]
  have B1 := Lib.hid (ext_trans B0.out b1)
  have T1 := Lib.hid (T0.out.up b1)
  clear b1 B0 T0
  go_wp2_with fail
  refine (goodT_any (tree0 w.heap.size) w1 _ 1 1 rfl (by omega) T1.out).mono ?_
  rintro e w2 ⟨rfl, b2⟩
  rw [good0]
  have B2 := Lib.hid (B1.out.trans (b2.mono B1.out.size))
  have T2 := Lib.hid (T1.out.up b2)
  clear b2 B1 T1
  go_wp2_with fail
  refine (find_any (tree0 w.heap.size) (ByteArray.mk #[97]) w2 _ 1 1 rfl (by omega) T2.out).mono ?_
  rintro e w3 ⟨rfl, b3⟩
  rw [find0a]
  have B3 := Lib.hid (B2.out.trans (b3.mono B2.out.size))
  have T3 := Lib.hid (T2.out.up b3)
  clear b3 B2 T2
  go_wp2_with fail
  refine (find_any (tree0 w.heap.size) (ByteArray.mk #[98]) w3 _ 1 1 rfl (by omega) T3.out).mono ?_
  rintro e w4 ⟨rfl, b4⟩
  rw [find0b]
  have B4 := Lib.hid (B3.out.trans (b4.mono B3.out.size))
  have T4 := Lib.hid (T3.out.up b4)
  clear b4 B3 T3
  go_wp2_with fail
  refine (copy_any (tree0 w.heap.size) w4 _ 1 1 rfl (few0 _) T4.out).mono ?_
  rintro e w5 ⟨v, gs, rfl, hc, b5⟩
  obtain ⟨A5, c5, rfl, t5⟩ := hc.tree
  have B5 := Lib.hid (B4.out.trans (b5.mono B4.out.size))
  have T5 := Lib.hid (T4.out.up b5)
  have T6 := Lib.hid t5
  have HC := Lib.hid hc
  clear b5 B4 T4 t5 hc
  go_wp2_with fail
  refine (sameT_any (tree0 w.heap.size) gs w5 _ _ 1 1 1 c5 rfl HC.out.len (by omega) T5.out T6.out).mono ?_
  rintro e w6 ⟨rfl, b6⟩
  rw [sameT_of HC.out.same.symm]
  have B6 := Lib.hid (B5.out.trans (b6.mono B5.out.size))
  clear b6 B5 T5
  go_wp2
  go_ret
  exact ⟨rfl, B6.out⟩
end Go.Proofs.Ytceapefjdiphpaa
