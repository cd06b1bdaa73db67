/- Names of patches: cloned, and sorted by the library. -/
import Derived.Test.YtmfdggolnfoniaaSeth
namespace Go.Proofs.Ytmfdggolnfoniaa
open Go.RowKit Go.Sort

theorem cmpLaysP (blk off size : Nat) (w : World) : CmpLays Try.prog 59 #[] encP 2 (fun x y => signV (keyP x) (keyP y)) blk off size w :=
  fun _ _ _ _ x y => (cmpG _ _ _ _ ⟨by omega, by have := x.1.isLt; omega⟩ ⟨by omega, by have := x.2.isLt; omega⟩ ⟨by omega, by have := y.1.isLt; omega⟩ ⟨by omega, by have := y.2.isLt; omega⟩ _).mono fun _ _ ⟨he, hg⟩ => ⟨he, hg.grow⟩
theorem ltOf_sign {α : Type} (key : α → Int) (x y : α) : ltOf (fun x y => signV (key x) (key y)) x y = decide (key x < key y) := by
  unfold ltOf signV
  by_cases h1 : key x < key y
  · simp [h1]
  · by_cases h2 : key y < key x <;> simp [h1, h2]
theorem swo_sign {α : Type} (key : α → Int) : SWO (ltOf fun x y => signV (key x) (key y)) where
  irrefl x := by rw [ltOf_sign]; simp
  trans x y z h1 h2 := by rw [ltOf_sign] at *; simp at *; omega
  ntrans x y z h1 h2 := by rw [ltOf_sign] at *; simp at *; omega
theorem isAggP (w : World) : (isAgg 33).run Try.prog w = .ok true w := by kernel_rfl
theorem sizeP (w : World) : (Go.sizeOf 33).run Try.prog w = .ok 2 w := by kernel_rfl
/-- the library's sort, at a slice of the call's own -/
theorem sortP (l : List PidV) (w : World) (base n : Nat) (v : Value) (hn : l.length = n) (hm : n ≤ 100000) (h : w.ownsRow base 33 2 v n (l.flatMap encP)) :
    Calls Try.prog 58 #[v, .func (.func 59) #[] #[]] w fun e w' => e = .returned (.tuple #[]) ∧ Below base w w' ∧
      ∃ d : List PidV, d.Perm l ∧ (d.Pairwise fun a b => keyP a ≤ keyP b) ∧ w'.ownsRow base 33 2 v n (d.flatMap encP) := by
  rcases h.2 with ⟨rfl, hx⟩ | ⟨g, cap, cur, rfl, hg, hh, hnc, hrest⟩
  · subst hx
    have hl : l = [] := List.length_eq_zero_iff.1 hn
    subst hl
    refine (AnyF.slices_SortFunc_none Try.sortPid none 0 _ w).mono ?_
    rintro e w' ⟨rfl, rfl⟩
    exact ⟨rfl, Below.refl _ _, [], List.Perm.refl _, List.Pairwise.nil, h⟩
  · have eg : ∀ args w, (callFunc 59 args).run Try.prog w = .ok (.enter 59 args) w := enters_of Try.func59 (by kernel_rfl) rfl
    have hblk := (h.lt g rfl).2
    have hcon := AnyQ.slices_SortFunc Try.sortPid 2 isAggP sizeP encP encP_len encP_one (fun x y => signV (keyP x) (keyP y)) (swo_sign keyP) 59 #[] g 0 cap l.toArray w eg (cmpLaysP g 0 l.toArray.size w) (own_holds encP_len h hn) hblk (by simp only [List.size_toArray]; omega)
    rw [show l.toArray.size = n by simp [hn]] at hcon
    refine Calls.mono hcon ?_
    rintro e w' ⟨rfl, d', m, os, hp, hs, rfl⟩
    obtain ⟨d, rfl⟩ : ∃ d : List PidV, d' = d.toArray := ⟨d'.toList, by simp⟩
    have hp' : PermIn 0 l.toArray.size l.toArray d.toArray := by rw [show l.toArray.size = n by simp [hn]]; exact hp
    obtain ⟨p1, p2⟩ := perm_of_in hp'
    have hs' : SortedIn (ltOf fun x y : PidV => signV (keyP x) (keyP y)) 0 d.length d.toArray := by rw [show d.length = n by omega]; exact hs
    obtain ⟨o1, o2⟩ := own_sorted encP_len h d (by omega) m os
    exact ⟨rfl, o2, d, p1, pair_of_sorted (ltOf_sign keyP) hs', o1⟩

theorem encs_one {α : Type} {enc : α → List Value} (h : ∀ p, ∀ u ∈ enc p, u.oneCell' = true) (l : List α) : ∀ u ∈ l.flatMap enc, u.oneCell' = true := by
  intro u hu
  obtain ⟨p, _, hp⟩ := List.mem_flatMap.1 hu
  exact h p u hp
set_option maxRecDepth 100000 in
set_option maxHeartbeats 1000000 in
theorem cloneP (l : List PidV) (w : World) (A : Option Addr) (n c : Nat) (hm : n ≤ 100000) (h : PidsAt w A n l) :
    Calls Try.prog 45 #[.slice A n c] w (OwnedRet w 33 2 n (l.flatMap encP)) := by
  have HE : ∀ u : World, (binOp .eql 34 (.slice A n c) (.slice none 0 0)).run Try.prog u = .ok (.bool A.isNone) u := fun u => Lib.run_eql_slice_nil u _ _ A n c 0 0 Try.underlying34
  have HS := Lib.hid h.sl
  have HL := Lib.hid h.len
  clear h
  cases A with
  | none =>
    have hn0 : n = 0 := by
      rcases Nat.eq_zero_or_pos n with h0 | h0
      · exact h0
      · obtain ⟨b, o, e, _⟩ := HS.out.2 h0; cases e
    subst hn0
    have hl : Hid (l = []) := List.length_eq_zero_iff.1 HL.out
    have HE' : ∀ u : World, (binOp .eql 34 (.slice none 0 c) (.slice none 0 0)).run Try.prog u = .ok (.bool true) u := HE
    clear HE
    go_enter Try.func45, Try.ntmps45
    go_wp2
    go_ret
    refine ⟨_, rfl, ?_, Below.refl _ _⟩
    rw [hl.out]
    exact World.ownsRow_nil _ _ _ _
  | some a =>
    have HE' : ∀ u : World, (binOp .eql 34 (.slice (some a) n c) (.slice none 0 0)).run Try.prog u = .ok (.bool false) u := HE
    clear HE
    have B0 : Hid (Below w.heap.size w (w.alloc (.cells #[] 33))) := below_new _ _
    have O0 : Hid ((w.alloc (.cells #[] 33)).ownsRow w.heap.size 33 2 (.slice (some ⟨w.heap.size, 0, none⟩) 0 0) 0 []) :=
      ⟨rfl, .inr ⟨w.heap.size, 0, #[], rfl, Nat.le_refl _, heap_alloc_new w _, Nat.le_refl _, by simp, rfl, rfl⟩⟩
    have S0 : Hid (Sl (w.alloc (.cells #[] 33)) w.heap.size 2 (some a) n (l.flatMap encP)) := HS.out.below B0.out (Nat.le_refl _)
    go_enter Try.func45, Try.ntmps45
    go_wp2_with (at_builtin; refine wpList_cat pidSl O0.out S0.out (encs_one encP_one l) B0.out.size (by omega) (by unfold maxLen; omega) (by rfl) (by rfl) ?_)
    intro v' w' ho hb
    rw [Nat.zero_add, List.nil_append] at ho
    have O1 := Lib.hid ho
    have B1 := Lib.hid (B0.out.trans hb)
    clear ho hb
    obtain ⟨A2, c2, hv, _, _⟩ := Sl.of_own O1.out
    subst hv
    go_wp2
    go_ret
    exact ⟨_, rfl, O1.out, B1.out⟩
end Go.Proofs.Ytmfdggolnfoniaa
