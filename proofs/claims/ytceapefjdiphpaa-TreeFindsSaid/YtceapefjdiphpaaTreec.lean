/- Trees: the program's sameness. -/
import Derived.Test.YtceapefjdiphpaaTreeb
namespace Go.Proofs.Ytceapefjdiphpaa
open Go.RowKit

theorem two_box3 (w : World) (x y : Obj) : Below w.heap.size w ((w.alloc x).alloc y) := ((Below.refl _ _).alloc (Nat.le_refl _) _).alloc (by simp) _
theorem equal_ff {f g : FileV} {w : World} (hf : FileOk w w.heap.size f) (hg : FileOk w w.heap.size g) (w' : World) (hb : Below w.heap.size w w') :
    Calls Try.prog 80 #[.slice f.A f.also.length f.c, .slice g.A g.also.length g.c] w' (RetD w' (.bool (decide (f.also = g.also)))) ∧
    Calls Try.prog 80 #[.slice f.L f.lines.length f.d, .slice g.L g.lines.length g.d] w' (RetD w' (.bool (decide (f.lines = g.lines)))) :=
  equal_f (hf.up hb) (hg.up hb)

set_option maxRecDepth 100000 in
set_option maxHeartbeats 2000000 in
theorem same_any (f g : FileV) (w : World) (hf : FileOk w w.heap.size f) (hg : FileOk w w.heap.size g) :
    Calls Try.prog 61 #[.agg #[.string f.name, .slice f.A f.also.length f.c, .slice f.L f.lines.length f.d], .agg #[.string g.name, .slice g.A g.also.length g.c, .slice g.L g.lines.length g.d]] w (RetB w (.bool (sameF f g))) := by
  have HE := Lib.hid (equal_ff hf hg)
  clear hf hg
  have EQ : Hid (sameF f g = (decide (f.name = g.name) && (decide (f.also = g.also) && decide (f.lines = g.lines)))) := rfl
  generalize f.name = s at *
  generalize g.name = t at *
  generalize f.also = fa at *
  generalize f.lines = fl at *
  generalize g.also = ga at *
  generalize g.lines = gl at *
  have B0 : Hid (Below w.heap.size w ((w.alloc (.cells #[.string s, .slice f.A fa.length f.c, .slice f.L fl.length f.d] 68)).alloc (.cells #[.string t, .slice g.A ga.length g.c, .slice g.L gl.length g.d] 68))) := two_box3 _ _ _
  have K1 : Hid (Blk ((w.alloc (.cells #[.string s, .slice f.A fa.length f.c, .slice f.L fl.length f.d] 68)).alloc (.cells #[.string t, .slice g.A ga.length g.c, .slice g.L gl.length g.d] 68)) w.heap.size 68 #[.string s, .slice f.A fa.length f.c, .slice f.L fl.length f.d]) := (Blk.new _ _ _).alloc _
  have K2 : Hid (Blk ((w.alloc (.cells #[.string s, .slice f.A fa.length f.c, .slice f.L fl.length f.d] 68)).alloc (.cells #[.string t, .slice g.A ga.length g.c, .slice g.L gl.length g.d] 68)) (w.heap.size + 1) 68 #[.string t, .slice g.A ga.length g.c, .slice g.L gl.length g.d]) := Blk.newAt (by simp) _ _
  by_cases e1 : s = t
  · subst e1
    by_cases e2 : fa = ga
    · by_cases e3 : fl = gl
      · have F : Hid (sameF f g = true) := by rw [Hid, EQ.out, decide_eq_true rfl, decide_eq_true e2, decide_eq_true e3]; rfl
        rw [decide_eq_true e2, decide_eq_true e3] at HE
        clear EQ e2 e3
        go_enter Try.func61, Try.ntmps61
        go_wp2_with fail
        generalize ((w.alloc (.cells #[.string s, .slice f.A fa.length f.c, .slice f.L fl.length f.d] 68)).alloc (.cells #[.string s, .slice g.A ga.length g.c, .slice g.L gl.length g.d] 68)) = w0 at *
        refine (HE.out w0 B0.out).1.mono ?_
        rintro e w1 ⟨rfl, n1, hw1⟩
        have B1 : Hid (Below w.heap.size w w1) := by rw [hw1]; exact below_drewN B0.out n1
        have K3 : Hid (Blk w1 w.heap.size 68 #[.string s, .slice f.A fa.length f.c, .slice f.L fl.length f.d]) := by rw [hw1]; exact K1.out
        have K4 : Hid (Blk w1 (w.heap.size + 1) 68 #[.string s, .slice g.A ga.length g.c, .slice g.L gl.length g.d]) := by rw [hw1]; exact K2.out
        clear hw1 B0 K1 K2
        have p2 : w1.cell? ⟨w.heap.size, 2, none⟩ = some (.slice f.L fl.length f.d) := K3.out.cell 2
        have q2 : w1.cell? ⟨w.heap.size + 1, 2, none⟩ = some (.slice g.L gl.length g.d) := K4.out.cell 2
        go_wp2_with fail
        refine (HE.out w1 B1.out).2.mono ?_
        rintro e w2 ⟨rfl, n2, hw2⟩
        have B2 : Hid (Below w.heap.size w w2) := by rw [hw2]; exact below_drewN B1.out n2
        clear hw2 B1 K3 K4 p2 q2
        go_wp2
        go_ret
        exact ⟨ret_bool F.out.symm, B2.out⟩
      · have F : Hid (sameF f g = false) := by rw [Hid, EQ.out, decide_eq_true rfl, decide_eq_true e2, decide_eq_false e3]; rfl
        rw [decide_eq_true e2, decide_eq_false e3] at HE
        clear EQ e2 e3
        go_enter Try.func61, Try.ntmps61
        go_wp2_with fail
        generalize ((w.alloc (.cells #[.string s, .slice f.A fa.length f.c, .slice f.L fl.length f.d] 68)).alloc (.cells #[.string s, .slice g.A ga.length g.c, .slice g.L gl.length g.d] 68)) = w0 at *
        refine (HE.out w0 B0.out).1.mono ?_
        rintro e w1 ⟨rfl, n1, hw1⟩
        have B1 : Hid (Below w.heap.size w w1) := by rw [hw1]; exact below_drewN B0.out n1
        have K3 : Hid (Blk w1 w.heap.size 68 #[.string s, .slice f.A fa.length f.c, .slice f.L fl.length f.d]) := by rw [hw1]; exact K1.out
        have K4 : Hid (Blk w1 (w.heap.size + 1) 68 #[.string s, .slice g.A ga.length g.c, .slice g.L gl.length g.d]) := by rw [hw1]; exact K2.out
        clear hw1 B0 K1 K2
        have p2 : w1.cell? ⟨w.heap.size, 2, none⟩ = some (.slice f.L fl.length f.d) := K3.out.cell 2
        have q2 : w1.cell? ⟨w.heap.size + 1, 2, none⟩ = some (.slice g.L gl.length g.d) := K4.out.cell 2
        go_wp2_with fail
        refine (HE.out w1 B1.out).2.mono ?_
        rintro e w2 ⟨rfl, n2, hw2⟩
        have B2 : Hid (Below w.heap.size w w2) := by rw [hw2]; exact below_drewN B1.out n2
        clear hw2 B1 K3 K4 p2 q2
        go_wp2
        go_ret
        exact ⟨ret_bool F.out.symm, B2.out⟩
    · have F : Hid (sameF f g = false) := by rw [Hid, EQ.out, decide_eq_true rfl, decide_eq_false e2]; rfl
      rw [decide_eq_false e2] at HE
      clear EQ e2
      go_enter Try.func61, Try.ntmps61
      go_wp2_with fail
      generalize ((w.alloc (.cells #[.string s, .slice f.A fa.length f.c, .slice f.L fl.length f.d] 68)).alloc (.cells #[.string s, .slice g.A ga.length g.c, .slice g.L gl.length g.d] 68)) = w0 at *
      refine (HE.out w0 B0.out).1.mono ?_
      rintro e w1 ⟨rfl, n1, hw1⟩
      have B1 : Hid (Below w.heap.size w w1) := by rw [hw1]; exact below_drewN B0.out n1
      have K3 : Hid (Blk w1 w.heap.size 68 #[.string s, .slice f.A fa.length f.c, .slice f.L fl.length f.d]) := by rw [hw1]; exact K1.out
      have K4 : Hid (Blk w1 (w.heap.size + 1) 68 #[.string s, .slice g.A ga.length g.c, .slice g.L gl.length g.d]) := by rw [hw1]; exact K2.out
      clear hw1 B0 K1 K2
      clear K3 K4
      go_wp2
      go_ret
      exact ⟨ret_bool F.out.symm, B1.out⟩
  · have F : Hid (sameF f g = false) := by rw [Hid, EQ.out, decide_eq_false e1]; rfl
    have d := str_ne e1
    clear EQ e1
    go_enter Try.func61, Try.ntmps61
    go_wp2_with fail
    go_ret
    exact ⟨ret_bool F.out.symm, B0.out⟩

set_option maxRecDepth 100000 in
set_option maxHeartbeats 4000000 in
theorem equalFunc_any (fs gs : List FileV) (w : World) (A A' : Option Addr) (n n' c c' : Nat) (hn : fs.length = n) (hn' : gs.length = n') (hm : n ≤ 40) (h : TreeOk w w.heap.size A fs) (h' : TreeOk w w.heap.size A' gs) :
    Calls Try.prog 60 #[.slice A n c, .slice A' n' c', .func (.func 61) #[] #[]] w (RetB w (.bool (sameT fs gs))) := by
  by_cases hne : n = n'
  · subst hne
    have HL := Lib.hid hn
    have HL' := Lib.hid hn'
    have H := Lib.hid h
    have H' := Lib.hid h'
    clear h h' hn hn'
    go_enter Try.func60, Try.ntmps60
    go_wp2_with fail
    go_loopw [17] (fun i wr => ∃ k : Nat, k ≤ n ∧ i = .int .i64 k ∧ (fs.take k).map plainF = (gs.take k).map plainF ∧ Below w.heap.size w wr) (fun i _ => n - (intOf i).toNat)
    case atStart => exact ⟨0, by omega, rfl, by simp, Below.refl _ _⟩
    case round =>
      obtain ⟨k, hk, rfl, ht, hbl⟩ := hrel
      have T := Lib.hid ht
      have B := Lib.hid hbl
      clear ht hbl
      by_cases hlt : k < n
      · obtain ⟨b, o, rfl, hb, F1⟩ := H.out.at_ (k := k) (by rw [HL.out]; exact hlt)
        obtain ⟨b', o', rfl, hb', F2⟩ := H'.out.at_ (k := k) (by rw [HL'.out]; exact hlt)
        have G1 := H.out.ok _ (List.getElem_mem (show k < fs.length by rw [HL.out]; exact hlt))
        have G2 := H'.out.ok _ (List.getElem_mem (show k < gs.length by rw [HL'.out]; exact hlt))
        have P1 : Hid (fs.take (k + 1) = fs.take k ++ [fs[k]'(by rw [HL.out]; exact hlt)]) := List.take_succ_eq_append_getElem _
        have P2 : Hid (gs.take (k + 1) = gs.take k ++ [gs[k]'(by rw [HL'.out]; exact hlt)]) := List.take_succ_eq_append_getElem _
        have Q1 : Hid (fs[k]? = some (fs[k]'(by rw [HL.out]; exact hlt))) := List.getElem?_eq_getElem _
        have Q2 : Hid (gs[k]? = some (gs[k]'(by rw [HL'.out]; exact hlt))) := List.getElem?_eq_getElem _
        generalize fs[k]'(by rw [HL.out]; exact hlt) = f at *
        generalize gs[k]'(by rw [HL'.out]; exact hlt) = g at *
        have F3 := fileAt_of (rangeAt_below F1 B.out hb)
        have F4 : ∀ ob : Obj, FileAt (wr.alloc ob) b' (o' + k * 3) g := fun ob => fileAt_of (rangeAt_below F2 (B.out.alloc B.out.size _) hb')
        have G3 : FileOk wr wr.heap.size f := (G1.below B.out (Nat.le_refl _)).more B.out.size
        have G4 : FileOk wr wr.heap.size g := (G2.below B.out (Nat.le_refl _)).more B.out.size
        have DIFF : Hid (plainF f ≠ plainF g → sameT fs gs = false) := fun hne' => decide_eq_false fun e => hne' (by
          have h1 := congrArg (fun l => l[k]?) e
          simp only [List.getElem?_map, Q1.out, Q2.out, Option.map_some, Option.some.injEq] at h1
          exact h1)
        have SAME : Hid (plainF f = plainF g → (fs.take (k + 1)).map plainF = (gs.take (k + 1)).map plainF) := fun e => by rw [P1.out, P2.out, List.map_append, List.map_append, T.out]; simp [e]
        have W2 : Hid (Below wr.heap.size wr ((wr.alloc (.cells #[.string f.name, .slice f.A f.also.length f.c, .slice f.L f.lines.length f.d] 68)).alloc (.cells #[.string g.name, .slice g.A g.also.length g.c, .slice g.L g.lines.length g.d] 68))) := two_box3 _ _ _
        have HS := Lib.hid (same_any f g _ (G3.up W2.out) (G4.up W2.out))
        obtain ⟨c0, c1, c2⟩ := F3
        have d0 := fun ob => (F4 ob).c0
        have d1 := fun ob => (F4 ob).c1
        have d2 := fun ob => (F4 ob).c2
        have hlk : (k : Int) < (n : Int) := by omega
        have hk0 : (0 : Int) ≤ (k : Int) := by omega
        clear F1 F2 F4 G1 G2 G3 G4 P1 P2 Q1 Q2 T
        by_cases e : plainF f = plainF g
        · have N := Lib.hid (SAME.out e)
          rw [sameF_iff.2 e] at HS
          clear SAME DIFF e
          go_wp2_with fail
          refine HS.out.mono ?_
          rintro e w3 ⟨rfl, b3⟩
          have B3 := Lib.hid (B.out.trans ((ext_trans W2.out b3).mono B.out.size))
          clear b3 W2 HS c0 c1 c2 d0 d1 d2
          go_wp2_with fail
          go_roundw
          case rel => exact ⟨k + 1, by omega, by go_num, N.out, B3.out⟩
          case measure => simp [intOf]; omega
        · have N := Lib.hid (DIFF.out e)
          have e' : sameF f g = false := by
            rcases hh : sameF f g with _ | _
            · rfl
            · exact absurd (sameF_iff.1 hh) e
          rw [e'] at HS
          clear SAME DIFF e e'
          go_wp2_with fail
          refine HS.out.mono ?_
          rintro e w3 ⟨rfl, b3⟩
          have B3 := Lib.hid (B.out.trans ((ext_trans W2.out b3).mono B.out.size))
          clear b3 W2 HS c0 c1 c2 d0 d1 d2
          go_wp2_with fail
          go_ret
          exact ⟨ret_bool N.out.symm, B3.out⟩
      · have hk' : k = n := by omega
        subst hk'
        have N : Hid (sameT fs gs = true) := decide_eq_true (by have h1 := T.out; rw [List.take_of_length_le (by rw [HL.out]; exact Nat.le_refl _), List.take_of_length_le (by rw [HL'.out]; exact Nat.le_refl _)] at h1; exact h1)
        go_wp2
        go_ret
        exact ⟨ret_bool N.out.symm, B.out⟩
  · have N : Hid (sameT fs gs = false) := decide_eq_false fun e => hne (by have := congrArg List.length e; simpa [hn, hn'] using this)
    have hd : ¬ (n : Int) = (n' : Int) := by omega
    clear hn hn' h h' hne
    go_enter Try.func60, Try.ntmps60
    go_wp2
    go_ret
    exact ⟨ret_bool N.out.symm, Below.refl _ _⟩
set_option maxRecDepth 100000 in
set_option maxHeartbeats 1000000 in
theorem sameT_any (fs gs : List FileV) (w : World) (A A' : Option Addr) (n n' c c' : Nat) (hn : fs.length = n) (hn' : gs.length = n') (hm : n ≤ 40) (h : TreeOk w w.heap.size A fs) (h' : TreeOk w w.heap.size A' gs) :
    Calls Try.prog 43 #[.slice A n c, .slice A' n' c'] w (RetB w (.bool (sameT fs gs))) := by
  have HE := Lib.hid (equalFunc_any fs gs w A A' n n' c c' hn hn' hm h h')
  clear hn hn' hm h h'
  generalize sameT fs gs = b at *
  go_enter Try.func43, Try.ntmps43
  go_wp2_with fail
  refine HE.out.mono ?_
  rintro e w1 ⟨rfl, b1⟩
  have B1 := Lib.hid b1
  clear b1
  go_wp2
  go_ret
  exact ⟨rfl, B1.out⟩

end Go.Proofs.Ytceapefjdiphpaa
