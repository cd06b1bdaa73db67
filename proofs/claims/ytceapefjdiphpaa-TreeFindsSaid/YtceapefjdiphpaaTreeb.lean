/- Trees: the document's sameness, and the program's. -/
import Derived.Test.YtceapefjdiphpaaTreea
namespace Go.Proofs.Ytceapefjdiphpaa
open Go.RowKit

/-- what of the file k a walk reads -/
structure FileAt (w : World) (b a : Nat) (f : FileV) : Prop where
  c0 : w.cell? ⟨b, a, none⟩ = some (.string f.name)
  c1 : w.cell? ⟨b, a + 1, none⟩ = some (.slice f.A f.also.length f.c)
  c2 : w.cell? ⟨b, a + 2, none⟩ = some (.slice f.L f.lines.length f.d)
theorem fileAt_of {w : World} {b a : Nat} {f : FileV} (h : w.rangeAt b a (fileC f)) : FileAt w b a f := ⟨h 0 _ rfl, h 1 _ rfl, h 2 _ rfl⟩
theorem TreeOk.file {w : World} {B : Nat} {A : Option Addr} {fs : List FileV} (h : TreeOk w B A fs) {k : Nat} (hk : k < fs.length) : ∃ b o, A = some ⟨b, o, none⟩ ∧ b < B ∧ FileAt w b (o + k * 3) fs[k] := by
  obtain ⟨b, o, hA, hb, hr⟩ := h.at_ hk
  exact ⟨b, o, hA, hb, fileAt_of hr⟩
theorem FileOk.drewN {w : World} {f : FileV} (h : FileOk w w.heap.size f) (n : Nat) : FileOk (w.drewN n) (w.drewN n).heap.size f := h.keep fun _ _ _ => rfl
theorem FileAt.drewN {w : World} {b a : Nat} {f : FileV} (h : FileAt w b a f) (n : Nat) : FileAt (w.drewN n) b a f := ⟨h.c0, h.c1, h.c2⟩
theorem rtexts_f {f g : FileV} {w : World} (hf : FileOk w w.heap.size f) (hg : FileOk w w.heap.size g) :
    Calls Try.prog 62 #[.slice f.A f.also.length f.c, .slice g.A g.also.length g.c] w (RetD w (.bool (decide (f.also = g.also)))) ∧
    Calls Try.prog 62 #[.slice f.L f.lines.length f.d, .slice g.L g.lines.length g.d] w (RetD w (.bool (decide (f.lines = g.lines)))) :=
  ⟨rtexts_any _ _ w _ _ _ _ _ _ rfl rfl (Nat.le_trans hf.ac.1 hf.ac.2) hf.sa hg.sa, rtexts_any _ _ w _ _ _ _ _ _ rfl rfl (Nat.le_trans hf.lc.1 hf.lc.2) hf.sl hg.sl⟩
theorem equal_f {f g : FileV} {w : World} (hf : FileOk w w.heap.size f) (hg : FileOk w w.heap.size g) :
    Calls Try.prog 80 #[.slice f.A f.also.length f.c, .slice g.A g.also.length g.c] w (RetD w (.bool (decide (f.also = g.also)))) ∧
    Calls Try.prog 80 #[.slice f.L f.lines.length f.d, .slice g.L g.lines.length g.d] w (RetD w (.bool (decide (f.lines = g.lines)))) :=
  ⟨equal_any _ _ w _ _ _ _ _ _ rfl rfl (Nat.le_trans hf.ac.1 hf.ac.2) hf.sa hg.sa, equal_any _ _ w _ _ _ _ _ _ rfl rfl (Nat.le_trans hf.lc.1 hf.lc.2) hf.sl hg.sl⟩

set_option maxRecDepth 100000 in
set_option maxHeartbeats 4000000 in
theorem rsameT_any (fs gs : List FileV) (w : World) (A A' : Option Addr) (n n' c c' : Nat) (hn : fs.length = n) (hn' : gs.length = n') (hm : n ≤ 40) (h : TreeOk w w.heap.size A fs) (h' : TreeOk w w.heap.size A' gs) :
    Calls Try.prog 44 #[.slice A n c, .slice A' n' c'] w (RetD w (.bool (sameT fs gs))) := by
  by_cases hne : n = n'
  · subst hne
    have HL := Lib.hid hn
    have HL' := Lib.hid hn'
    have H := Lib.hid h
    have H' := Lib.hid h'
    clear h h' hn hn'
    go_enter Try.func44, Try.ntmps44
    go_wp2_with fail
    go_loopw [5] (fun i wr => ∃ k : Nat, k ≤ n ∧ i = .int .i64 k ∧ (fs.take k).map plainF = (gs.take k).map plainF ∧ ∃ m, wr = w.drewN m) (fun i _ => n - (intOf i).toNat)
    case atStart => exact ⟨0, by omega, rfl, by simp, 0, rfl⟩
    case round =>
      obtain ⟨k, hk, rfl, ht, q, hq⟩ := hrel
      have T := Lib.hid ht
      have Q := Lib.hid hq
      clear ht hq
      by_cases hlt : k < n
      · obtain ⟨b, o, rfl, hb, F1⟩ := H.out.file (k := k) (by rw [HL.out]; exact hlt)
        obtain ⟨b', o', rfl, hb', F2⟩ := H'.out.file (k := k) (by rw [HL'.out]; exact hlt)
        have G1 := H.out.ok _ (List.getElem_mem (show k < fs.length by rw [HL.out]; exact hlt))
        have G2 := H'.out.ok _ (List.getElem_mem (show k < gs.length by rw [HL'.out]; exact hlt))
        have P1 : Hid (fs.take (k + 1) = fs.take k ++ [fs[k]'(by rw [HL.out]; exact hlt)]) := List.take_succ_eq_append_getElem _
        have P2 : Hid (gs.take (k + 1) = gs.take k ++ [gs[k]'(by rw [HL'.out]; exact hlt)]) := List.take_succ_eq_append_getElem _
        have Q1 : Hid (fs[k]? = some (fs[k]'(by rw [HL.out]; exact hlt))) := List.getElem?_eq_getElem _
        have Q2 : Hid (gs[k]? = some (gs[k]'(by rw [HL'.out]; exact hlt))) := List.getElem?_eq_getElem _
        generalize fs[k]'(by rw [HL.out]; exact hlt) = f at *
        generalize gs[k]'(by rw [HL'.out]; exact hlt) = g at *
        have F3 : FileAt wr b (o + k * 3) f := by rw [Q.out]; exact F1.drewN _
        have F4 : FileAt wr b' (o' + k * 3) g := by rw [Q.out]; exact F2.drewN _
        have G3 : FileOk wr wr.heap.size f := by rw [Q.out]; exact G1.drewN _
        have G4 : FileOk wr wr.heap.size g := by rw [Q.out]; exact G2.drewN _
        have HT := Lib.hid (fun m => rtexts_f (G3.drewN m) (G4.drewN m))
        obtain ⟨c0, c1, c2⟩ := F3
        obtain ⟨d0, d1, d2⟩ := F4
        have LA : f.also.length ≤ maxLen := Nat.le_trans G3.ac.1 G3.ac.2
        clear F1 F2 G1 G2 G3 G4 LA
        have hlk : (k : Int) < (n : Int) := by omega
        have hk0 : (0 : Int) ≤ (k : Int) := by omega
        have DIFF : Hid (plainF f ≠ plainF g → sameT fs gs = false) := fun hne' => decide_eq_false fun e => hne' (by
          have h1 := congrArg (fun l => l[k]?) e
          simp only [List.getElem?_map, Q1.out, Q2.out, Option.map_some, Option.some.injEq] at h1
          exact h1)
        have SAME : Hid (plainF f = plainF g → (fs.take (k + 1)).map plainF = (gs.take (k + 1)).map plainF) := fun e => by rw [P1.out, P2.out, List.map_append, List.map_append, T.out]; simp [e]
        clear P1 P2 Q1 Q2 T
        generalize he0 : f.name = s at *
        generalize he1 : g.name = t at *
        generalize hea : f.also = fa at *
        generalize hel : f.lines = fl at *
        generalize hga : g.also = ga at *
        generalize hgl : g.lines = gl at *
        have EQ : Hid (s = t → fa = ga → fl = gl → plainF f = plainF g) := fun e1 e2 e3 => by unfold plainF; rw [he0, he1, hea, hel, hga, hgl, e1, e2, e3]
        have NE : Hid ((s ≠ t ∨ fa ≠ ga ∨ fl ≠ gl) → plainF f ≠ plainF g) := fun h e => by
          unfold plainF at e
          rw [he0, he1, hea, hel, hga, hgl] at e
          simp only [Prod.mk.injEq] at e
          rcases h with h | h | h
          · exact h e.1
          · exact h e.2.1
          · exact h e.2.2
        clear he0 he1 hea hel hga hgl
        have H1 : ∀ m, Calls Try.prog 62 #[.slice f.A fa.length f.c, .slice g.A ga.length g.c] (wr.drewN m) (RetD (wr.drewN m) (.bool (decide (fa = ga)))) := fun m => (HT.out m).1
        have H2 : ∀ m, Calls Try.prog 62 #[.slice f.L fl.length f.d, .slice g.L gl.length g.d] (wr.drewN m) (RetD (wr.drewN m) (.bool (decide (fl = gl)))) := fun m => (HT.out m).2
        clear HT
        have J1 := Lib.hid H1
        have J2 := Lib.hid H2
        clear H1 H2
        by_cases e1 : s = t
        · subst e1
          by_cases e2 : fa = ga
          · by_cases e3 : fl = gl
            · have N := Lib.hid (SAME.out (EQ.out rfl e2 e3))
              rw [decide_eq_true e2] at J1
              rw [decide_eq_true e3] at J2
              clear SAME DIFF EQ NE e2 e3
              go_wp2_with fail
              go_quiet ((first | (go_at_call 62; with_reducible exact quiet_retD (J1.out _)) | (go_at_call 62; with_reducible exact quiet_retD (J2.out _))))
              go_wp2_with fail
              go_roundw
              case rel => exact ⟨k + 1, by omega, by go_num, N.out, q + _, by rw [Q.out]; first | rfl | exact World.drewN_drewN _ _ _⟩
              case measure => simp [intOf]; omega
            · have N := Lib.hid (DIFF.out (NE.out (.inr (.inr e3))))
              rw [decide_eq_true e2] at J1
              rw [decide_eq_false e3] at J2
              clear SAME DIFF EQ NE e2 e3
              go_wp2_with fail
              go_quiet ((first | (go_at_call 62; with_reducible exact quiet_retD (J1.out _)) | (go_at_call 62; with_reducible exact quiet_retD (J2.out _))))
              go_wp2_with fail
              go_ret
              exact ⟨ret_bool N.out.symm, q + _, by rw [Q.out]; first | rfl | exact World.drewN_drewN _ _ _⟩
          · have N := Lib.hid (DIFF.out (NE.out (.inr (.inl e2))))
            rw [decide_eq_false e2] at J1
            clear SAME DIFF EQ NE e2
            go_wp2_with fail
            go_quiet ((first | (go_at_call 62; with_reducible exact quiet_retD (J1.out _)) | (go_at_call 62; with_reducible exact quiet_retD (J2.out _))))
            go_wp2_with fail
            go_ret
            exact ⟨ret_bool N.out.symm, q + _, by rw [Q.out]; first | rfl | exact World.drewN_drewN _ _ _⟩
        · have N := Lib.hid (DIFF.out (NE.out (.inl e1)))
          have d := str_ne e1
          clear SAME DIFF EQ NE e1
          go_wp2_with fail
          go_quiet ((first | (go_at_call 62; with_reducible exact quiet_retD (J1.out _)) | (go_at_call 62; with_reducible exact quiet_retD (J2.out _))))
          go_wp2_with fail
          go_ret
          exact ⟨ret_bool N.out.symm, q + _, by rw [Q.out]; first | rfl | exact World.drewN_drewN _ _ _⟩
      · have hk' : k = n := by omega
        subst hk'
        have N : Hid (sameT fs gs = true) := decide_eq_true (by have h1 := T.out; rw [List.take_of_length_le (by rw [HL.out]; exact Nat.le_refl _), List.take_of_length_le (by rw [HL'.out]; exact Nat.le_refl _)] at h1; exact h1)
        go_wp2
        go_ret
        exact ⟨ret_bool N.out.symm, q, Q.out⟩
  · have N : Hid (sameT fs gs = false) := decide_eq_false fun e => hne (by have := congrArg List.length e; simpa [hn, hn'] using this)
    have hd : ¬ (n : Int) = (n' : Int) := by omega
    clear hn hn' h h' hne
    go_enter Try.func44, Try.ntmps44
    go_wp2
    go_ret
    exact ⟨ret_bool N.out.symm, 0, rfl⟩

end Go.Proofs.Ytceapefjdiphpaa
