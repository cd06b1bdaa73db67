/- UNLIKE TREES without line feeds have unlike texts; a tree is the same as itself, and any two are, or are not, either way. No condition. -/
import Derived.Test.YtceapefjdiphpaaTreep
import Derived.Test.YtceapefjdiphpaaLift
namespace Go.Proofs.Ytceapefjdiphpaa
open Go.ChangeShapes Go.WideShapes Go.RowKit Go.Deep

set_option maxRecDepth 100000 in
set_option maxHeartbeats 4000000 in
theorem treeUnlike_main (fs gs : List FileV) (w : World) (A A' : Option Addr) (n n' c c' : Nat) (hn : fs.length = n) (hn' : gs.length = n') (hc : n ≤ maxLen) (hc' : n' ≤ maxLen) (h : TreeOk w w.heap.size A fs) (h' : TreeOk w w.heap.size A' gs) :
    Calls Try.prog 10 #[.slice A n c, .slice A' n' c'] w (RetB w (.bool true)) := by
  have HL := Lib.hid hn
  have HL' := Lib.hid hn'
  have H := Lib.hid h
  have H' := Lib.hid h'
  have F1 := Lib.hid (few_any fs w A n c hn hc h)
  have F2 := Lib.hid (few_any gs w A' n' c' hn' hc' h')
  clear h h' hn hn'
  go_enter Try.func10, Try.ntmps10
  go_wp2_with fail
  refine F1.out.mono ?_
  rintro e w1 ⟨rfl, h1⟩
  rcases h1 with ⟨P1, rfl⟩ | ⟨_, rfl⟩
  · have P1 := Lib.hid P1
    go_wp2_with fail
    refine F2.out.mono ?_
    rintro e w1 ⟨rfl, h1⟩
    rcases h1 with ⟨P2, rfl⟩ | ⟨_, rfl⟩
    · have P2 := Lib.hid P2
      have hm : n ≤ 40 := by rw [← HL.out]; exact P1.out.len
      have hm' : n' ≤ 40 := by rw [← HL'.out]; exact P2.out.len
      have B0 : Hid (Below w.heap.size w w) := Below.refl _ _
      have T0 := Lib.hid H.out
      have U0 := Lib.hid H'.out
      clear H H' F1 F2
      go_wp2_with fail
      by_cases p1 : plT fs = true
      · refine (plain_any fs w _ n c HL.out P1.out T0.out).mono ?_
        rintro e w1 ⟨rfl, b1⟩
        rw [p1]
        have B1 := Lib.hid (B0.out.trans (b1.mono B0.out.size))
        have T1 := Lib.hid (T0.out.up b1)
        have U1 := Lib.hid (U0.out.up b1)
        clear b1 B0 T0 U0
        go_wp2_with fail
        by_cases p2 : plT gs = true
        · refine (plain_any gs w1 _ n' c' HL'.out P2.out U1.out).mono ?_
          rintro e w2 ⟨rfl, b2⟩
          rw [p2]
          have B2 := Lib.hid (B1.out.trans (b2.mono B1.out.size))
          have T2 := Lib.hid (T1.out.up b2)
          have U2 := Lib.hid (U1.out.up b2)
          clear b2 B1 T1 U1
          go_wp2_with fail
          refine (text_any fs w2 _ n c HL.out P1.out T2.out).mono ?_
          rintro e w3 ⟨rfl, b3⟩
          have B3 := Lib.hid (B2.out.trans (b3.mono B2.out.size))
          have T3 := Lib.hid (T2.out.up b3)
          have U3 := Lib.hid (U2.out.up b3)
          clear b3 B2 T2 U2
          by_cases hs : fs.map plainF = gs.map plainF
          · rw [textT_same hs]
            go_wp2_with fail
            refine (text_any gs w3 _ n' c' HL'.out P2.out U3.out).mono ?_
            rintro e w4 ⟨rfl, b4⟩
            have B4 := Lib.hid (B3.out.trans (b4.mono B3.out.size))
            have T4 := Lib.hid (T3.out.up b4)
            have U4 := Lib.hid (U3.out.up b4)
            clear b4 B3 T3 U3
            go_wp2_with fail
            refine (rsameT_any fs gs w4 _ _ n n' c c' HL.out HL'.out hm T4.out U4.out).mono ?_
            rintro e w5 ⟨rfl, k5, rfl⟩
            have b5 : Below w4.heap.size w4 (w4.drewN k5) := below_drewN (Below.refl _ _) k5
            generalize w4.drewN k5 = w5 at *
            rw [sameT_of hs]
            have B5 := Lib.hid (B4.out.trans (b5.mono B4.out.size))
            have T5 := Lib.hid (T4.out.up b5)
            have U5 := Lib.hid (U4.out.up b5)
            clear b5 B4 T4 U4
            go_wp2_with fail
            refine (sameT_any fs fs w5 _ _ n n c c HL.out HL.out hm T5.out T5.out).mono ?_
            rintro e w6 ⟨rfl, b6⟩
            rw [sameT_of rfl]
            have B6 := Lib.hid (B5.out.trans (b6.mono B5.out.size))
            have T6 := Lib.hid (T5.out.up b6)
            have U6 := Lib.hid (U5.out.up b6)
            clear b6 B5 T5 U5
            go_wp2_with fail
            refine (sameT_any fs gs w6 _ _ n n' c c' HL.out HL'.out hm T6.out U6.out).mono ?_
            rintro e w7 ⟨rfl, b7⟩
            have B7 := Lib.hid (B6.out.trans (b7.mono B6.out.size))
            have T7 := Lib.hid (T6.out.up b7)
            have U7 := Lib.hid (U6.out.up b7)
            clear b7 B6 T6 U6
            go_wp2_with fail
            refine (sameT_any gs fs w7 _ _ n' n c' c HL'.out HL.out hm' U7.out T7.out).mono ?_
            rintro e w8 ⟨rfl, b8⟩
            rw [sameT_symm gs fs]
            have B8 := Lib.hid (B7.out.trans (b8.mono B7.out.size))
            have T8 := Lib.hid (T7.out.up b8)
            have U8 := Lib.hid (U7.out.up b8)
            clear b8 B7 T7 U7
            generalize sameT fs gs = tt at *
            go_wp2_with fail
            refine (works15 _).mono ?_
            rintro e wz ⟨rfl, bz⟩
            have Bz := Lib.hid (B8.out.trans (bz.mono B8.out.size))
            clear bz
            go_wp2
            go_ret
            exact ⟨rfl, Bz.out⟩
          · have d1 : (textT fs == textT gs) = false := beq_eq_false_iff_ne.2 fun e => hs (textT_inj p1 p2 e)
            go_wp2_with fail
            refine (text_any gs w3 _ n' c' HL'.out P2.out U3.out).mono ?_
            rintro e w4 ⟨rfl, b4⟩
            have B4 := Lib.hid (B3.out.trans (b4.mono B3.out.size))
            have T4 := Lib.hid (T3.out.up b4)
            have U4 := Lib.hid (U3.out.up b4)
            clear b4 B3 T3 U3
            go_wp2_with fail
            refine (rsameT_any fs gs w4 _ _ n n' c c' HL.out HL'.out hm T4.out U4.out).mono ?_
            rintro e w5 ⟨rfl, k5, rfl⟩
            have b5 : Below w4.heap.size w4 (w4.drewN k5) := below_drewN (Below.refl _ _) k5
            generalize w4.drewN k5 = w5 at *
            rw [show sameT fs gs = false from decide_eq_false hs]
            have B5 := Lib.hid (B4.out.trans (b5.mono B4.out.size))
            have T5 := Lib.hid (T4.out.up b5)
            have U5 := Lib.hid (U4.out.up b5)
            clear b5 B4 T4 U4
            go_wp2_with fail
            refine (sameT_any fs fs w5 _ _ n n c c HL.out HL.out hm T5.out T5.out).mono ?_
            rintro e w6 ⟨rfl, b6⟩
            rw [sameT_of rfl]
            have B6 := Lib.hid (B5.out.trans (b6.mono B5.out.size))
            have T6 := Lib.hid (T5.out.up b6)
            have U6 := Lib.hid (U5.out.up b6)
            clear b6 B5 T5 U5
            go_wp2_with fail
            refine (sameT_any fs gs w6 _ _ n n' c c' HL.out HL'.out hm T6.out U6.out).mono ?_
            rintro e w7 ⟨rfl, b7⟩
            have B7 := Lib.hid (B6.out.trans (b7.mono B6.out.size))
            have T7 := Lib.hid (T6.out.up b7)
            have U7 := Lib.hid (U6.out.up b7)
            clear b7 B6 T6 U6
            go_wp2_with fail
            refine (sameT_any gs fs w7 _ _ n' n c' c HL'.out HL.out hm' U7.out T7.out).mono ?_
            rintro e w8 ⟨rfl, b8⟩
            rw [sameT_symm gs fs]
            have B8 := Lib.hid (B7.out.trans (b8.mono B7.out.size))
            have T8 := Lib.hid (T7.out.up b8)
            have U8 := Lib.hid (U7.out.up b8)
            clear b8 B7 T7 U7
            generalize sameT fs gs = tt at *
            go_wp2_with fail
            refine (works15 _).mono ?_
            rintro e wz ⟨rfl, bz⟩
            have Bz := Lib.hid (B8.out.trans (bz.mono B8.out.size))
            clear bz
            go_wp2
            go_ret
            exact ⟨rfl, Bz.out⟩
        · have p2 : plT gs = false := by simpa using p2
          refine (plain_any gs w1 _ n' c' HL'.out P2.out U1.out).mono ?_
          rintro e w2 ⟨rfl, b2⟩
          rw [p2]
          have B2 := Lib.hid (B1.out.trans (b2.mono B1.out.size))
          have T2 := Lib.hid (T1.out.up b2)
          have U2 := Lib.hid (U1.out.up b2)
          clear b2 B1 T1 U1
          go_wp2_with fail
          refine (sameT_any fs fs w2 _ _ n n c c HL.out HL.out hm T2.out T2.out).mono ?_
          rintro e w3 ⟨rfl, b3⟩
          rw [sameT_of rfl]
          have B3 := Lib.hid (B2.out.trans (b3.mono B2.out.size))
          have T3 := Lib.hid (T2.out.up b3)
          have U3 := Lib.hid (U2.out.up b3)
          clear b3 B2 T2 U2
          go_wp2_with fail
          refine (sameT_any fs gs w3 _ _ n n' c c' HL.out HL'.out hm T3.out U3.out).mono ?_
          rintro e w4 ⟨rfl, b4⟩
          have B4 := Lib.hid (B3.out.trans (b4.mono B3.out.size))
          have T4 := Lib.hid (T3.out.up b4)
          have U4 := Lib.hid (U3.out.up b4)
          clear b4 B3 T3 U3
          go_wp2_with fail
          refine (sameT_any gs fs w4 _ _ n' n c' c HL'.out HL.out hm' U4.out T4.out).mono ?_
          rintro e w5 ⟨rfl, b5⟩
          rw [sameT_symm gs fs]
          have B5 := Lib.hid (B4.out.trans (b5.mono B4.out.size))
          have T5 := Lib.hid (T4.out.up b5)
          have U5 := Lib.hid (U4.out.up b5)
          clear b5 B4 T4 U4
          generalize sameT fs gs = tt at *
          go_wp2_with fail
          refine (works15 _).mono ?_
          rintro e wz ⟨rfl, bz⟩
          have Bz := Lib.hid (B5.out.trans (bz.mono B5.out.size))
          clear bz
          go_wp2
          go_ret
          exact ⟨rfl, Bz.out⟩
      · have p1 : plT fs = false := by simpa using p1
        refine (plain_any fs w _ n c HL.out P1.out T0.out).mono ?_
        rintro e w1 ⟨rfl, b1⟩
        rw [p1]
        have B1 := Lib.hid (B0.out.trans (b1.mono B0.out.size))
        have T1 := Lib.hid (T0.out.up b1)
        have U1 := Lib.hid (U0.out.up b1)
        clear b1 B0 T0 U0
        go_wp2_with fail
        refine (sameT_any fs fs w1 _ _ n n c c HL.out HL.out hm T1.out T1.out).mono ?_
        rintro e w2 ⟨rfl, b2⟩
        rw [sameT_of rfl]
        have B2 := Lib.hid (B1.out.trans (b2.mono B1.out.size))
        have T2 := Lib.hid (T1.out.up b2)
        have U2 := Lib.hid (U1.out.up b2)
        clear b2 B1 T1 U1
        go_wp2_with fail
        refine (sameT_any fs gs w2 _ _ n n' c c' HL.out HL'.out hm T2.out U2.out).mono ?_
        rintro e w3 ⟨rfl, b3⟩
        have B3 := Lib.hid (B2.out.trans (b3.mono B2.out.size))
        have T3 := Lib.hid (T2.out.up b3)
        have U3 := Lib.hid (U2.out.up b3)
        clear b3 B2 T2 U2
        go_wp2_with fail
        refine (sameT_any gs fs w3 _ _ n' n c' c HL'.out HL.out hm' U3.out T3.out).mono ?_
        rintro e w4 ⟨rfl, b4⟩
        rw [sameT_symm gs fs]
        have B4 := Lib.hid (B3.out.trans (b4.mono B3.out.size))
        have T4 := Lib.hid (T3.out.up b4)
        have U4 := Lib.hid (U3.out.up b4)
        clear b4 B3 T3 U3
        generalize sameT fs gs = tt at *
        go_wp2_with fail
        refine (works15 _).mono ?_
        rintro e wz ⟨rfl, bz⟩
        have Bz := Lib.hid (B4.out.trans (bz.mono B4.out.size))
        clear bz
        go_wp2
        go_ret
        exact ⟨rfl, Bz.out⟩
    · go_wp2_with fail
      refine (works15 _).mono ?_
      rintro e w2 ⟨rfl, b2⟩
      have B2 := Lib.hid b2
      clear b2
      go_wp2
      go_ret
      exact ⟨rfl, B2.out⟩
  · go_wp2_with fail
    refine (works15 _).mono ?_
    rintro e w2 ⟨rfl, b2⟩
    have B2 := Lib.hid b2
    clear b2
    go_wp2
    go_ret
    exact ⟨rfl, B2.out⟩

theorem treeUnlike_walk (w : World) (A : Option Addr) (n c : Nat) (fs : List FileV) (hn : fs.length = n) (hc : n ≤ maxLen) (h : TreeOk w w.heap.size A fs) (A' : Option Addr) (n' c' : Nat) (gs : List FileV) (hn' : gs.length = n') (hc' : n' ≤ maxLen) (h' : TreeOk w w.heap.size A' gs) :
    Calls Try.prog 10 #[.slice A n c, .slice A' n' c'] w (RetB w (.bool true)) := treeUnlike_main fs gs w A A' n n' c c' hn hn' hc hc' h h'

set_option maxRecDepth 100000 in
theorem treeUnlike_lifted (os : Os) (started : os.Started) (H : Type) (enc : TypeId × Value → H) :
    ReturnsInHanded {} Try.checked os 10 .any (Rows.treeUnlikeSpec.pre6 enc Try.prog Try.f10 Rows.treeUnlikeRow.domain false) (Rows.treeUnlikeSpec.post enc Try.prog Try.f10 false true false false) := by
  refine returnsInHanded_of_change (C := Try.checked) own started (by kernel_rfl) Try.func10
    (ChangeSpec.witness6 (enc := enc) (C := Try.checked) false ⟨#[], #[.slice none 0 0, .slice none 0 0], []⟩ 8 (by kernel_rfl) (by kernel_rfl) (by kernel_rfl) (by kernel_rfl)) ?_
  intro W base args ds gs before hval0 hW _ _
  have hval : ∀ (j : Nat) t v, Try.f10.params[j]? = some t → args[j]? = some v → Value.okWide Try.prog W .any base t v := hval0
  have hW' := hW
  obtain ⟨p, q, hA0, hV, hps, hfz, hnd⟩ := hW
  have hA : DataW.TrodAll enc Try.prog W 0 (fun _ => true) true Try.f10.params.toList args.toList ds p := hA0
  rw [Try.params10] at hA hval
  obtain ⟨v0, vs0, d0, ds0, p0, q0, hargs, rfl, hp0, h0, r0⟩ := trodAll_cons hA
  obtain ⟨v1, vs1, d1, ds1, p1, q1, rfl, rfl, hp1, h1, r1⟩ := trodAll_cons r0
  obtain ⟨rfl, rfl, _⟩ := trodAll_nil r1
  obtain rfl : args = #[v0, v1] := by cases args; simp_all
  obtain ⟨rfl, _⟩ := trodVars_none hV
  obtain ⟨a0, n0, c0, rows0, rfl, hle0, hcm0, hrl0, hro0, hrs0⟩ := open_nest_slice (es := [.str, .sl [.str], .sl [.str]]) Try.underlying58 (by kernel_rfl) (hval 0 58 v0 rfl rfl) h0
  obtain ⟨fs0, hfl0, hft0⟩ := tree_of hrl0 hro0 hrs0
  obtain ⟨a1, n1, c1, rows1, rfl, hle1, hcm1, hrl1, hro1, hrs1⟩ := open_nest_slice (es := [.str, .sl [.str], .sl [.str]]) Try.underlying58 (by kernel_rfl) (hval 1 58 v1 rfl rfl) h1
  obtain ⟨fs1, hfl1, hft1⟩ := tree_of hrl1 hro1 hrs1
  refine (treeUnlike_walk W a0 n0 c0 fs0 hfl0 (Nat.le_trans hle0 hcm0) hft0 a1 n1 c1 fs1 hfl1 (Nat.le_trans hle1 hcm1) hft1).mono fun e W' ⟨he, bel⟩ => ?_
  subst he
  exact ⟨_, rfl, law_post (tb := 4) Try.underlying4 rfl (typesOk_of (by kernel_rfl)) hW' rfl rfl bel⟩
theorem treeUnlike_holds : Rows.TreeUnlikeSaid :=
  OpenClaim.holds_of_wide 10 Try.f10 rfl rfl rfl rfl rfl rfl rfl ⟨rfl, rfl, rfl, rfl, rfl⟩ rfl rfl rfl rfl rfl (by kernel_rfl) Try.func10 (by kernel_rfl)
    (of_decide_eq_true (by kernel_rfl)) (by unfold Func.isWrapper; first | (rw [if_pos (by decide +kernel)]; kernel_rfl) | (rw [if_neg (by decide +kernel)]; exact ⟨rfl, rfl⟩))
    (fun os started H enc _ => treeUnlike_lifted os started H enc)
end Go.Proofs.Ytceapefjdiphpaa
