/- OF ANY TWO LISTS OF TEXTS: the pairs rise in both, are of the same texts, and are as many as the longest list that both have; either way round that is as long; of a list and itself it is all. No condition. -/
import Derived.Test.YtlebhalaodmkhaaLcsg
import Derived.Test.YtlebhalaodmkhaaLift
namespace Go.Proofs.Ytlebhalaodmkhaa
open Go.ChangeShapes Go.WideShapes Go.RowKit Go.Deep

theorem lcsBest_walk (w : World) (A : Option Addr) (n c : Nat) (r0 : List (List Value)) (h0 : RowsAt [.str] w A n c r0) (B : Option Addr) (m d : Nat) (r1 : List (List Value)) (h1 : RowsAt [.str] w B m d r1) :
    Calls Try.prog 7 #[.slice A n c, .slice B m d] w (RetB w (.bool true)) := by
  obtain ⟨xs, rfl, _, ha⟩ := h0.strs
  obtain ⟨ys, rfl, _, hb⟩ := h1.strs
  exact lcsBest_core w xs ys A B c d ha hb

set_option maxRecDepth 100000 in
theorem lcsBest_lifted (os : Os) (started : os.Started) (H : Type) (enc : TypeId × Value → H) :
    ReturnsInHanded {} Try.checked os 7 .any (Rows.lcsBestSpec.pre6 enc Try.prog Try.f7 Rows.lcsBestRow.domain false) (Rows.lcsBestSpec.post enc Try.prog Try.f7 false true false false) := by
  refine returnsInHanded_of_change (C := Try.checked) own started (by kernel_rfl) Try.func7
    (ChangeSpec.witness6 (enc := enc) (C := Try.checked) false ⟨#[], #[.slice none 0 0, .slice none 0 0], []⟩ 8 (by kernel_rfl) (by kernel_rfl) (by kernel_rfl) (by kernel_rfl)) ?_
  intro W base args ds gs before hval0 hW _ _
  have hval : ∀ (j : Nat) t v, Try.f7.params[j]? = some t → args[j]? = some v → Value.okWide Try.prog W .any base t v := hval0
  have hW' := hW
  obtain ⟨p, q, hA0, hV, hps, hfz, hnd⟩ := hW
  have hA : DataW.TrodAll enc Try.prog W 0 (fun _ => true) true Try.f7.params.toList args.toList ds p := hA0
  rw [Try.params7] at hA hval
  obtain ⟨v0, vs0, d0, ds0, p0, q0, hargs, rfl, hp0, h0, r0⟩ := trodAll_cons hA
  obtain ⟨v1, vs1, d1, ds1, p1, q1, rfl, rfl, hp1, h1, r1⟩ := trodAll_cons r0
  obtain ⟨rfl, rfl, _⟩ := trodAll_nil r1
  obtain rfl : args = #[v0, v1] := by cases args; simp_all
  obtain ⟨rfl, _⟩ := trodVars_none hV
  obtain ⟨a0, n0, c0, rows0, rfl, w0⟩ := open_rows (ks := [.str]) Try.underlying33 (by kernel_rfl) (by kernel_rfl) (by decide) (hval 0 33 v0 rfl rfl) h0
  obtain ⟨a1, n1, c1, rows1, rfl, w1⟩ := open_rows (ks := [.str]) Try.underlying33 (by kernel_rfl) (by kernel_rfl) (by decide) (hval 1 33 v1 rfl rfl) h1
  refine (lcsBest_walk W a0 n0 c0 rows0 w0 a1 n1 c1 rows1 w1).mono fun e W' ⟨he, bel⟩ => ?_
  subst he
  exact ⟨_, rfl, law_post (tb := 4) Try.underlying4 rfl (typesOk_of (by kernel_rfl)) hW' rfl rfl bel⟩
theorem lcsBest_holds : Rows.LcsBestSaid :=
  OpenClaim.holds_of_wide 7 Try.f7 rfl rfl rfl rfl rfl rfl rfl ⟨rfl, rfl, rfl, rfl, rfl⟩ rfl rfl rfl rfl rfl (by kernel_rfl) Try.func7 (by kernel_rfl)
    (of_decide_eq_true (by kernel_rfl)) (by unfold Func.isWrapper; first | (rw [if_pos (by decide +kernel)]; kernel_rfl) | (rw [if_neg (by decide +kernel)]; exact ⟨rfl, rfl⟩))
    (fun os started H enc _ => lcsBest_lifted os started H enc)
end Go.Proofs.Ytlebhalaodmkhaa
