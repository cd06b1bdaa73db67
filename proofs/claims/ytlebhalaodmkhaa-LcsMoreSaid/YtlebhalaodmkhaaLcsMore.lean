/- OF ANY TWO LISTS OF TEXTS AND ANY TEXT: a text more, at either end of either list, makes what is in common longer by one at most, and no shorter; the same text at the end of both makes it longer by one. No condition. -/
import Derived.Test.YtlebhalaodmkhaaLcsh
import Derived.Test.YtlebhalaodmkhaaLift
namespace Go.Proofs.Ytlebhalaodmkhaa
open Go.ChangeShapes Go.WideShapes Go.RowKit Go.Deep

theorem lcsMore_walk (w : World) (A : Option Addr) (n c : Nat) (r0 : List (List Value)) (h0 : RowsAt [.str] w A n c r0) (B : Option Addr) (m d : Nat) (r1 : List (List Value)) (h1 : RowsAt [.str] w B m d r1) (s : ByteArray) (_ : s.size ≤ maxLen) :
    Calls Try.prog 8 #[.slice A n c, .slice B m d, .string s] w (RetB w (.bool true)) := by
  obtain ⟨xs, rfl, _, ha⟩ := h0.strs
  obtain ⟨ys, rfl, _, hb⟩ := h1.strs
  exact lcsMore_core w xs ys A B c d s ha hb

set_option maxRecDepth 100000 in
theorem lcsMore_lifted (os : Os) (started : os.Started) (H : Type) (enc : TypeId × Value → H) :
    ReturnsInHanded {} Try.checked os 8 .any (Rows.lcsMoreSpec.pre6 enc Try.prog Try.f8 Rows.lcsMoreRow.domain false) (Rows.lcsMoreSpec.post enc Try.prog Try.f8 false true false false) := by
  refine returnsInHanded_of_change (C := Try.checked) own started (by kernel_rfl) Try.func8
    (ChangeSpec.witness6 (enc := enc) (C := Try.checked) false ⟨#[], #[.slice none 0 0, .slice none 0 0, .string ByteArray.empty], []⟩ 8 (by kernel_rfl) (by kernel_rfl) (by kernel_rfl) (by kernel_rfl)) ?_
  intro W base args ds gs before hval0 hW _ _
  have hval : ∀ (j : Nat) t v, Try.f8.params[j]? = some t → args[j]? = some v → Value.okWide Try.prog W .any base t v := hval0
  have hW' := hW
  obtain ⟨p, q, hA0, hV, hps, hfz, hnd⟩ := hW
  have hA : DataW.TrodAll enc Try.prog W 0 (fun _ => true) true Try.f8.params.toList args.toList ds p := hA0
  rw [Try.params8] at hA hval
  obtain ⟨v0, vs0, d0, ds0, p0, q0, hargs, rfl, hp0, h0, r0⟩ := trodAll_cons hA
  obtain ⟨v1, vs1, d1, ds1, p1, q1, rfl, rfl, hp1, h1, r1⟩ := trodAll_cons r0
  obtain ⟨v2, vs2, d2, ds2, p2, q2, rfl, rfl, hp2, h2, r2⟩ := trodAll_cons r1
  obtain ⟨rfl, rfl, _⟩ := trodAll_nil r2
  obtain rfl : args = #[v0, v1, v2] := by cases args; simp_all
  obtain ⟨rfl, _⟩ := trodVars_none hV
  obtain ⟨a0, n0, c0, rows0, rfl, w0⟩ := open_rows (ks := [.str]) Try.underlying33 (by kernel_rfl) (by kernel_rfl) (by decide) (hval 0 33 v0 rfl rfl) h0
  obtain ⟨a1, n1, c1, rows1, rfl, w1⟩ := open_rows (ks := [.str]) Try.underlying33 (by kernel_rfl) (by kernel_rfl) (by decide) (hval 1 33 v1 rfl rfl) h1
  obtain ⟨a2, rfl, rfl, rfl, w2⟩ := Go.ChangeMaps.open_string Try.underlying9 (hval 2 9 v2 rfl rfl) h2
  refine (lcsMore_walk W a0 n0 c0 rows0 w0 a1 n1 c1 rows1 w1 a2 w2).mono fun e W' ⟨he, bel⟩ => ?_
  subst he
  exact ⟨_, rfl, law_post (tb := 4) Try.underlying4 rfl (typesOk_of (by kernel_rfl)) hW' rfl rfl bel⟩
theorem lcsMore_holds : Rows.LcsMoreSaid :=
  OpenClaim.holds_of_wide 8 Try.f8 rfl rfl rfl rfl rfl rfl rfl ⟨rfl, rfl, rfl, rfl, rfl⟩ rfl rfl rfl rfl rfl (by kernel_rfl) Try.func8 (by kernel_rfl)
    (of_decide_eq_true (by kernel_rfl)) (by unfold Func.isWrapper; first | (rw [if_pos (by decide +kernel)]; kernel_rfl) | (rw [if_neg (by decide +kernel)]; exact ⟨rfl, rfl⟩))
    (fun os started H enc _ => lcsMore_lifted os started H enc)
end Go.Proofs.Ytlebhalaodmkhaa
