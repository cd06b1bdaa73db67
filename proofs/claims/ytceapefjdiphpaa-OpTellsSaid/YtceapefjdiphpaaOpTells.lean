/- OF ANY PATCH, ANY PLACE AND ANY OPERATION: whether it may stand there, and which vertices it names, is as the document says. No condition. -/
import Derived.Test.YtceapefjdiphpaaOpt
import Derived.Test.YtceapefjdiphpaaLift
namespace Go.Proofs.Ytceapefjdiphpaa
open Go.ChangeShapes Go.WideShapes Go.RowKit Go.Deep

theorem opTells_walk (c0 : List Value) (h0 : FlatOk [.int .u8, .int .u16] c0) (i : Int) (_ : (Lit.int .i64 i).wf = true) (c2 : List Value) (h2 : FlatOk [.int .u8, .int .u8, .int .u16, .int .u8, .int .u8, .int .u16, .int .u8, .str] c2) (w : World) :
    Calls Try.prog 7 #[.agg c0.toArray, .int .i64 i, .agg c2.toArray] w (RetB w (.bool true)) := by
  obtain ⟨a, s, rfl, ha, hs⟩ := pid_of h0
  obtain ⟨k, x, y, t, rfl, hk, hx, hy, ht⟩ := op_of h2
  exact opTells_core a s i k x y t w ha hs hk hx hy ht

set_option maxRecDepth 100000 in
theorem opTells_lifted (os : Os) (started : os.Started) (H : Type) (enc : TypeId × Value → H) :
    ReturnsInHanded {} Try.checked os 7 .any (Rows.opTellsSpec.pre6 enc Try.prog Try.f7 Rows.opTellsRow.domain false) (Rows.opTellsSpec.post enc Try.prog Try.f7 false true false false) := by
  refine returnsInHanded_of_change (C := Try.checked) own started (by kernel_rfl) Try.func7
    (ChangeSpec.witness6 (enc := enc) (C := Try.checked) false ⟨#[], #[.agg #[.int .u8 0, .int .u16 0], .int .i64 0, .agg #[.int .u8 0, .int .u8 0, .int .u16 0, .int .u8 0, .int .u8 0, .int .u16 0, .int .u8 0, .string ByteArray.empty]], []⟩ 8 (by kernel_rfl) (by kernel_rfl) (by kernel_rfl) (by kernel_rfl)) ?_
  intro W base args ds gs before hval0 hW _ _
  have hval : ∀ (j : Nat) t v, Try.f7.params[j]? = some t → args[j]? = some v → Value.okWide Try.prog W .any base t v := hval0
  have hW' := hW
  obtain ⟨p, q, hA0, hV, hps, hfz, hnd⟩ := hW
  have hA : DataW.TrodAll enc Try.prog W 0 (fun _ => true) true Try.f7.params.toList args.toList ds p := hA0
  rw [Try.params7] at hA hval
  obtain ⟨v0, vs0, d0, ds0, p0, q0, hargs, rfl, hp0, h0, r0⟩ := trodAll_cons hA
  obtain ⟨v1, vs1, d1, ds1, p1, q1, rfl, rfl, hp1, h1, r1⟩ := trodAll_cons r0
  obtain ⟨v2, vs2, d2, ds2, p2, q2, rfl, rfl, hp2, h2, r2⟩ := trodAll_cons r1
  obtain ⟨rfl, rfl, _⟩ := trodAll_nil r2
  obtain rfl : args = #[v0, v1, v2] := by cases args; simp_all
  obtain ⟨rfl, _⟩ := trodVars_none hV
  obtain ⟨a0, rfl, w0⟩ := open_flat (ks := [.int .u8, .int .u16]) (by kernel_rfl) (by kernel_rfl) (hval 0 38 v0 rfl rfl) h0
  obtain ⟨a1, rfl, rfl, rfl, w1⟩ := open_int Try.underlying3 (hval 1 3 v1 rfl rfl) h1
  obtain ⟨a2, rfl, w2⟩ := open_flat (ks := [.int .u8, .int .u8, .int .u16, .int .u8, .int .u8, .int .u16, .int .u8, .str]) (by kernel_rfl) (by kernel_rfl) (hval 2 47 v2 rfl rfl) h2
  refine (opTells_walk a0 w0 a1 w1 a2 w2 W).mono fun e W' ⟨he, bel⟩ => ?_
  subst he
  exact ⟨_, rfl, law_post (tb := 4) Try.underlying4 rfl (typesOk_of (by kernel_rfl)) hW' rfl rfl bel⟩
theorem opTells_holds : Rows.OpTellsSaid :=
  OpenClaim.holds_of_wide 7 Try.f7 rfl rfl rfl rfl rfl rfl rfl ⟨rfl, rfl, rfl, rfl, rfl⟩ rfl rfl rfl rfl rfl (by kernel_rfl) Try.func7 (by kernel_rfl)
    (of_decide_eq_true (by kernel_rfl)) (by unfold Func.isWrapper; first | (rw [if_pos (by decide +kernel)]; kernel_rfl) | (rw [if_neg (by decide +kernel)]; exact ⟨rfl, rfl⟩))
    (fun os started H enc _ => opTells_lifted os started H enc)
end Go.Proofs.Ytceapefjdiphpaa
