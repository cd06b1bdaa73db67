/- THE PATCHES ARE THE VECTOR: of any two vectors and any patch: their join has it, if one of them does, what they have in common, if both do; one is within the other just if it lacks nothing the other way; with the patch that comes next it has just that one more. No condition. -/
import Derived.Test.YtceapefjdiphpaaVecg
import Derived.Test.YtceapefjdiphpaaLift
namespace Go.Proofs.Ytceapefjdiphpaa
open Go.ChangeShapes Go.WideShapes Go.RowKit Go.Deep

theorem vecHas_walk (ca : List Value) (ha : FlatOk (List.replicate 64 (.int .u16)) ca) (cb : List Value) (hb : FlatOk (List.replicate 64 (.int .u16)) cb) (cp : List Value) (hp : FlatOk [.int .u8, .int .u16] cp) (w : World) :
    Calls Try.prog 6 #[.agg ca.toArray, .agg cb.toArray, .agg cp.toArray] w (RetB w (.bool true)) := by
  obtain ⟨a, rfl, la, wa⟩ := flatOk_ints 64 ca ha
  have va := vecOk_of la wa
  obtain ⟨b, rfl, lb, wb⟩ := flatOk_ints 64 cb hb
  have vb := vecOk_of lb wb
  match cp, hp with
  | [_, _], ⟨⟨n, rfl, hn⟩, ⟨s, rfl, hs⟩, _⟩ =>
    have h1 := bounds_u8 hn
    have h2 : 0 ≤ s ∧ s < 65536 := by simp [Lit.wf, IntKind.min, IntKind.max, IntKind.signed, IntKind.bits] at hs; omega
    obtain ⟨m, rfl⟩ := Int.eq_ofNat_of_zero_le h1.1
    exact vecHas_main a b va vb m (by omega) s h2 w

set_option maxRecDepth 100000 in
theorem vecHas_lifted (os : Os) (started : os.Started) (H : Type) (enc : TypeId × Value → H) :
    ReturnsInHanded {} Try.checked os 6 .any (Rows.vecHasSpec.pre6 enc Try.prog Try.f6 Rows.vecHasRow.domain false) (Rows.vecHasSpec.post enc Try.prog Try.f6 false true false false) := by
  refine returnsInHanded_of_change (C := Try.checked) own started (by kernel_rfl) Try.func6
    (ChangeSpec.witness6 (enc := enc) (C := Try.checked) false ⟨#[], #[.agg (vecA vec0), .agg (vecA vec0), .agg #[.int .u8 0, .int .u16 0]], []⟩ 8 (by kernel_rfl) (by kernel_rfl) (by kernel_rfl) (by kernel_rfl)) ?_
  intro W base args ds gs before hval0 hW _ _
  have hval : ∀ (j : Nat) t v, Try.f6.params[j]? = some t → args[j]? = some v → Value.okWide Try.prog W .any base t v := hval0
  have hW' := hW
  obtain ⟨p, q, hA0, hV, hps, hfz, hnd⟩ := hW
  have hA : DataW.TrodAll enc Try.prog W 0 (fun _ => true) true Try.f6.params.toList args.toList ds p := hA0
  rw [Try.params6] at hA hval
  obtain ⟨v0, vs0, d0, ds0, p0, q0, hargs, rfl, hp0, h0, r0⟩ := trodAll_cons hA
  obtain ⟨v1, vs1, d1, ds1, p1, q1, rfl, rfl, hp1, h1, r1⟩ := trodAll_cons r0
  obtain ⟨v2, vs2, d2, ds2, p2, q2, rfl, rfl, hp2, h2, r2⟩ := trodAll_cons r1
  obtain ⟨rfl, rfl, _⟩ := trodAll_nil r2
  obtain rfl : args = #[v0, v1, v2] := by cases args; simp_all
  obtain ⟨rfl, _⟩ := trodVars_none hV
  obtain ⟨a0, rfl, w0⟩ := open_flat (ks := List.replicate 64 (.int .u16)) (by kernel_rfl) (by kernel_rfl) (hval 0 24 v0 rfl rfl) h0
  obtain ⟨a1, rfl, w1⟩ := open_flat (ks := List.replicate 64 (.int .u16)) (by kernel_rfl) (by kernel_rfl) (hval 1 24 v1 rfl rfl) h1
  obtain ⟨a2, rfl, w2⟩ := open_flat (ks := [.int .u8, .int .u16]) (by kernel_rfl) (by kernel_rfl) (hval 2 38 v2 rfl rfl) h2
  refine (vecHas_walk a0 w0 a1 w1 a2 w2 W).mono fun e W' ⟨he, bel⟩ => ?_
  subst he
  exact ⟨_, rfl, law_post (tb := 4) Try.underlying4 rfl (typesOk_of (by kernel_rfl)) hW' rfl rfl bel⟩
theorem vecHas_holds : Rows.VecHasSaid :=
  OpenClaim.holds_of_wide 6 Try.f6 rfl rfl rfl rfl rfl rfl rfl ⟨rfl, rfl, rfl, rfl, rfl⟩ rfl rfl rfl rfl rfl (by kernel_rfl) Try.func6 (by kernel_rfl)
    (of_decide_eq_true (by kernel_rfl)) (by unfold Func.isWrapper; first | (rw [if_pos (by decide +kernel)]; kernel_rfl) | (rw [if_neg (by decide +kernel)]; exact ⟨rfl, rfl⟩))
    (fun os started H enc _ => vecHas_lifted os started H enc)
end Go.Proofs.Ytceapefjdiphpaa
