/- OF ANY OPERATION, ANY TWO PATCHES AND ANY TWO PLACES: what may stand at a place may stand at any later one; what names nothing of the patch itself may stand at all places; and it may be in another patch, unless it names something of that. No condition. -/
import Derived.Test.YtceapefjdiphpaaOpl
import Derived.Test.YtceapefjdiphpaaLift
namespace Go.Proofs.Ytceapefjdiphpaa
open Go.ChangeShapes Go.WideShapes Go.RowKit Go.Deep

theorem two_of : ∀ {cs : List Value}, FlatOk [.int .u8, .int .u8, .int .u16, .int .u8, .int .u8, .int .u16, .int .u8, .str, .int .u8, .int .u8] cs →
    ∃ (k : Int) (x y : VidV) (t : ByteArray) (i j : Int), cs = [.int .u8 k, .int .u8 x.a, .int .u16 x.s, .int .u8 x.n, .int .u8 y.a, .int .u16 y.s, .int .u8 y.n, .string t, .int .u8 i, .int .u8 j] ∧ (0 ≤ k ∧ k < 256) ∧ x.ok ∧ y.ok ∧ t.size ≤ maxLen ∧ (0 ≤ i ∧ i < 256) ∧ (0 ≤ j ∧ j < 256)
  | [_, _, _, _, _, _, _, _, _, _], ⟨⟨k, rfl, hk⟩, ⟨a, rfl, ha⟩, ⟨s, rfl, hs⟩, ⟨n, rfl, hn⟩, ⟨a', rfl, ha'⟩, ⟨s', rfl, hs'⟩, ⟨n', rfl, hn'⟩, ⟨t, rfl, ht⟩, ⟨i, rfl, hi⟩, ⟨j, rfl, hj⟩, _⟩ =>
    ⟨k, ⟨a, s, n⟩, ⟨a', s', n'⟩, t, i, j, rfl, u8_of hk, ⟨u8_of ha, u16_of hs, u8_of hn⟩, ⟨u8_of ha', u16_of hs', u8_of hn'⟩, ht, u8_of hi, u8_of hj⟩

theorem opLater_walk (c0 : List Value) (h0 : FlatOk [.int .u8, .int .u16] c0) (c1 : List Value) (h1 : FlatOk [.int .u8, .int .u16] c1) (c2 : List Value) (h2 : FlatOk [.int .u8, .int .u8, .int .u16, .int .u8, .int .u8, .int .u16, .int .u8, .str, .int .u8, .int .u8] c2) (w : World) :
    Calls Try.prog 8 #[.agg c0.toArray, .agg c1.toArray, .agg c2.toArray] w (RetB w (.bool true)) := by
  obtain ⟨a, s, rfl, ha, hs⟩ := pid_of h0
  obtain ⟨a', s', rfl, ha', hs'⟩ := pid_of h1
  obtain ⟨k, x, y, t, i, j, rfl, hk, hx, hy, ht, hi, hj⟩ := two_of h2
  exact opLater_core a s a' s' i j k x y t w ha hs ha' hs' hi hj hk hx hy ht

set_option maxRecDepth 100000 in
theorem opLater_lifted (os : Os) (started : os.Started) (H : Type) (enc : TypeId × Value → H) :
    ReturnsInHanded {} Try.checked os 8 .any (Rows.opLaterSpec.pre6 enc Try.prog Try.f8 Rows.opLaterRow.domain false) (Rows.opLaterSpec.post enc Try.prog Try.f8 false true false false) := by
  refine returnsInHanded_of_change (C := Try.checked) own started (by kernel_rfl) Try.func8
    (ChangeSpec.witness6 (enc := enc) (C := Try.checked) false ⟨#[], #[.agg #[.int .u8 0, .int .u16 0], .agg #[.int .u8 0, .int .u16 0], .agg #[.int .u8 0, .int .u8 0, .int .u16 0, .int .u8 0, .int .u8 0, .int .u16 0, .int .u8 0, .string ByteArray.empty, .int .u8 0, .int .u8 0]], []⟩ 8 (by kernel_rfl) (by kernel_rfl) (by kernel_rfl) (by kernel_rfl)) ?_
  intro W base args ds gs before hval0 hW _ _
  have hval : ∀ (j : Nat) t v, Try.f8.params[j]? = some t → args[j]? = some v → Value.okWide Try.prog W .any base t v := hval0
  have hW' := hW
  obtain ⟨p, q, hA0, hV, hps, hfz, hnd⟩ := hW
  have hA : DataW.TrodAll enc Try.prog W 0 (fun _ => true) true Try.f8.params.toList args.toList ds p := hA0
  rw [Try.params8] at hA hval
  obtain ⟨v0, vs0, d0, ds0, p0, q0, hargs, rfl, hp0, h0, r0⟩ := trodAll_cons hA
  obtain ⟨v1, vs1, d1, ds1, p1, q1, rfl, rfl, hp1, h1, r1⟩ := trodAll_cons r0
  obtain ⟨v2, vs2, d2, ds2, p2, q2, rfl, rfl, hp2, h2, r2⟩ := trodAll_cons r1
  obtain ⟨rfl, rfl, _⟩ := trodAll_nil r2
  obtain rfl : args = #[v0, v1, v2] := by cases args; simp_all
  obtain ⟨rfl, _⟩ := trodVars_none hV
  obtain ⟨a0, rfl, w0⟩ := open_flat (ks := [.int .u8, .int .u16]) (by kernel_rfl) (by kernel_rfl) (hval 0 38 v0 rfl rfl) h0
  obtain ⟨a1, rfl, w1⟩ := open_flat (ks := [.int .u8, .int .u16]) (by kernel_rfl) (by kernel_rfl) (hval 1 38 v1 rfl rfl) h1
  obtain ⟨a2, rfl, w2⟩ := open_flat (ks := [.int .u8, .int .u8, .int .u16, .int .u8, .int .u8, .int .u16, .int .u8, .str, .int .u8, .int .u8]) (by kernel_rfl) (by kernel_rfl) (hval 2 55 v2 rfl rfl) h2
  refine (opLater_walk a0 w0 a1 w1 a2 w2 W).mono fun e W' ⟨he, bel⟩ => ?_
  subst he
  exact ⟨_, rfl, law_post (tb := 4) Try.underlying4 rfl (typesOk_of (by kernel_rfl)) hW' rfl rfl bel⟩
theorem opLater_holds : Rows.OpLaterSaid :=
  OpenClaim.holds_of_wide 8 Try.f8 rfl rfl rfl rfl rfl rfl rfl ⟨rfl, rfl, rfl, rfl, rfl⟩ rfl rfl rfl rfl rfl (by kernel_rfl) Try.func8 (by kernel_rfl)
    (of_decide_eq_true (by kernel_rfl)) (by unfold Func.isWrapper; first | (rw [if_pos (by decide +kernel)]; kernel_rfl) | (rw [if_neg (by decide +kernel)]; exact ⟨rfl, rfl⟩))
    (fun os started H enc _ => opLater_lifted os started H enc)
end Go.Proofs.Ytceapefjdiphpaa
