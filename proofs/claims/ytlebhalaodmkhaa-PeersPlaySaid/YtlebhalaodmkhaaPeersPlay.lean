/- OF ANY REPLICA AMONG ANY, WITH ANY PATIENCE, whoever is asked, and heard of, and however often it ticks: who there is, is drawn, waited for, and free, is as the document says. No condition. -/
import Derived.Test.YtlebhalaodmkhaaPlayf
import Derived.Test.YtlebhalaodmkhaaLift
namespace Go.Proofs.Ytlebhalaodmkhaa
open Go.ChangeShapes Go.WideShapes Go.RowKit Go.Deep

theorem peersPlay_walk (w : World) (who : List Value) (hwho : FlatOk [.int .i64, .int .i64, .int .i64] who) (A : Option Addr) (m c : Nat) (rows : List (List Value)) (hr : RowsAt [.int .u8, .int .u8] w A m c rows) (x : Int) (hx : (Lit.int .u64 x).wf = true) :
    Calls Try.prog 9 #[.agg who.toArray, .slice A m c, .int .u64 x] w (RetB w (.bool true)) := by
  obtain ⟨zs, rfl, hl, _⟩ := flatOk_ints 3 who hwho
  match zs, hl with
  | [a0, a1, a2], _ =>
    exact peersPlay_core w a0 a1 a2 A m c rows hr x (by simp [Lit.wf, IntKind.min, IntKind.max, IntKind.signed, IntKind.bits] at hx; omega)

set_option maxRecDepth 100000 in
theorem peersPlay_lifted (os : Os) (started : os.Started) (H : Type) (enc : TypeId × Value → H) :
    ReturnsInHanded {} Try.checked os 9 .any (Rows.peersPlaySpec.pre6 enc Try.prog Try.f9 Rows.peersPlayRow.domain false) (Rows.peersPlaySpec.post enc Try.prog Try.f9 false true false false) := by
  refine returnsInHanded_of_change (C := Try.checked) own started (by kernel_rfl) Try.func9
    (ChangeSpec.witness6 (enc := enc) (C := Try.checked) false ⟨#[], #[.agg #[.int .i64 0, .int .i64 0, .int .i64 0], .slice none 0 0, .int .u64 0], []⟩ 8 (by kernel_rfl) (by kernel_rfl) (by kernel_rfl) (by kernel_rfl)) ?_
  intro W base args ds gs before hval0 hW _ _
  have hval : ∀ (j : Nat) t v, Try.f9.params[j]? = some t → args[j]? = some v → Value.okWide Try.prog W .any base t v := hval0
  have hW' := hW
  obtain ⟨p, q, hA0, hV, hps, hfz, hnd⟩ := hW
  have hA : DataW.TrodAll enc Try.prog W 0 (fun _ => true) true Try.f9.params.toList args.toList ds p := hA0
  rw [Try.params9] at hA hval
  obtain ⟨v0, vs0, d0, ds0, p0, q0, hargs, rfl, hp0, h0, r0⟩ := trodAll_cons hA
  obtain ⟨v1, vs1, d1, ds1, p1, q1, rfl, rfl, hp1, h1, r1⟩ := trodAll_cons r0
  obtain ⟨v2, vs2, d2, ds2, p2, q2, rfl, rfl, hp2, h2, r2⟩ := trodAll_cons r1
  obtain ⟨rfl, rfl, _⟩ := trodAll_nil r2
  obtain rfl : args = #[v0, v1, v2] := by cases args; simp_all
  obtain ⟨rfl, _⟩ := trodVars_none hV
  obtain ⟨a0, rfl, w0⟩ := open_flat (ks := [.int .i64, .int .i64, .int .i64]) (by kernel_rfl) (by kernel_rfl) (hval 0 41 v0 rfl rfl) h0
  obtain ⟨a1, n1, c1, rows1, rfl, w1⟩ := open_rows (ks := [.int .u8, .int .u8]) Try.underlying42 (by kernel_rfl) (by kernel_rfl) (by decide) (hval 1 42 v1 rfl rfl) h1
  obtain ⟨a2, rfl, rfl, rfl, w2⟩ := open_int Try.underlying25 (hval 2 25 v2 rfl rfl) h2
  refine (peersPlay_walk W a0 w0 a1 n1 c1 rows1 w1 a2 w2).mono fun e W' ⟨he, bel⟩ => ?_
  subst he
  exact ⟨_, rfl, law_post (tb := 4) Try.underlying4 rfl (typesOk_of (by kernel_rfl)) hW' rfl rfl bel⟩
theorem peersPlay_holds : Rows.PeersPlaySaid :=
  OpenClaim.holds_of_wide 9 Try.f9 rfl rfl rfl rfl rfl rfl rfl ⟨rfl, rfl, rfl, rfl, rfl⟩ rfl rfl rfl rfl rfl (by kernel_rfl) Try.func9 (by kernel_rfl)
    (of_decide_eq_true (by kernel_rfl)) (by unfold Func.isWrapper; first | (rw [if_pos (by decide +kernel)]; kernel_rfl) | (rw [if_neg (by decide +kernel)]; exact ⟨rfl, rfl⟩))
    (fun os started H enc _ => peersPlay_lifted os started H enc)
end Go.Proofs.Ytlebhalaodmkhaa
