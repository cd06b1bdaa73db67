/- Any message, spoilt once, in any bit, is told to be. No condition; the listed table of crc is tied to the program's text. -/
import Derived.Test.YtdafiipedlglpaaGreatDoorMsgz
namespace Go.Proofs.YtdafiipedlglpaaGreatDoor
open Go.ChangeShapes Go.WideShapes Go.ChangeAt Go.RowKit Go.Deep

theorem i64_of {z : Int} (h : (Lit.int .i64 z).wf = true) : -9223372036854775808 ≤ z ∧ z ≤ 9223372036854775807 := by simp [Lit.wf, IntKind.min, IntKind.max, IntKind.signed, IntKind.bits] at h; omega
theorem u32_of {z : Int} (h : (Lit.int .u32 z).wf = true) : 0 ≤ z ∧ z < 4294967296 := by simp [Lit.wf, IntKind.min, IntKind.max, IntKind.signed, IntKind.bits] at h; omega
set_option maxRecDepth 100000 in
theorem msgSpoilt_w1 (os : Os) : World.Shaped Tryz.prog ((World.doorLaid Tryz.prog 400 os).forCall (fun _ _ => 0) ⟨#[], #[.agg (rawC 0 0 0 vec0 zeroBl none 0 0).toArray, .int .i64 0, .int .u32 0], []⟩) := World.shaped_of_RefB (by kernel_rfl) (by kernel_rfl)
set_option maxRecDepth 100000 in
theorem msgSpoilt_w2 (os : Os) : Input.okWideB Tryz.prog ((World.doorLaid Tryz.prog 400 os).forCall (fun _ _ => 0) ⟨#[], #[.agg (rawC 0 0 0 vec0 zeroBl none 0 0).toArray, .int .i64 0, .int .u32 0], []⟩) 6 ⟨#[], #[.agg (rawC 0 0 0 vec0 zeroBl none 0 0).toArray, .int .i64 0, .int .u32 0], []⟩ = true := by kernel_rfl
set_option maxRecDepth 100000 in
theorem msgSpoilt_w3 (os : Os) {H : Type} (enc : TypeId × Value → H) : Rows.msgSpoiltSpec.preB enc Tryz.prog Tryz.f6 [] false ((World.doorLaid Tryz.prog 400 os).forCall (fun _ _ => 0) ⟨#[], #[.agg (rawC 0 0 0 vec0 zeroBl none 0 0).toArray, .int .i64 0, .int .u32 0], []⟩).memory #[.agg (rawC 0 0 0 vec0 zeroBl none 0 0).toArray, .int .i64 0, .int .u32 0] 8 = true := by kernel_rfl
set_option maxRecDepth 100000 in
theorem msgSpoilt_w4 (os : Os) {H : Type} (enc : TypeId × Value → H) : Rows.msgSpoiltSpec.sizedB enc Tryz.prog Tryz.f6 false ((World.doorLaid Tryz.prog 400 os).forCall (fun _ _ => 0) ⟨#[], #[.agg (rawC 0 0 0 vec0 zeroBl none 0 0).toArray, .int .i64 0, .int .u32 0], []⟩).memory #[.agg (rawC 0 0 0 vec0 zeroBl none 0 0).toArray, .int .i64 0, .int .u32 0] 8 = true := by kernel_rfl
set_option maxRecDepth 100000 in
theorem msgSpoilt_lifted (os : Os) (started : os.Started) (H : Type) (enc : TypeId × Value → H) :
    ReturnsInHanded {} Tryz.checked os 6 .any (fun w args => (Rows.msgSpoiltSpec.pre enc Tryz.prog Tryz.f6 [] false w args ∧ laidMetH Tryz.prog laidL w) ∧ sizedMet enc Tryz.prog Tryz.f6 (OpenSpec.ofChange Rows.msgSpoiltSpec) false w args)
      (Rows.msgSpoiltSpec.post enc Tryz.prog Tryz.f6 false true false false) := by
  refine returnsInHanded_of_change_and (C := Tryz.checked) (X := fun w _ => laidMetH Tryz.prog laidL w) (fun _ _ _ hh h => h.of_heap hh) own started (by kernel_rfl) Tryz.func6
    (ChangeSpec.witness_shaped (enc := enc) (C := Tryz.checked) (os := os) (X := fun w _ => laidMetH Tryz.prog laidL w) false (World.doorLaid Tryz.prog 400 os) #[.agg (rawC 0 0 0 vec0 zeroBl none 0 0).toArray, .int .i64 0, .int .u32 0] 8 rfl (msgSpoilt_w1 os) (msgSpoilt_w2 os) (msgSpoilt_w3 os enc) (msgSpoilt_w4 os enc) (door_met os _)) ?_
  intro W base args ds gs before hval0 hW _ _ hL _
  have hT := tabOk_of hL
  have hval : ∀ (j : Nat) t v, Tryz.f6.params[j]? = some t → args[j]? = some v → Value.okWide Tryz.prog W .any base t v := hval0
  have hW' := hW
  obtain ⟨p, q, hA0, hV, hps, hfz, hnd⟩ := hW
  have hA : DataW.TrodAll enc Tryz.prog W 0 (fun _ => true) true Tryz.f6.params.toList args.toList ds p := hA0
  rw [Tryz.params6] at hA hval
  obtain ⟨v0, vs0, d0, ds0, p0, q0, hargs, rfl, hp0, h0, r0⟩ := trodAll_cons hA
  obtain ⟨v1, vs1, d1, ds1, p1, q1, rfl, rfl, hp1, h1, r1⟩ := trodAll_cons r0
  obtain ⟨v2, vs2, d2, ds2, p2, q2, rfl, rfl, hp2, h2, r2⟩ := trodAll_cons r1
  obtain ⟨rfl, rfl, _⟩ := trodAll_nil r2
  obtain rfl : args = #[v0, v1, v2] := by cases args; simp_all
  obtain ⟨rfl, _⟩ := trodVars_none hV
  obtain ⟨cs0, rfl, hs0⟩ := open_nest_struct (ks := shMsg) (by kernel_rfl) (by kernel_rfl) (hval 0 30 v0 rfl rfl) h0
  obtain ⟨a0, w0⟩ := msg_of hs0
  obtain ⟨a1, rfl, rfl, rfl, w1⟩ := open_int Tryz.underlying3 (hval 1 3 v1 rfl rfl) h1
  obtain ⟨a2, rfl, rfl, rfl, w2⟩ := open_int Tryz.underlying47 (hval 2 47 v2 rfl rfl) h2
  refine (msgSpoilt_walk W a0 cs0 w0 a1 (i64_of w1).1 (i64_of w1).2 a2 (u32_of w2).1 (u32_of w2).2 hT).mono fun e W' ⟨he, bel⟩ => ?_
  subst he
  exact ⟨_, rfl, law_post (tb := 4) Tryz.underlying4 rfl (typesOk_of (by kernel_rfl)) hW' rfl rfl bel⟩
theorem msgSpoilt_row : Rows.MsgSpoiltSaid :=
  OpenClaim.holds_of_wide 6 Tryz.f6 rfl rfl rfl rfl rfl rfl rfl ⟨rfl, rfl, rfl, rfl, rfl⟩ rfl rfl rfl rfl rfl (by kernel_rfl) Tryz.func6 (by kernel_rfl)
    (of_decide_eq_true (by kernel_rfl)) (by unfold Func.isWrapper; first | (rw [if_pos (by decide +kernel)]; kernel_rfl) | (rw [if_neg (by decide +kernel)]; exact ⟨rfl, rfl⟩))
    (fun os started H enc _ => msgSpoilt_lifted os started H enc)
theorem msgSpoilt_tied : Rows.msgSpoiltRow.laidByTextAt .later Tryz.pinned laidKs true := OpenClaim.laidByTextAt_later rfl rfl tie (by kernel_rfl)
theorem msgSpoilt_holds : Rows.MsgSpoiltCardSaid :=
  Claim7.holds_tied_plain_at .later [] laidKs true harnessL false
    msgSpoilt_row (fun _ h => by cases h) (by kernel_rfl) (fun _ h => by cases h) msgSpoilt_tied rfl ⟨rfl, rfl⟩ (by kernel_rfl) rfl
    (fun f fn hf hfn => by
      obtain rfl : f = 6 := Option.some.inj ((show Tryz.prog.funcNamed "bruit/bruitlaw34.MsgSpoilt" = some 6 by kernel_rfl).symm.trans hf) |>.symm
      obtain rfl : fn = Tryz.f6 := (Option.some.inj (Tryz.func6.symm.trans hfn)).symm
      exact ⟨by kernel_rfl, fun j t ht => by
        rw [Tryz.params6] at ht
        have hm : t ∈ [30, 3, 47] := by simpa using Array.mem_of_getElem? ht
        have hall : ([30, 3, 47].all fun u => !Tryz.prog.wantsStandIn u) = true := by kernel_rfl
        exact (show Tryz.prog.wantsStandIn t = false by simpa using List.all_eq_true.1 hall t hm)⟩)
    (by kernel_rfl)
end Go.Proofs.YtdafiipedlglpaaGreatDoor
