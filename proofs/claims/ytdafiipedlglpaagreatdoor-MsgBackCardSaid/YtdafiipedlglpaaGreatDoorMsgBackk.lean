/- The law MsgBack: its witness, its walk lifted, what its program reaches. -/
import Derived.Test.YtdafiipedlglpaaGreatDoorMsgr
import Derived.Test.YtdafiipedlglpaaGreatDoorMsgz
namespace Go.Proofs.YtdafiipedlglpaaGreatDoor
open Go.ChangeShapes Go.WideShapes Go.ChangeAt Go.RowKit Go.Deep

theorem msgBack_k1 : (Rows.msgBackRow.inPlace == Tryz.pinned.checked.prog.inPlace 5) = true := by kernel_rfl
theorem msgBack_k2 : (Rows.msgBackRow.unfollowed == Tryz.pinned.checked.prog.unfollowed 5) = true := by kernel_rfl
theorem msgBack_k3 : (Rows.msgBackRow.recurses == Tryz.pinned.checked.prog.recurses 5) = true := by kernel_rfl
theorem msgBack_k4 : (Rows.msgBackRow.named == Tryz.pinned.checked.prog.varsNamed 5) = true := by kernel_rfl
set_option maxRecDepth 100000 in
theorem msgBack_w1 (os : Os) : World.Shaped Tryz.prog ((World.doorLaid Tryz.prog 400 os).forCall (fun _ _ => 0) ⟨#[], #[.agg (rawC 0 0 0 vec0 zeroBl none 0 0).toArray, .slice none 0 0], []⟩) := World.shaped_of_RefB (by kernel_rfl) (by kernel_rfl)
set_option maxRecDepth 100000 in
theorem msgBack_w2 (os : Os) : Input.okWideB Tryz.prog ((World.doorLaid Tryz.prog 400 os).forCall (fun _ _ => 0) ⟨#[], #[.agg (rawC 0 0 0 vec0 zeroBl none 0 0).toArray, .slice none 0 0], []⟩) 5 ⟨#[], #[.agg (rawC 0 0 0 vec0 zeroBl none 0 0).toArray, .slice none 0 0], []⟩ = true := by kernel_rfl
set_option maxRecDepth 100000 in
theorem msgBack_w3 (os : Os) {H : Type} (enc : TypeId × Value → H) : Rows.msgBackSpec.preB enc Tryz.prog Tryz.f5 [] false ((World.doorLaid Tryz.prog 400 os).forCall (fun _ _ => 0) ⟨#[], #[.agg (rawC 0 0 0 vec0 zeroBl none 0 0).toArray, .slice none 0 0], []⟩).memory #[.agg (rawC 0 0 0 vec0 zeroBl none 0 0).toArray, .slice none 0 0] 8 = true := by kernel_rfl
set_option maxRecDepth 100000 in
theorem msgBack_w4 (os : Os) {H : Type} (enc : TypeId × Value → H) : Rows.msgBackSpec.sizedB enc Tryz.prog Tryz.f5 false ((World.doorLaid Tryz.prog 400 os).forCall (fun _ _ => 0) ⟨#[], #[.agg (rawC 0 0 0 vec0 zeroBl none 0 0).toArray, .slice none 0 0], []⟩).memory #[.agg (rawC 0 0 0 vec0 zeroBl none 0 0).toArray, .slice none 0 0] 8 = true := by kernel_rfl
set_option maxRecDepth 100000 in
theorem msgBack_lifted (os : Os) (started : os.Started) (H : Type) (enc : TypeId × Value → H) :
    ReturnsInHanded {} Tryz.checked os 5 .any (fun w args => (Rows.msgBackSpec.pre enc Tryz.prog Tryz.f5 [] false w args ∧ laidMetH Tryz.prog laidL w) ∧ sizedMet enc Tryz.prog Tryz.f5 (OpenSpec.ofChange Rows.msgBackSpec) false w args)
      (Rows.msgBackSpec.post enc Tryz.prog Tryz.f5 false true false false) := by
  refine returnsInHanded_of_change_and (C := Tryz.checked) (X := fun w _ => laidMetH Tryz.prog laidL w) (fun _ _ _ hh h => h.of_heap hh) own started (by kernel_rfl) Tryz.func5
    (ChangeSpec.witness_shaped (enc := enc) (C := Tryz.checked) (os := os) (X := fun w _ => laidMetH Tryz.prog laidL w) false (World.doorLaid Tryz.prog 400 os) #[.agg (rawC 0 0 0 vec0 zeroBl none 0 0).toArray, .slice none 0 0] 8 rfl (msgBack_w1 os) (msgBack_w2 os) (msgBack_w3 os enc) (msgBack_w4 os enc) (door_met os _)) ?_
  intro W base args ds gs before hval0 hW _ _ hL _
  have hT := tabOk_of hL
  have hval : ∀ (j : Nat) t v, Tryz.f5.params[j]? = some t → args[j]? = some v → Value.okWide Tryz.prog W .any base t v := hval0
  have hW' := hW
  obtain ⟨p, q, hA0, hV, hps, hfz, hnd⟩ := hW
  have hA : DataW.TrodAll enc Tryz.prog W 0 (fun _ => true) true Tryz.f5.params.toList args.toList ds p := hA0
  rw [Tryz.params5] at hA hval
  obtain ⟨v0, vs0, d0, ds0, p0, q0, hargs, rfl, hp0, h0, r0⟩ := trodAll_cons hA
  obtain ⟨v1, vs1, d1, ds1, p1, q1, rfl, rfl, hp1, h1, r1⟩ := trodAll_cons r0
  obtain ⟨rfl, rfl, _⟩ := trodAll_nil r1
  obtain rfl : args = #[v0, v1] := by cases args; simp_all
  obtain ⟨rfl, _⟩ := trodVars_none hV
  obtain ⟨cs0, rfl, hs0⟩ := open_nest_struct (ks := shMsg) (by kernel_rfl) (by kernel_rfl) (hval 0 30 v0 rfl rfl) h0
  obtain ⟨a0, w0⟩ := msg_of hs0
  obtain ⟨A1, n1, c1, rows1, rfl, w1⟩ := open_rows (ks := [.int .u8]) Tryz.underlying35 (by kernel_rfl) (by kernel_rfl) (by decide) (hval 1 35 v1 rfl rfl) h1
  obtain ⟨bs1, hs1⟩ := w1.bytes
  refine (msgBack_walk W a0 cs0 w0 bs1 A1 n1 c1 hs1 hT).mono fun e W' ⟨he, bel⟩ => ?_
  subst he
  exact ⟨_, rfl, law_post (tb := 4) Tryz.underlying4 rfl (typesOk_of (by kernel_rfl)) hW' rfl rfl bel⟩
end Go.Proofs.YtdafiipedlglpaaGreatDoor
