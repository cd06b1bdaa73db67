/- The law MsgBytes: its witness, its walk lifted, what its program reaches. -/
import Derived.Test.YtdafiipedlglpaaGreatDoorMsgq
import Derived.Test.YtdafiipedlglpaaGreatDoorMsgz
namespace Go.Proofs.YtdafiipedlglpaaGreatDoor
open Go.ChangeShapes Go.WideShapes Go.ChangeAt Go.RowKit Go.Deep

theorem msgBytes_k1 : (Rows.msgBytesRow.inPlace == Tryz.pinned.checked.prog.inPlace 4) = true := by kernel_rfl
theorem msgBytes_k2 : (Rows.msgBytesRow.unfollowed == Tryz.pinned.checked.prog.unfollowed 4) = true := by kernel_rfl
theorem msgBytes_k3 : (Rows.msgBytesRow.recurses == Tryz.pinned.checked.prog.recurses 4) = true := by kernel_rfl
theorem msgBytes_k4 : (Rows.msgBytesRow.named == Tryz.pinned.checked.prog.varsNamed 4) = true := by kernel_rfl
set_option maxRecDepth 100000 in
theorem msgBytes_w1 (os : Os) : World.Shaped Tryz.prog ((World.doorLaid Tryz.prog 400 os).forCall (fun _ _ => 0) ⟨#[], #[.agg (rawC 0 0 0 vec0 zeroBl none 0 0).toArray, .slice none 0 0, .bool false], []⟩) := World.shaped_of_RefB (by kernel_rfl) (by kernel_rfl)
set_option maxRecDepth 100000 in
theorem msgBytes_w2 (os : Os) : Input.okWideB Tryz.prog ((World.doorLaid Tryz.prog 400 os).forCall (fun _ _ => 0) ⟨#[], #[.agg (rawC 0 0 0 vec0 zeroBl none 0 0).toArray, .slice none 0 0, .bool false], []⟩) 4 ⟨#[], #[.agg (rawC 0 0 0 vec0 zeroBl none 0 0).toArray, .slice none 0 0, .bool false], []⟩ = true := by kernel_rfl
set_option maxRecDepth 100000 in
theorem msgBytes_w3 (os : Os) {H : Type} (enc : TypeId × Value → H) : Rows.msgBytesSpec.preB enc Tryz.prog Tryz.f4 [] false ((World.doorLaid Tryz.prog 400 os).forCall (fun _ _ => 0) ⟨#[], #[.agg (rawC 0 0 0 vec0 zeroBl none 0 0).toArray, .slice none 0 0, .bool false], []⟩).memory #[.agg (rawC 0 0 0 vec0 zeroBl none 0 0).toArray, .slice none 0 0, .bool false] 8 = true := by kernel_rfl
set_option maxRecDepth 100000 in
theorem msgBytes_w4 (os : Os) {H : Type} (enc : TypeId × Value → H) : Rows.msgBytesSpec.sizedB enc Tryz.prog Tryz.f4 false ((World.doorLaid Tryz.prog 400 os).forCall (fun _ _ => 0) ⟨#[], #[.agg (rawC 0 0 0 vec0 zeroBl none 0 0).toArray, .slice none 0 0, .bool false], []⟩).memory #[.agg (rawC 0 0 0 vec0 zeroBl none 0 0).toArray, .slice none 0 0, .bool false] 8 = true := by kernel_rfl
set_option maxRecDepth 100000 in
theorem msgBytes_lifted (os : Os) (started : os.Started) (H : Type) (enc : TypeId × Value → H) :
    ReturnsInHanded {} Tryz.checked os 4 .any (fun w args => (Rows.msgBytesSpec.pre enc Tryz.prog Tryz.f4 [] false w args ∧ laidMetH Tryz.prog laidL w) ∧ sizedMet enc Tryz.prog Tryz.f4 (OpenSpec.ofChange Rows.msgBytesSpec) false w args)
      (Rows.msgBytesSpec.post enc Tryz.prog Tryz.f4 false true false false) := by
  refine returnsInHanded_of_change_and (C := Tryz.checked) (X := fun w _ => laidMetH Tryz.prog laidL w) (fun _ _ _ hh h => h.of_heap hh) own started (by kernel_rfl) Tryz.func4
    (ChangeSpec.witness_shaped (enc := enc) (C := Tryz.checked) (os := os) (X := fun w _ => laidMetH Tryz.prog laidL w) false (World.doorLaid Tryz.prog 400 os) #[.agg (rawC 0 0 0 vec0 zeroBl none 0 0).toArray, .slice none 0 0, .bool false] 8 rfl (msgBytes_w1 os) (msgBytes_w2 os) (msgBytes_w3 os enc) (msgBytes_w4 os enc) (door_met os _)) ?_
  intro W base args ds gs before hval0 hW _ _ hL _
  have hT := tabOk_of hL
  have hval : ∀ (j : Nat) t v, Tryz.f4.params[j]? = some t → args[j]? = some v → Value.okWide Tryz.prog W .any base t v := hval0
  have hW' := hW
  obtain ⟨p, q, hA0, hV, hps, hfz, hnd⟩ := hW
  have hA : DataW.TrodAll enc Tryz.prog W 0 (fun _ => true) true Tryz.f4.params.toList args.toList ds p := hA0
  rw [Tryz.params4] at hA hval
  obtain ⟨v0, vs0, d0, ds0, p0, q0, hargs, rfl, hp0, h0, r0⟩ := trodAll_cons hA
  obtain ⟨v1, vs1, d1, ds1, p1, q1, rfl, rfl, hp1, h1, r1⟩ := trodAll_cons r0
  obtain ⟨v2, vs2, d2, ds2, p2, q2, rfl, rfl, hp2, h2, r2⟩ := trodAll_cons r1
  obtain ⟨rfl, rfl, _⟩ := trodAll_nil r2
  obtain rfl : args = #[v0, v1, v2] := by cases args; simp_all
  obtain ⟨rfl, _⟩ := trodVars_none hV
  obtain ⟨cs0, rfl, hs0⟩ := open_nest_struct (ks := shMsg) (by kernel_rfl) (by kernel_rfl) (hval 0 30 v0 rfl rfl) h0
  obtain ⟨a0, w0⟩ := msg_of hs0
  obtain ⟨A1, n1, c1, rows1, rfl, w1⟩ := open_rows (ks := [.int .u8]) Tryz.underlying35 (by kernel_rfl) (by kernel_rfl) (by decide) (hval 1 35 v1 rfl rfl) h1
  obtain ⟨bs1, hs1⟩ := w1.bytes
  obtain ⟨a2, rfl, rfl, rfl⟩ := open_bool Tryz.underlying4 (hval 2 4 v2 rfl rfl) h2
  refine (msgBytes_walk W a0 cs0 w0 bs1 A1 n1 c1 hs1 a2 hT).mono fun e W' ⟨he, bel⟩ => ?_
  subst he
  exact ⟨_, rfl, law_post (tb := 4) Tryz.underlying4 rfl (typesOk_of (by kernel_rfl)) hW' rfl rfl bel⟩
end Go.Proofs.YtdafiipedlglpaaGreatDoor
