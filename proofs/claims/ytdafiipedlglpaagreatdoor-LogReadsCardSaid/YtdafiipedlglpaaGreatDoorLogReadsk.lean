/- The law LogReads: its witness, its walk lifted, what its program reaches. -/
import Derived.Test.YtdafiipedlglpaaGreatDoorLogz
import Derived.Test.YtdafiipedlglpaaGreatDoorDoorm
namespace Go.Proofs.YtdafiipedlglpaaGreatDoor
open Go.ChangeShapes Go.WideShapes Go.ChangeAt Go.RowKit Go.Deep

theorem logReads_k1 : (Rows.logReadsRow.inPlace == Tryz.pinned.checked.prog.inPlace 8) = true := by kernel_rfl
theorem logReads_k2 : (Rows.logReadsRow.unfollowed == Tryz.pinned.checked.prog.unfollowed 8) = true := by kernel_rfl
theorem logReads_k3 : (Rows.logReadsRow.recurses == Tryz.pinned.checked.prog.recurses 8) = true := by kernel_rfl
theorem logReads_k4 : (Rows.logReadsRow.named == Tryz.pinned.checked.prog.varsNamed 8) = true := by kernel_rfl
set_option maxRecDepth 100000 in
theorem logReads_w1 (os : Os) : World.Shaped Tryz.prog ((World.doorLaid Tryz.prog 400 os).forCall (fun _ _ => 0) ⟨#[], #[.slice none 0 0, .slice none 0 0], []⟩) := World.shaped_of_RefB (by kernel_rfl) (by kernel_rfl)
set_option maxRecDepth 100000 in
theorem logReads_w2 (os : Os) : Input.okWideB Tryz.prog ((World.doorLaid Tryz.prog 400 os).forCall (fun _ _ => 0) ⟨#[], #[.slice none 0 0, .slice none 0 0], []⟩) 8 ⟨#[], #[.slice none 0 0, .slice none 0 0], []⟩ = true := by kernel_rfl
set_option maxRecDepth 100000 in
theorem logReads_w3 (os : Os) {H : Type} (enc : TypeId × Value → H) : Rows.logReadsSpec.preB enc Tryz.prog Tryz.f8 [] false ((World.doorLaid Tryz.prog 400 os).forCall (fun _ _ => 0) ⟨#[], #[.slice none 0 0, .slice none 0 0], []⟩).memory #[.slice none 0 0, .slice none 0 0] 8 = true := by kernel_rfl
set_option maxRecDepth 100000 in
theorem logReads_w4 (os : Os) {H : Type} (enc : TypeId × Value → H) : Rows.logReadsSpec.sizedB enc Tryz.prog Tryz.f8 false ((World.doorLaid Tryz.prog 400 os).forCall (fun _ _ => 0) ⟨#[], #[.slice none 0 0, .slice none 0 0], []⟩).memory #[.slice none 0 0, .slice none 0 0] 8 = true := by kernel_rfl
set_option maxRecDepth 100000 in
theorem logReads_lifted (os : Os) (started : os.Started) (H : Type) (enc : TypeId × Value → H) :
    ReturnsInHanded {} Tryz.checked os 8 .any (fun w args => (Rows.logReadsSpec.pre enc Tryz.prog Tryz.f8 [] false w args ∧ laidMetH Tryz.prog laidL w) ∧ sizedMet enc Tryz.prog Tryz.f8 (OpenSpec.ofChange Rows.logReadsSpec) false w args)
      (Rows.logReadsSpec.post enc Tryz.prog Tryz.f8 false true false false) := by
  refine returnsInHanded_of_change_and (C := Tryz.checked) (X := fun w _ => laidMetH Tryz.prog laidL w) (fun _ _ _ hh h => h.of_heap hh) own started (by kernel_rfl) Tryz.func8
    (ChangeSpec.witness_shaped (enc := enc) (C := Tryz.checked) (os := os) (X := fun w _ => laidMetH Tryz.prog laidL w) false (World.doorLaid Tryz.prog 400 os) #[.slice none 0 0, .slice none 0 0] 8 rfl (logReads_w1 os) (logReads_w2 os) (logReads_w3 os enc) (logReads_w4 os enc) (door_met os _)) ?_
  intro W base args ds gs before hval0 hW _ _ hL _
  have hT := tabOk_of hL
  have hval : ∀ (j : Nat) t v, Tryz.f8.params[j]? = some t → args[j]? = some v → Value.okWide Tryz.prog W .any base t v := hval0
  have hW' := hW
  obtain ⟨p, q, hA0, hV, hps, hfz, hnd⟩ := hW
  have hA : DataW.TrodAll enc Tryz.prog W 0 (fun _ => true) true Tryz.f8.params.toList args.toList ds p := hA0
  rw [Tryz.params8] at hA hval
  obtain ⟨v0, vs0, d0, ds0, p0, q0, hargs, rfl, hp0, h0, r0⟩ := trodAll_cons hA
  obtain ⟨v1, vs1, d1, ds1, p1, q1, rfl, rfl, hp1, h1, r1⟩ := trodAll_cons r0
  obtain ⟨rfl, rfl, _⟩ := trodAll_nil r1
  obtain rfl : args = #[v0, v1] := by cases args; simp_all
  obtain ⟨rfl, _⟩ := trodVars_none hV
  obtain ⟨A0, n0, c0, rows0, rfl, w0⟩ := open_rows (ks := [.int .u8]) Tryz.underlying35 (by kernel_rfl) (by kernel_rfl) (by decide) (hval 0 35 v0 rfl rfl) h0
  obtain ⟨bs0, hs0⟩ := w0.bytes
  obtain ⟨A1, n1, c1, rows1, rfl, hle1, hcm1, hrl1, hro1, hrs1⟩ := open_nest_slice (es := shAct30) Tryz.underlying50 (by kernel_rfl) (hval 1 50 v1 rfl rfl) h1
  obtain ⟨l1, w1⟩ := acts30_of hrl1 hro1 hrs1
  refine (logReads_walk W bs0 A0 n0 c0 hs0 l1 A1 n1 c1 (Nat.le_trans hle1 hcm1) w1 hT).mono fun e W' ⟨he, bel⟩ => ?_
  subst he
  exact ⟨_, rfl, law_post (tb := 4) Tryz.underlying4 rfl (typesOk_of (by kernel_rfl)) hW' rfl rfl bel⟩
end Go.Proofs.YtdafiipedlglpaaGreatDoor
