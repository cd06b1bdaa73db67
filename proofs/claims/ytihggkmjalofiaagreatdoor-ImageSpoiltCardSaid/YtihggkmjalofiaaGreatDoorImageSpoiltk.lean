/- The law ImageSpoilt: its witness, its walk lifted, what its program reaches. -/
import Derived.Test.YtihggkmjalofiaaGreatDoorImgs
import Derived.Test.YtihggkmjalofiaaGreatDoorDoorz
namespace Go.Proofs.YtihggkmjalofiaaGreatDoor
open Go.ChangeShapes Go.WideShapes Go.ChangeAt Go.RowKit Go.Deep

theorem imageSpoilt_k1 : (Rows.imageSpoiltRow.inPlace == Tryz.pinned.checked.prog.inPlace 5) = true := by kernel_rfl
theorem imageSpoilt_k2 : (Rows.imageSpoiltRow.unfollowed == Tryz.pinned.checked.prog.unfollowed 5) = true := by kernel_rfl
theorem imageSpoilt_k3 : (Rows.imageSpoiltRow.recurses == Tryz.pinned.checked.prog.recurses 5) = true := by kernel_rfl
theorem imageSpoilt_k4 : (Rows.imageSpoiltRow.named == Tryz.pinned.checked.prog.varsNamed 5) = true := by kernel_rfl
set_option maxRecDepth 100000 in
theorem imageSpoilt_w1 (os : Os) : World.Shaped Tryz.prog ((World.doorLaid Tryz.prog 400 os).forCall (fun _ _ => 0) ⟨#[], #[.slice none 0 0, .agg #[.int .u16 0, .int .u8 0, .bool false]], []⟩) := World.shaped_of_RefB (by kernel_rfl) (by kernel_rfl)
set_option maxRecDepth 100000 in
theorem imageSpoilt_w2 (os : Os) : Input.okWideB Tryz.prog ((World.doorLaid Tryz.prog 400 os).forCall (fun _ _ => 0) ⟨#[], #[.slice none 0 0, .agg #[.int .u16 0, .int .u8 0, .bool false]], []⟩) 5 ⟨#[], #[.slice none 0 0, .agg #[.int .u16 0, .int .u8 0, .bool false]], []⟩ = true := by kernel_rfl
set_option maxRecDepth 100000 in
theorem imageSpoilt_w3 (os : Os) {H : Type} (enc : TypeId × Value → H) : Rows.imageSpoiltSpec.preB enc Tryz.prog Tryz.f5 [] false ((World.doorLaid Tryz.prog 400 os).forCall (fun _ _ => 0) ⟨#[], #[.slice none 0 0, .agg #[.int .u16 0, .int .u8 0, .bool false]], []⟩).memory #[.slice none 0 0, .agg #[.int .u16 0, .int .u8 0, .bool false]] 8 = true := by kernel_rfl
set_option maxRecDepth 100000 in
theorem imageSpoilt_w4 (os : Os) {H : Type} (enc : TypeId × Value → H) : Rows.imageSpoiltSpec.sizedB enc Tryz.prog Tryz.f5 false ((World.doorLaid Tryz.prog 400 os).forCall (fun _ _ => 0) ⟨#[], #[.slice none 0 0, .agg #[.int .u16 0, .int .u8 0, .bool false]], []⟩).memory #[.slice none 0 0, .agg #[.int .u16 0, .int .u8 0, .bool false]] 8 = true := by kernel_rfl
set_option maxRecDepth 100000 in
theorem imageSpoilt_lifted (os : Os) (started : os.Started) (H : Type) (enc : TypeId × Value → H) :
    ReturnsInHanded {} Tryz.checked os 5 .any (fun w args => (Rows.imageSpoiltSpec.pre enc Tryz.prog Tryz.f5 [] false w args ∧ laidMetH Tryz.prog laidL w) ∧ sizedMet enc Tryz.prog Tryz.f5 (OpenSpec.ofChange Rows.imageSpoiltSpec) false w args)
      (Rows.imageSpoiltSpec.post enc Tryz.prog Tryz.f5 false true false false) := by
  refine returnsInHanded_of_change_and (C := Tryz.checked) (X := fun w _ => laidMetH Tryz.prog laidL w) (fun _ _ _ hh h => h.of_heap hh) own started (by kernel_rfl) Tryz.func5
    (ChangeSpec.witness_shaped (enc := enc) (C := Tryz.checked) (os := os) (X := fun w _ => laidMetH Tryz.prog laidL w) false (World.doorLaid Tryz.prog 400 os) #[.slice none 0 0, .agg #[.int .u16 0, .int .u8 0, .bool false]] 8 rfl (imageSpoilt_w1 os) (imageSpoilt_w2 os) (imageSpoilt_w3 os enc) (imageSpoilt_w4 os enc) (door_met os _)) ?_
  intro W base args ds gs before hval0 hW _ _ hL _
  have hT := tabOk_of hL
  have hval : ∀ (j : Nat) t v, Tryz.f5.params[j]? = some t → args[j]? = some v → Value.okWide Tryz.prog W .any base t v := hval0
  have hW' := hW
  obtain ⟨p, q, hA0, hV, hps, hfz, hnd⟩ := hW
  have hA : DataW.TrodAll enc Tryz.prog W 0 (fun _ => true) true Tryz.f5.params.toList args.toList ds p := hA0
  rw [Tryz.params5] at hA hval
  obtain ⟨v0, vs0, d0, ds0, p0, q0, hargs, rfl, hp0, h0, r0⟩ := trodAll_cons hA
  obtain ⟨v1, vs1, d1, ds1, p1, q1, rfl, rfl, hp1, h1, r1⟩ := trodAll_cons r0
  obtain ⟨rfl, rfl, _⟩ := trodAll_nil r1
  obtain rfl : args = #[v0, v1] := by cases args; simp_all
  obtain ⟨rfl, _⟩ := trodVars_none hV
  obtain ⟨A0, n0, c0, rows0, rfl, hle0, hcm0, hrl0, hro0, hrs0⟩ := open_nest_slice (es := shPat) Tryz.underlying22 (by kernel_rfl) (hval 0 22 v0 rfl rfl) h0
  obtain ⟨l0, w0⟩ := pats_of hrl0 hro0 hrs0
  obtain ⟨a1, rfl, w1⟩ := open_flat (ks := [.int .u16, .int .u8, .bool]) (by kernel_rfl) (by kernel_rfl) (hval 1 57 v1 rfl rfl) h1
  refine (imageSpoilt_walk W l0 A0 n0 c0 (Nat.le_trans hle0 hcm0) w0 a1 w1 hT).mono fun e W' ⟨he, bel⟩ => ?_
  subst he
  exact ⟨_, rfl, law_post (tb := 4) Tryz.underlying4 rfl (typesOk_of (by kernel_rfl)) hW' rfl rfl bel⟩
end Go.Proofs.YtihggkmjalofiaaGreatDoor
