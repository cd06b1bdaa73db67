/- The law LogNil: its witness, its walk lifted, what its program reaches. -/
import Derived.Test.YtdafiipedlglpaaDoorLogq
import Derived.Test.YtdafiipedlglpaaDoorDoorl
namespace Go.Proofs.YtdafiipedlglpaaDoor
open Go.ChangeShapes Go.WideShapes Go.ChangeAt Go.RowKit Go.Deep

theorem logNil_k1 : (Rows.logNilRow.inPlace == Tryd.pinned.checked.prog.inPlace 3) = true := by kernel_rfl
theorem logNil_k2 : (Rows.logNilRow.unfollowed == Tryd.pinned.checked.prog.unfollowed 3) = true := by kernel_rfl
theorem logNil_k3 : (Rows.logNilRow.recurses == Tryd.pinned.checked.prog.recurses 3) = true := by kernel_rfl
theorem logNil_k4 : (Rows.logNilRow.named == Tryd.pinned.checked.prog.varsNamed 3) = true := by kernel_rfl
set_option maxRecDepth 100000 in
theorem logNil_w1 (os : Os) : World.Shaped Tryd.prog ((World.doorLaid Tryd.prog 400 os).forCall (fun _ _ => 0) ⟨#[], #[.agg #[.int .u8 0, .int .u16 0, .slice none 0 0, .slice none 0 0]], []⟩) := World.shaped_of_RefB (by kernel_rfl) (by kernel_rfl)
set_option maxRecDepth 100000 in
theorem logNil_w2 (os : Os) : Input.okWideB Tryd.prog ((World.doorLaid Tryd.prog 400 os).forCall (fun _ _ => 0) ⟨#[], #[.agg #[.int .u8 0, .int .u16 0, .slice none 0 0, .slice none 0 0]], []⟩) 3 ⟨#[], #[.agg #[.int .u8 0, .int .u16 0, .slice none 0 0, .slice none 0 0]], []⟩ = true := by kernel_rfl
set_option maxRecDepth 100000 in
theorem logNil_w3 (os : Os) {H : Type} (enc : TypeId × Value → H) : Rows.logNilSpec.preB enc Tryd.prog Tryd.f3 [] false ((World.doorLaid Tryd.prog 400 os).forCall (fun _ _ => 0) ⟨#[], #[.agg #[.int .u8 0, .int .u16 0, .slice none 0 0, .slice none 0 0]], []⟩).memory #[.agg #[.int .u8 0, .int .u16 0, .slice none 0 0, .slice none 0 0]] 8 = true := by kernel_rfl
set_option maxRecDepth 100000 in
theorem logNil_w4 (os : Os) {H : Type} (enc : TypeId × Value → H) : Rows.logNilSpec.sizedB enc Tryd.prog Tryd.f3 false ((World.doorLaid Tryd.prog 400 os).forCall (fun _ _ => 0) ⟨#[], #[.agg #[.int .u8 0, .int .u16 0, .slice none 0 0, .slice none 0 0]], []⟩).memory #[.agg #[.int .u8 0, .int .u16 0, .slice none 0 0, .slice none 0 0]] 8 = true := by kernel_rfl
set_option maxRecDepth 100000 in
theorem logNil_lifted (os : Os) (started : os.Started) (H : Type) (enc : TypeId × Value → H) :
    ReturnsInHanded {} Tryd.checked os 3 .any (fun w args => (Rows.logNilSpec.pre enc Tryd.prog Tryd.f3 [] false w args ∧ laidMetH Tryd.prog laidL w) ∧ sizedMet enc Tryd.prog Tryd.f3 (OpenSpec.ofChange Rows.logNilSpec) false w args)
      (Rows.logNilSpec.post enc Tryd.prog Tryd.f3 false true false false) := by
  refine returnsInHanded_of_change_and (C := Tryd.checked) (X := fun w _ => laidMetH Tryd.prog laidL w) (fun _ _ _ hh h => h.of_heap hh) own started (by kernel_rfl) Tryd.func3
    (ChangeSpec.witness_shaped (enc := enc) (C := Tryd.checked) (os := os) (X := fun w _ => laidMetH Tryd.prog laidL w) false (World.doorLaid Tryd.prog 400 os) #[.agg #[.int .u8 0, .int .u16 0, .slice none 0 0, .slice none 0 0]] 8 rfl (logNil_w1 os) (logNil_w2 os) (logNil_w3 os enc) (logNil_w4 os enc) (door_met os _)) ?_
  intro W base args ds gs before hval0 hW _ _ hL _
  have hT := tabOk_of hL
  have hval : ∀ (j : Nat) t v, Tryd.f3.params[j]? = some t → args[j]? = some v → Value.okWide Tryd.prog W .any base t v := hval0
  have hW' := hW
  obtain ⟨p, q, hA0, hV, hps, hfz, hnd⟩ := hW
  have hA : DataW.TrodAll enc Tryd.prog W 0 (fun _ => true) true Tryd.f3.params.toList args.toList ds p := hA0
  rw [Tryd.params3] at hA hval
  obtain ⟨v0, vs0, d0, ds0, p0, q0, hargs, rfl, hp0, h0, r0⟩ := trodAll_cons hA
  obtain ⟨rfl, rfl, _⟩ := trodAll_nil r0
  obtain rfl : args = #[v0] := by cases args; simp_all
  obtain ⟨rfl, _⟩ := trodVars_none hV
  obtain ⟨cs0, rfl, hs0⟩ := open_nest_struct (ks := shPat) (by kernel_rfl) (by kernel_rfl) (hval 0 28 v0 rfl rfl) h0
  obtain ⟨a0, w0⟩ := pat_of hs0
  refine (logNil_walk W a0 cs0 w0 hT).mono fun e W' ⟨he, bel⟩ => ?_
  subst he
  exact ⟨_, rfl, law_post (tb := 4) Tryd.underlying4 rfl (typesOk_of (by kernel_rfl)) hW' rfl rfl bel⟩
end Go.Proofs.YtdafiipedlglpaaDoor
