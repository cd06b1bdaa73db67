/- The law CensusTexts: its witness, its walk lifted, what its program reaches. -/
import Derived.Test.YtihggkmjalofiaaGreatDoorStam
import Derived.Test.YtihggkmjalofiaaGreatDoorDoort
namespace Go.Proofs.YtihggkmjalofiaaGreatDoor
open Go.ChangeShapes Go.WideShapes Go.ChangeAt Go.RowKit Go.Deep

theorem censusTexts_k1 : (Rows.censusTextsRow.inPlace == Tryz.pinned.checked.prog.inPlace 10) = true := by kernel_rfl
theorem censusTexts_k2 : (Rows.censusTextsRow.unfollowed == Tryz.pinned.checked.prog.unfollowed 10) = true := by kernel_rfl
theorem censusTexts_k3 : (Rows.censusTextsRow.recurses == Tryz.pinned.checked.prog.recurses 10) = true := by kernel_rfl
theorem censusTexts_k4 : (Rows.censusTextsRow.named == Tryz.pinned.checked.prog.varsNamed 10) = true := by kernel_rfl
set_option maxRecDepth 100000 in
theorem censusTexts_w1 (os : Os) : World.Shaped Tryz.prog ((World.doorLaid Tryz.prog 400 os).forCall (fun _ _ => 0) ⟨#[], #[.slice none 0 0], []⟩) := World.shaped_of_RefB (by kernel_rfl) (by kernel_rfl)
set_option maxRecDepth 100000 in
theorem censusTexts_w2 (os : Os) : Input.okWideB Tryz.prog ((World.doorLaid Tryz.prog 400 os).forCall (fun _ _ => 0) ⟨#[], #[.slice none 0 0], []⟩) 10 ⟨#[], #[.slice none 0 0], []⟩ = true := by kernel_rfl
set_option maxRecDepth 100000 in
theorem censusTexts_w3 (os : Os) {H : Type} (enc : TypeId × Value → H) : Rows.censusTextsSpec.preB enc Tryz.prog Tryz.f10 [] false ((World.doorLaid Tryz.prog 400 os).forCall (fun _ _ => 0) ⟨#[], #[.slice none 0 0], []⟩).memory #[.slice none 0 0] 8 = true := by kernel_rfl
set_option maxRecDepth 100000 in
theorem censusTexts_w4 (os : Os) {H : Type} (enc : TypeId × Value → H) : Rows.censusTextsSpec.sizedB enc Tryz.prog Tryz.f10 false ((World.doorLaid Tryz.prog 400 os).forCall (fun _ _ => 0) ⟨#[], #[.slice none 0 0], []⟩).memory #[.slice none 0 0] 8 = true := by kernel_rfl
set_option maxRecDepth 100000 in
theorem censusTexts_lifted (os : Os) (started : os.Started) (H : Type) (enc : TypeId × Value → H) :
  ReturnsInHanded {} Tryz.checked os 10 .any (fun w args => (Rows.censusTextsSpec.pre enc Tryz.prog Tryz.f10 [] false w args ∧ laidMetH Tryz.prog laidL w) ∧ sizedMet enc Tryz.prog Tryz.f10 (OpenSpec.ofChange Rows.censusTextsSpec) false w args)
   (Rows.censusTextsSpec.post enc Tryz.prog Tryz.f10 false true false false) := by
 refine returnsInHanded_of_change_and (C := Tryz.checked) (X := fun w _ => laidMetH Tryz.prog laidL w) (fun _ _ _ hh h => h.of_heap hh) own started (by kernel_rfl) Tryz.func10
  (ChangeSpec.witness_shaped (enc := enc) (C := Tryz.checked) (os := os) (X := fun w _ => laidMetH Tryz.prog laidL w) false (World.doorLaid Tryz.prog 400 os) #[.slice none 0 0] 8 rfl (censusTexts_w1 os) (censusTexts_w2 os) (censusTexts_w3 os enc) (censusTexts_w4 os enc) (door_met os _)) ?_
 intro W base args ds gs before hval0 hW _ _ hL _
 have hT := tabOk_of hL
 have hval : ∀ (j : Nat) t v, Tryz.f10.params[j]? = some t → args[j]? = some v → Value.okWide Tryz.prog W .any base t v := hval0
 have hW' := hW
 obtain ⟨p, q, hA0, hV, hps, hfz, hnd⟩ := hW
 have hA : DataW.TrodAll enc Tryz.prog W 0 (fun _ => true) true Tryz.f10.params.toList args.toList ds p := hA0
 rw [Tryz.params10] at hA hval
 obtain ⟨v0, vs0, d0, ds0, p0, q0, hargs, rfl, hp0, h0, r0⟩ := trodAll_cons hA
 obtain ⟨rfl, rfl, _⟩ := trodAll_nil r0
 obtain rfl : args = #[v0] := by cases args; simp_all
 obtain ⟨rfl, _⟩ := trodVars_none hV
 obtain ⟨A0, n0, c0, rows0, rfl, w0⟩ := open_rows (ks := [.int .u8, .int .i64, .int .i64, .int .i64, .int .i64, .int .i64, .int .i64, .int .i64, .int .i64]) Tryz.underlying104 (by kernel_rfl) (by kernel_rfl) (by decide) (hval 0 104 v0 rfl rfl) h0
 obtain ⟨R0, hA0, hn0, hs0⟩ := rows54_of w0
 refine (censusTexts_walk W R0 hA0 A0 n0 c0 (Nat.le_trans w0.le w0.cap) hn0 hs0 hT).mono fun e W' ⟨he, bel⟩ => ?_
 subst he
 exact ⟨_, rfl, law_post (tb := 4) Tryz.underlying4 rfl (typesOk_of (by kernel_rfl)) hW' rfl rfl bel⟩
end Go.Proofs.YtihggkmjalofiaaGreatDoor
