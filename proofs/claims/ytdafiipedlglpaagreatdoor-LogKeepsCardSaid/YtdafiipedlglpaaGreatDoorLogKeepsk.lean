/- The law LogKeeps: its witness, its walk lifted, what its program reaches. -/
import Derived.Test.YtdafiipedlglpaaGreatDoorLogo
import Derived.Test.YtdafiipedlglpaaGreatDoorDoorm
namespace Go.Proofs.YtdafiipedlglpaaGreatDoor
open Go.ChangeShapes Go.WideShapes Go.ChangeAt Go.RowKit Go.Deep

theorem logKeeps_k1 : (Rows.logKeepsRow.inPlace == Tryz.pinned.checked.prog.inPlace 9) = true := by kernel_rfl
theorem logKeeps_k2 : (Rows.logKeepsRow.unfollowed == Tryz.pinned.checked.prog.unfollowed 9) = true := by kernel_rfl
theorem logKeeps_k3 : (Rows.logKeepsRow.recurses == Tryz.pinned.checked.prog.recurses 9) = true := by kernel_rfl
theorem logKeeps_k4 : (Rows.logKeepsRow.named == Tryz.pinned.checked.prog.varsNamed 9) = true := by kernel_rfl
set_option maxRecDepth 100000 in
theorem logKeeps_w1 (os : Os) : World.Shaped Tryz.prog ((World.doorLaid Tryz.prog 400 os).forCall (fun _ _ => 0) ⟨#[], #[.slice none 0 0, .int .i64 0, .agg #[.int .u8 0, .int .u16 0, .slice none 0 0, .slice none 0 0]], []⟩) := World.shaped_of_RefB (by kernel_rfl) (by kernel_rfl)
set_option maxRecDepth 100000 in
theorem logKeeps_w2 (os : Os) : Input.okWideB Tryz.prog ((World.doorLaid Tryz.prog 400 os).forCall (fun _ _ => 0) ⟨#[], #[.slice none 0 0, .int .i64 0, .agg #[.int .u8 0, .int .u16 0, .slice none 0 0, .slice none 0 0]], []⟩) 9 ⟨#[], #[.slice none 0 0, .int .i64 0, .agg #[.int .u8 0, .int .u16 0, .slice none 0 0, .slice none 0 0]], []⟩ = true := by kernel_rfl
set_option maxRecDepth 100000 in
theorem logKeeps_w3 (os : Os) {H : Type} (enc : TypeId × Value → H) : Rows.logKeepsSpec.preB enc Tryz.prog Tryz.f9 [] false ((World.doorLaid Tryz.prog 400 os).forCall (fun _ _ => 0) ⟨#[], #[.slice none 0 0, .int .i64 0, .agg #[.int .u8 0, .int .u16 0, .slice none 0 0, .slice none 0 0]], []⟩).memory #[.slice none 0 0, .int .i64 0, .agg #[.int .u8 0, .int .u16 0, .slice none 0 0, .slice none 0 0]] 8 = true := by kernel_rfl
set_option maxRecDepth 100000 in
theorem logKeeps_w4 (os : Os) {H : Type} (enc : TypeId × Value → H) : Rows.logKeepsSpec.sizedB enc Tryz.prog Tryz.f9 false ((World.doorLaid Tryz.prog 400 os).forCall (fun _ _ => 0) ⟨#[], #[.slice none 0 0, .int .i64 0, .agg #[.int .u8 0, .int .u16 0, .slice none 0 0, .slice none 0 0]], []⟩).memory #[.slice none 0 0, .int .i64 0, .agg #[.int .u8 0, .int .u16 0, .slice none 0 0, .slice none 0 0]] 8 = true := by kernel_rfl
set_option maxRecDepth 100000 in
theorem logKeeps_lifted (os : Os) (started : os.Started) (H : Type) (enc : TypeId × Value → H) :
    ReturnsInHanded {} Tryz.checked os 9 .any (fun w args => (Rows.logKeepsSpec.pre enc Tryz.prog Tryz.f9 [] false w args ∧ laidMetH Tryz.prog laidL w) ∧ sizedMet enc Tryz.prog Tryz.f9 (OpenSpec.ofChange Rows.logKeepsSpec) false w args)
      (Rows.logKeepsSpec.post enc Tryz.prog Tryz.f9 false true false false) := by
  refine returnsInHanded_of_change_and (C := Tryz.checked) (X := fun w _ => laidMetH Tryz.prog laidL w) (fun _ _ _ hh h => h.of_heap hh) own started (by kernel_rfl) Tryz.func9
    (ChangeSpec.witness_shaped (enc := enc) (C := Tryz.checked) (os := os) (X := fun w _ => laidMetH Tryz.prog laidL w) false (World.doorLaid Tryz.prog 400 os) #[.slice none 0 0, .int .i64 0, .agg #[.int .u8 0, .int .u16 0, .slice none 0 0, .slice none 0 0]] 8 rfl (logKeeps_w1 os) (logKeeps_w2 os) (logKeeps_w3 os enc) (logKeeps_w4 os enc) (door_met os _)) ?_
  intro W base args ds gs before hval0 hW _ _ hL _
  have hT := tabOk_of hL
  have hval : ∀ (j : Nat) t v, Tryz.f9.params[j]? = some t → args[j]? = some v → Value.okWide Tryz.prog W .any base t v := hval0
  have hW' := hW
  obtain ⟨p, q, hA0, hV, hps, hfz, hnd⟩ := hW
  have hA : DataW.TrodAll enc Tryz.prog W 0 (fun _ => true) true Tryz.f9.params.toList args.toList ds p := hA0
  rw [Tryz.params9] at hA hval
  obtain ⟨v0, vs0, d0, ds0, p0, q0, hargs, rfl, hp0, h0, r0⟩ := trodAll_cons hA
  obtain ⟨v1, vs1, d1, ds1, p1, q1, rfl, rfl, hp1, h1, r1⟩ := trodAll_cons r0
  obtain ⟨v2, vs2, d2, ds2, p2, q2, rfl, rfl, hp2, h2, r2⟩ := trodAll_cons r1
  obtain ⟨rfl, rfl, _⟩ := trodAll_nil r2
  obtain rfl : args = #[v0, v1, v2] := by cases args; simp_all
  obtain ⟨rfl, _⟩ := trodVars_none hV
  obtain ⟨A0, n0, c0, rows0, rfl, hle0, hcm0, hrl0, hro0, hrs0⟩ := open_nest_slice (es := shAct30) Tryz.underlying50 (by kernel_rfl) (hval 0 50 v0 rfl rfl) h0
  obtain ⟨l0, w0⟩ := acts30_of hrl0 hro0 hrs0
  obtain ⟨a1, rfl, rfl, rfl, w1⟩ := open_int Tryz.underlying3 (hval 1 3 v1 rfl rfl) h1
  obtain ⟨cs2, rfl, hs2⟩ := open_nest_struct (ks := shPat) (by kernel_rfl) (by kernel_rfl) (hval 2 64 v2 rfl rfl) h2
  obtain ⟨a2, w2⟩ := pat_of hs2
  refine (logKeeps_walk W l0 A0 n0 c0 (Nat.le_trans hle0 hcm0) w0 a1 (i64_of w1).1 (i64_of w1).2 a2 cs2 w2 hT).mono fun e W' ⟨he, bel⟩ => ?_
  subst he
  exact ⟨_, rfl, law_post (tb := 4) Tryz.underlying4 rfl (typesOk_of (by kernel_rfl)) hW' rfl rfl bel⟩
end Go.Proofs.YtdafiipedlglpaaGreatDoor
