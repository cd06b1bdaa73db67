/- OF ANY TWO NAMES OF VERTICES: whether any may be, how they stand, either way, and what they are called, is as the document says. No condition; the listed variables of Go's library are tied to its text. -/
import Derived.Test.YtmfdggolnfoniaaDoorVidLawsw
import Derived.Test.YtmfdggolnfoniaaDoorDoorc
namespace Go.Proofs.YtmfdggolnfoniaaDoor
open Go.ChangeShapes Go.WideShapes Go.ChangeAt Go.RowKit

theorem vidV_of : ∀ {cs : List Value}, FlatOk [.int .u8, .int .u16, .int .u8] cs → ∃ p : VidV, cs = encV p
  | [_, _, _], ⟨⟨a, rfl, ha⟩, ⟨s, rfl, hs⟩, ⟨n, rfl, hn⟩, _⟩ => by
    simp [Lit.wf, IntKind.min, IntKind.max, IntKind.signed, IntKind.bits] at ha hs hn
    refine ⟨((⟨a.toNat, by omega⟩, ⟨s.toNat, by omega⟩), ⟨n.toNat, by omega⟩), ?_⟩
    simp only [encV]
    rw [Int.toNat_of_nonneg (by omega), Int.toNat_of_nonneg (by omega), Int.toNat_of_nonneg (by omega)]
theorem vidTells_walk (c0 : List Value) (h0 : FlatOk [.int .u8, .int .u16, .int .u8] c0) (c1 : List Value) (h1 : FlatOk [.int .u8, .int .u16, .int .u8] c1) (w : World) (hT : PW w) :
    Calls Tryd.prog 7 #[.agg c0.toArray, .agg c1.toArray] w (RetB w (.bool true)) := by
  obtain ⟨x, rfl⟩ := vidV_of h0
  obtain ⟨y, rfl⟩ := vidV_of h1
  exact vidTells_main x y w hT

set_option maxRecDepth 100000 in
theorem vidTells_lifted (os : Os) (started : os.Started) (H : Type) (enc : TypeId × Value → H) :
    ReturnsInHanded {} Tryd.checked os 7 .any (fun w args => (Rows.vidTellsSpec.pre enc Tryd.prog Tryd.f7 [] false w args ∧ laidMetH Tryd.prog laidL5 w) ∧ sizedMet enc Tryd.prog Tryd.f7 (OpenSpec.ofChange Rows.vidTellsSpec) false w args)
      (Rows.vidTellsSpec.post enc Tryd.prog Tryd.f7 false true false false) := by
  refine returnsInHanded_of_change_and (C := Tryd.checked) (X := fun w _ => laidMetH Tryd.prog laidL5 w) (fun _ _ _ hh h => h.of_heap hh) own started (by kernel_rfl) Tryd.func7
    (ChangeSpec.witness_shaped (enc := enc) (C := Tryd.checked) (os := os) (X := fun w _ => laidMetH Tryd.prog laidL5 w) false (World.doorLaid Tryd.prog 400 os) #[.agg #[.int .u8 0, .int .u16 0, .int .u8 0], .agg #[.int .u8 0, .int .u16 0, .int .u8 0]] 8 rfl (World.shaped_of_RefB (by kernel_rfl) (by kernel_rfl)) (by kernel_rfl) (by kernel_rfl) (by kernel_rfl) (door_met5 os _)) ?_
  intro W base args ds gs before hval0 hW _ _ hL _
  have hT := pwOk_of hL
  have hval : ∀ (j : Nat) t v, Tryd.f7.params[j]? = some t → args[j]? = some v → Value.okWide Tryd.prog W .any base t v := hval0
  have hW' := hW
  obtain ⟨p, q, hA0, hV, hps, hfz, hnd⟩ := hW
  have hA : DataW.TrodAll enc Tryd.prog W 0 (fun _ => true) true Tryd.f7.params.toList args.toList ds p := hA0
  rw [Tryd.params7] at hA hval
  obtain ⟨v0, vs0, d0, ds0, p0, q0, hargs, rfl, hp0, h0, r0⟩ := trodAll_cons hA
  obtain ⟨v1, vs1, d1, ds1, p1, q1, rfl, rfl, hp1, h1, r1⟩ := trodAll_cons r0
  obtain ⟨rfl, rfl, _⟩ := trodAll_nil r1
  obtain rfl : args = #[v0, v1] := by cases args; simp_all
  obtain ⟨rfl, _⟩ := trodVars_none hV
  obtain ⟨a0, rfl, w0⟩ := open_flat (ks := [.int .u8, .int .u16, .int .u8]) (by kernel_rfl) (by kernel_rfl) (hval 0 36 v0 rfl rfl) h0
  obtain ⟨a1, rfl, w1⟩ := open_flat (ks := [.int .u8, .int .u16, .int .u8]) (by kernel_rfl) (by kernel_rfl) (hval 1 36 v1 rfl rfl) h1
  refine (vidTells_walk a0 w0 a1 w1 W hT).mono fun e W' ⟨he, bel⟩ => ?_
  subst he
  exact ⟨_, rfl, law_post (tb := 4) Tryd.underlying4 rfl (typesOk_of (by kernel_rfl)) hW' rfl rfl bel⟩
theorem vidTells_row : Rows.VidTellsSaid :=
  OpenClaim.holds_of_wide 7 Tryd.f7 rfl rfl rfl rfl rfl rfl rfl ⟨rfl, rfl, rfl, rfl, rfl⟩ rfl rfl rfl rfl rfl (by kernel_rfl) Tryd.func7 (by kernel_rfl)
    (of_decide_eq_true (by kernel_rfl)) (by unfold Func.isWrapper; first | (rw [if_pos (by decide +kernel)]; kernel_rfl) | (rw [if_neg (by decide +kernel)]; exact ⟨rfl, rfl⟩))
    (fun os started H enc _ => vidTells_lifted os started H enc)
theorem vidTells_tied : Rows.vidTellsRow.laidByTextAt .later Tryd.pinned laidKs5 true := OpenClaim.laidByTextAt_later rfl rfl tie (by kernel_rfl)
theorem vidTells_holds : Rows.VidTellsCardSaid :=
  Claim7.holds_tied_plain_at .later [] laidKs5 true harnessL true
    vidTells_row (fun _ h => by cases h) (by kernel_rfl) (fun _ h => by cases h) vidTells_tied rfl ⟨rfl, rfl⟩ (by kernel_rfl) rfl
    (fun f fn hf hfn => by
      obtain rfl : f = 7 := Option.some.inj ((show Tryd.prog.funcNamed "bruit/bruitlaw11.VidTells" = some 7 by kernel_rfl).symm.trans hf) |>.symm
      obtain rfl : fn = Tryd.f7 := (Option.some.inj (Tryd.func7.symm.trans hfn)).symm
      exact ⟨by kernel_rfl, fun j t ht => by
        rw [Tryd.params7] at ht
        have hm : t ∈ [36] := by simpa using Array.mem_of_getElem? ht
        have hall : ([36].all fun u => !Tryd.prog.wantsStandIn u) = true := by kernel_rfl
        exact (show Tryd.prog.wantsStandIn t = false by simpa using List.all_eq_true.1 hall t hm)⟩)
    (by kernel_rfl)
end Go.Proofs.YtmfdggolnfoniaaDoor
