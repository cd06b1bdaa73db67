/- OF ANY TEXT AND ANY NAME OF A VERTEX: the text is read as a name, or not, as the document says; the name that is told is read as it was. No condition; the listed variables of Go's library are tied to its text. -/
import Derived.Test.YtmfdggolnfoniaaDoorVidParsesw
import Derived.Test.YtmfdggolnfoniaaDoorDoorc
namespace Go.Proofs.YtmfdggolnfoniaaDoor
open Go.ChangeShapes Go.WideShapes Go.ChangeAt Go.RowKit

theorem vidV_of : ∀ {cs : List Value}, FlatOk [.int .u8, .int .u16, .int .u8] cs → ∃ p : VidV, cs = encV p
  | [_, _, _], ⟨⟨a, rfl, ha⟩, ⟨s, rfl, hs⟩, ⟨n, rfl, hn⟩, _⟩ => by
    simp [Lit.wf, IntKind.min, IntKind.max, IntKind.signed, IntKind.bits] at ha hs hn
    refine ⟨((⟨a.toNat, by omega⟩, ⟨s.toNat, by omega⟩), ⟨n.toNat, by omega⟩), ?_⟩
    simp only [encV]
    rw [Int.toNat_of_nonneg (by omega), Int.toNat_of_nonneg (by omega), Int.toNat_of_nonneg (by omega)]
theorem vidParses_walk (s : ByteArray) (hs : s.size ≤ maxLen) (c1 : List Value) (h1 : FlatOk [.int .u8, .int .u16, .int .u8] c1) (w : World) (hT : PW w) :
    Calls Tryd.prog 5 #[.string s, .agg c1.toArray] w (RetB w (.bool true)) := by
  obtain ⟨x, rfl⟩ := vidV_of h1
  exact vidParses_main s hs x.1.1.val x.1.2.val x.2.val x.1.1.isLt x.1.2.isLt x.2.isLt w hT

set_option maxRecDepth 100000 in
theorem vidParses_lifted (os : Os) (started : os.Started) (H : Type) (enc : TypeId × Value → H) :
    ReturnsInHanded {} Tryd.checked os 5 .any (fun w args => (Rows.vidParsesSpec.pre enc Tryd.prog Tryd.f5 [] false w args ∧ laidMetH Tryd.prog laidL5 w) ∧ sizedMet enc Tryd.prog Tryd.f5 (OpenSpec.ofChange Rows.vidParsesSpec) false w args)
      (Rows.vidParsesSpec.post enc Tryd.prog Tryd.f5 false true false false) := by
  refine returnsInHanded_of_change_and (C := Tryd.checked) (X := fun w _ => laidMetH Tryd.prog laidL5 w) (fun _ _ _ hh h => h.of_heap hh) own started (by kernel_rfl) Tryd.func5
    (ChangeSpec.witness_shaped (enc := enc) (C := Tryd.checked) (os := os) (X := fun w _ => laidMetH Tryd.prog laidL5 w) false (World.doorLaid Tryd.prog 400 os) #[.string ByteArray.empty, .agg #[.int .u8 0, .int .u16 0, .int .u8 0]] 8 rfl (World.shaped_of_RefB (by kernel_rfl) (by kernel_rfl)) (by kernel_rfl) (by kernel_rfl) (by kernel_rfl) (door_met5 os _)) ?_
  intro W base args ds gs before hval0 hW _ _ hL _
  have hT := pwOk_of hL
  have hval : ∀ (j : Nat) t v, Tryd.f5.params[j]? = some t → args[j]? = some v → Value.okWide Tryd.prog W .any base t v := hval0
  have hW' := hW
  obtain ⟨p, q, hA0, hV, hps, hfz, hnd⟩ := hW
  have hA : DataW.TrodAll enc Tryd.prog W 0 (fun _ => true) true Tryd.f5.params.toList args.toList ds p := hA0
  rw [Tryd.params5] at hA hval
  obtain ⟨v0, vs0, d0, ds0, p0, q0, hargs, rfl, hp0, h0, r0⟩ := trodAll_cons hA
  obtain ⟨v1, vs1, d1, ds1, p1, q1, rfl, rfl, hp1, h1, r1⟩ := trodAll_cons r0
  obtain ⟨rfl, rfl, _⟩ := trodAll_nil r1
  obtain rfl : args = #[v0, v1] := by cases args; simp_all
  obtain ⟨rfl, _⟩ := trodVars_none hV
  obtain ⟨a0, rfl, rfl, rfl, w0⟩ := Go.ChangeMaps.open_string Tryd.underlying9 (hval 0 9 v0 rfl rfl) h0
  obtain ⟨a1, rfl, w1⟩ := open_flat (ks := [.int .u8, .int .u16, .int .u8]) (by kernel_rfl) (by kernel_rfl) (hval 1 36 v1 rfl rfl) h1
  refine (vidParses_walk a0 w0 a1 w1 W hT).mono fun e W' ⟨he, bel⟩ => ?_
  subst he
  exact ⟨_, rfl, law_post (tb := 4) Tryd.underlying4 rfl (typesOk_of (by kernel_rfl)) hW' rfl rfl bel⟩
theorem vidParses_row : Rows.VidParsesSaid :=
  OpenClaim.holds_of_wide 5 Tryd.f5 rfl rfl rfl rfl rfl rfl rfl ⟨rfl, rfl, rfl, rfl, rfl⟩ rfl rfl rfl rfl rfl (by kernel_rfl) Tryd.func5 (by kernel_rfl)
    (of_decide_eq_true (by kernel_rfl)) (by unfold Func.isWrapper; first | (rw [if_pos (by decide +kernel)]; kernel_rfl) | (rw [if_neg (by decide +kernel)]; exact ⟨rfl, rfl⟩))
    (fun os started H enc _ => vidParses_lifted os started H enc)
theorem vidParses_tied : Rows.vidParsesRow.laidByTextAt .later Tryd.pinned laidKs5 true := OpenClaim.laidByTextAt_later rfl rfl tie (by kernel_rfl)
theorem vidParses_holds : Rows.VidParsesCardSaid :=
  Claim7.holds_tied_plain_at .later [] laidKs5 true harnessL true
    vidParses_row (fun _ h => by cases h) (by kernel_rfl) (fun _ h => by cases h) vidParses_tied rfl ⟨rfl, rfl⟩ (by kernel_rfl) rfl
    (fun f fn hf hfn => by
      obtain rfl : f = 5 := Option.some.inj ((show Tryd.prog.funcNamed "bruit/bruitlaw11.VidParses" = some 5 by kernel_rfl).symm.trans hf) |>.symm
      obtain rfl : fn = Tryd.f5 := (Option.some.inj (Tryd.func5.symm.trans hfn)).symm
      exact ⟨by kernel_rfl, fun j t ht => by
        rw [Tryd.params5] at ht
        have hm : t ∈ [9, 36] := by simpa using Array.mem_of_getElem? ht
        have hall : ([9, 36].all fun u => !Tryd.prog.wantsStandIn u) = true := by kernel_rfl
        exact (show Tryd.prog.wantsStandIn t = false by simpa using List.all_eq_true.1 hall t hm)⟩)
    (by kernel_rfl)
end Go.Proofs.YtmfdggolnfoniaaDoor
