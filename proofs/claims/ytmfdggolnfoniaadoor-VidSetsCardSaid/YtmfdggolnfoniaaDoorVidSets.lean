/- OF ANY LIST OF NAMES OF VERTICES AND ANY NUMBER: each once, rising, is as the document says; in whichever order they come, and however often. No condition; the listed variables of Go's library are tied to its text. -/
import Derived.Test.YtmfdggolnfoniaaDoorVidSetsw
import Derived.Test.YtmfdggolnfoniaaDoorDoorc
namespace Go.Proofs.YtmfdggolnfoniaaDoor
open Go.ChangeShapes Go.WideShapes Go.ChangeAt Go.RowKit

theorem vidV_of : ∀ {cs : List Value}, FlatOk [.int .u8, .int .u16, .int .u8] cs → ∃ p : VidV, cs = encV p
  | [_, _, _], ⟨⟨a, rfl, ha⟩, ⟨s, rfl, hs⟩, ⟨n, rfl, hn⟩, _⟩ => by
    simp [Lit.wf, IntKind.min, IntKind.max, IntKind.signed, IntKind.bits] at ha hs hn
    refine ⟨((⟨a.toNat, by omega⟩, ⟨s.toNat, by omega⟩), ⟨n.toNat, by omega⟩), ?_⟩
    simp only [encV]
    rw [Int.toNat_of_nonneg (by omega), Int.toNat_of_nonneg (by omega), Int.toNat_of_nonneg (by omega)]
theorem vids_of {w : World} {A : Option Addr} {n c : Nat} {rows : List (List Value)} (h : RowsAt [.int .u8, .int .u16, .int .u8] w A n c rows) : ∃ l : List VidV, VidsAt w A n l := by
  obtain ⟨l, hl, _⟩ := rows_map encV (fun _ => True) rows (fun r hr => by
    obtain ⟨p, rfl⟩ := vidV_of (h.ok r hr)
    exact ⟨p, rfl, trivial⟩)
  have hs := h.sl
  have hn := h.len
  rw [hl, List.length_map] at hn
  rw [hl, ← List.flatMap_def] at hs
  exact ⟨l, hn, hs⟩
theorem vidSets_walk (w : World) (A : Option Addr) (n c : Nat) (rows : List (List Value)) (h : RowsAt [.int .u8, .int .u16, .int .u8] w A n c rows) (x : Int) (hx : (Lit.int .u8 x).wf = true) (hT : PW w) :
    Calls Tryd.prog 8 #[.slice A n c, .int .u8 x] w (RetB w (.bool true)) := by
  obtain ⟨l, hl⟩ := vids_of h
  simp [Lit.wf, IntKind.min, IntKind.max, IntKind.signed, IntKind.bits] at hx
  obtain ⟨q, rfl⟩ := Int.eq_ofNat_of_zero_le hx.1
  exact vidSets_main l w A n c q (by omega) hl h.le (Nat.le_trans h.le h.cap) hT

set_option maxRecDepth 100000 in
theorem vidSets_lifted (os : Os) (started : os.Started) (H : Type) (enc : TypeId × Value → H) :
    ReturnsInHanded {} Tryd.checked os 8 .any (fun w args => (Rows.vidSetsSpec.pre enc Tryd.prog Tryd.f8 [] false w args ∧ laidMetH Tryd.prog laidL5 w) ∧ sizedMet enc Tryd.prog Tryd.f8 (OpenSpec.ofChange Rows.vidSetsSpec) false w args)
      (Rows.vidSetsSpec.post enc Tryd.prog Tryd.f8 false true false false) := by
  refine returnsInHanded_of_change_and (C := Tryd.checked) (X := fun w _ => laidMetH Tryd.prog laidL5 w) (fun _ _ _ hh h => h.of_heap hh) own started (by kernel_rfl) Tryd.func8
    (ChangeSpec.witness_shaped (enc := enc) (C := Tryd.checked) (os := os) (X := fun w _ => laidMetH Tryd.prog laidL5 w) false (World.doorLaid Tryd.prog 400 os) #[.slice none 0 0, .int .u8 0] 8 rfl (World.shaped_of_RefB (by kernel_rfl) (by kernel_rfl)) (by kernel_rfl) (by kernel_rfl) (by kernel_rfl) (door_met5 os _)) ?_
  intro W base args ds gs before hval0 hW _ _ hL _
  have hT := pwOk_of hL
  have hval : ∀ (j : Nat) t v, Tryd.f8.params[j]? = some t → args[j]? = some v → Value.okWide Tryd.prog W .any base t v := hval0
  have hW' := hW
  obtain ⟨p, q, hA0, hV, hps, hfz, hnd⟩ := hW
  have hA : DataW.TrodAll enc Tryd.prog W 0 (fun _ => true) true Tryd.f8.params.toList args.toList ds p := hA0
  rw [Tryd.params8] at hA hval
  obtain ⟨v0, vs0, d0, ds0, p0, q0, hargs, rfl, hp0, h0, r0⟩ := trodAll_cons hA
  obtain ⟨v1, vs1, d1, ds1, p1, q1, rfl, rfl, hp1, h1, r1⟩ := trodAll_cons r0
  obtain ⟨rfl, rfl, _⟩ := trodAll_nil r1
  obtain rfl : args = #[v0, v1] := by cases args; simp_all
  obtain ⟨rfl, _⟩ := trodVars_none hV
  obtain ⟨a0, n0, c0, rows0, rfl, w0⟩ := open_rows (ks := [.int .u8, .int .u16, .int .u8]) Tryd.underlying48 (by kernel_rfl) (by kernel_rfl) (by decide) (hval 0 48 v0 rfl rfl) h0
  obtain ⟨a1, rfl, rfl, rfl, w1⟩ := open_int Tryd.underlying5 (hval 1 5 v1 rfl rfl) h1
  refine (vidSets_walk W a0 n0 c0 rows0 w0 a1 w1 hT).mono fun e W' ⟨he, bel⟩ => ?_
  subst he
  exact ⟨_, rfl, law_post (tb := 4) Tryd.underlying4 rfl (typesOk_of (by kernel_rfl)) hW' rfl rfl bel⟩
theorem vidSets_row : Rows.VidSetsSaid :=
  OpenClaim.holds_of_wide 8 Tryd.f8 rfl rfl rfl rfl rfl rfl rfl ⟨rfl, rfl, rfl, rfl, rfl⟩ rfl rfl rfl rfl rfl (by kernel_rfl) Tryd.func8 (by kernel_rfl)
    (of_decide_eq_true (by kernel_rfl)) (by unfold Func.isWrapper; first | (rw [if_pos (by decide +kernel)]; kernel_rfl) | (rw [if_neg (by decide +kernel)]; exact ⟨rfl, rfl⟩))
    (fun os started H enc _ => vidSets_lifted os started H enc)
theorem vidSets_tied : Rows.vidSetsRow.laidByTextAt .later Tryd.pinned laidKs5 true := OpenClaim.laidByTextAt_later rfl rfl tie (by kernel_rfl)
theorem vidSets_holds : Rows.VidSetsCardSaid :=
  Claim7.holds_tied_plain_at .later [] laidKs5 true harnessL true
    vidSets_row (fun _ h => by cases h) (by kernel_rfl) (fun _ h => by cases h) vidSets_tied rfl ⟨rfl, rfl⟩ (by kernel_rfl) rfl
    (fun f fn hf hfn => by
      obtain rfl : f = 8 := Option.some.inj ((show Tryd.prog.funcNamed "bruit/bruitlaw11.VidSets" = some 8 by kernel_rfl).symm.trans hf) |>.symm
      obtain rfl : fn = Tryd.f8 := (Option.some.inj (Tryd.func8.symm.trans hfn)).symm
      exact ⟨by kernel_rfl, fun j t ht => by
        rw [Tryd.params8] at ht
        have hm : t ∈ [48, 5] := by simpa using Array.mem_of_getElem? ht
        have hall : ([48, 5].all fun u => !Tryd.prog.wantsStandIn u) = true := by kernel_rfl
        exact (show Tryd.prog.wantsStandIn t = false by simpa using List.all_eq_true.1 hall t hm)⟩)
    (by kernel_rfl)
end Go.Proofs.YtmfdggolnfoniaaDoor
