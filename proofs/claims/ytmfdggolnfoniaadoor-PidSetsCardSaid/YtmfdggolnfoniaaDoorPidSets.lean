/- OF ANY LIST OF NAMES OF PATCHES: each once, rising, is as the document says; whether any rise is told so. No condition; the listed tables of Go's library are tied to its text. -/
import Derived.Test.YtmfdggolnfoniaaDoorPidSetsw
import Derived.Test.YtmfdggolnfoniaaDoorDoorc
namespace Go.Proofs.YtmfdggolnfoniaaDoor
open Go.ChangeShapes Go.WideShapes Go.ChangeAt Go.RowKit

theorem pidV_of : ∀ {cs : List Value}, FlatOk [.int .u8, .int .u16] cs → ∃ p : PidV, cs = encP p
  | [_, _], ⟨⟨a, rfl, ha⟩, ⟨s, rfl, hs⟩, _⟩ => by
    simp [Lit.wf, IntKind.min, IntKind.max, IntKind.signed, IntKind.bits] at ha hs
    refine ⟨(⟨a.toNat, by omega⟩, ⟨s.toNat, by omega⟩), ?_⟩
    simp only [encP]
    rw [Int.toNat_of_nonneg (by omega), Int.toNat_of_nonneg (by omega)]
theorem pids_of {w : World} {A : Option Addr} {n c : Nat} {rows : List (List Value)} (h : RowsAt [.int .u8, .int .u16] w A n c rows) : n ≤ maxLen ∧ ∃ l : List PidV, PidsAt w A n l := by
  obtain ⟨l, hl, _⟩ := rows_map encP (fun _ => True) rows (fun r hr => by
    obtain ⟨p, rfl⟩ := pidV_of (h.ok r hr)
    exact ⟨p, rfl, trivial⟩)
  have hs := h.sl
  have hn := h.len
  rw [hl, List.length_map] at hn
  rw [hl, ← List.flatMap_def] at hs
  exact ⟨Nat.le_trans h.le h.cap, l, hn, hs⟩
theorem pidSets_walk (w : World) (A : Option Addr) (n c : Nat) (rows : List (List Value)) (h : RowsAt [.int .u8, .int .u16] w A n c rows) (hT : TabOk w) :
    Calls Tryd.prog 4 #[.slice A n c] w (RetB w (.bool true)) := by
  obtain ⟨hm, l, hl⟩ := pids_of h
  exact pidSets_main l w A n c hl hm hT

set_option maxRecDepth 100000 in
theorem pidSets_lifted (os : Os) (started : os.Started) (H : Type) (enc : TypeId × Value → H) :
    ReturnsInHanded {} Tryd.checked os 4 .any (fun w args => (Rows.pidSetsSpec.pre enc Tryd.prog Tryd.f4 [] false w args ∧ laidMetH Tryd.prog laidL w) ∧ sizedMet enc Tryd.prog Tryd.f4 (OpenSpec.ofChange Rows.pidSetsSpec) false w args)
      (Rows.pidSetsSpec.post enc Tryd.prog Tryd.f4 false true false false) := by
  refine returnsInHanded_of_change_and (C := Tryd.checked) (X := fun w _ => laidMetH Tryd.prog laidL w) (fun _ _ _ hh h => h.of_heap hh) own started (by kernel_rfl) Tryd.func4
    (ChangeSpec.witness_shaped (enc := enc) (C := Tryd.checked) (os := os) (X := fun w _ => laidMetH Tryd.prog laidL w) false (World.doorLaid Tryd.prog 400 os) #[.slice none 0 0] 8 rfl (World.shaped_of_RefB (by kernel_rfl) (by kernel_rfl)) (by kernel_rfl) (by kernel_rfl) (by kernel_rfl) (door_met os _)) ?_
  intro W base args ds gs before hval0 hW _ _ hL _
  have hT := tabOk_of hL
  have hval : ∀ (j : Nat) t v, Tryd.f4.params[j]? = some t → args[j]? = some v → Value.okWide Tryd.prog W .any base t v := hval0
  have hW' := hW
  obtain ⟨p, q, hA0, hV, hps, hfz, hnd⟩ := hW
  have hA : DataW.TrodAll enc Tryd.prog W 0 (fun _ => true) true Tryd.f4.params.toList args.toList ds p := hA0
  rw [Tryd.params4] at hA hval
  obtain ⟨v0, vs0, d0, ds0, p0, q0, hargs, rfl, hp0, h0, r0⟩ := trodAll_cons hA
  obtain ⟨rfl, rfl, _⟩ := trodAll_nil r0
  obtain rfl : args = #[v0] := by cases args; simp_all
  obtain ⟨rfl, _⟩ := trodVars_none hV
  obtain ⟨a0, n0, c0, rows0, rfl, w0⟩ := open_rows (ks := [.int .u8, .int .u16]) Tryd.underlying30 (by kernel_rfl) (by kernel_rfl) (by decide) (hval 0 30 v0 rfl rfl) h0
  refine (pidSets_walk W a0 n0 c0 rows0 w0 hT).mono fun e W' ⟨he, bel⟩ => ?_
  subst he
  exact ⟨_, rfl, law_post (tb := 4) Tryd.underlying4 rfl (typesOk_of (by kernel_rfl)) hW' rfl rfl bel⟩
theorem pidSets_row : Rows.PidSetsSaid :=
  OpenClaim.holds_of_wide 4 Tryd.f4 rfl rfl rfl rfl rfl rfl rfl ⟨rfl, rfl, rfl, rfl, rfl⟩ rfl rfl rfl rfl rfl (by kernel_rfl) Tryd.func4 (by kernel_rfl)
    (of_decide_eq_true (by kernel_rfl)) (by unfold Func.isWrapper; first | (rw [if_pos (by decide +kernel)]; kernel_rfl) | (rw [if_neg (by decide +kernel)]; exact ⟨rfl, rfl⟩))
    (fun os started H enc _ => pidSets_lifted os started H enc)
theorem pidSets_tied : Rows.pidSetsRow.laidByTextAt .later Tryd.pinned laidKs true := OpenClaim.laidByTextAt_later rfl rfl tie2 (by kernel_rfl)
theorem pidSets_holds : Rows.PidSetsCardSaid :=
  Claim7.holds_tied_plain_at .later [] laidKs true harnessL true
    pidSets_row (fun _ h => by cases h) (by kernel_rfl) (fun _ h => by cases h) pidSets_tied rfl ⟨rfl, rfl⟩ (by kernel_rfl) rfl
    (fun f fn hf hfn => by
      obtain rfl : f = 4 := Option.some.inj ((show Tryd.prog.funcNamed "bruit/bruitlaw10.PidSets" = some 4 by kernel_rfl).symm.trans hf) |>.symm
      obtain rfl : fn = Tryd.f4 := (Option.some.inj (Tryd.func4.symm.trans hfn)).symm
      exact ⟨by kernel_rfl, fun j t ht => by
        rw [Tryd.params4] at ht
        have hm : t ∈ [30] := by simpa using Array.mem_of_getElem? ht
        have hall : ([30].all fun u => !Tryd.prog.wantsStandIn u) = true := by kernel_rfl
        exact (show Tryd.prog.wantsStandIn t = false by simpa using List.all_eq_true.1 hall t hm)⟩)
    (by kernel_rfl)
end Go.Proofs.YtmfdggolnfoniaaDoor
