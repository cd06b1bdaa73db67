/- What is applied hangs together: the statement walked. -/
import Derived.Test.YtfnhmbflmifhcaaGreatGrs
import Derived.Test.YtfnhmbflmifhcaaGreatVrefs
namespace Go.Proofs.YtfnhmbflmifhcaaGreat
open Go.RowKit

/-- a graph is handed back that is the call's own -/
def RetBuilt (w : World) (L : List PatV) (e : Ending) (w' : World) : Prop := ∃ F g, e = .returned (.pointer (some ⟨g, 0, none⟩)) ∧ GraphAt w' F g L ∧ (∀ k, F k → w.heap.size ≤ k) ∧ Below w.heap.size w w'
set_option maxRecDepth 100000 in
set_option maxHeartbeats 4000000 in
theorem build20_any (w : World) (l : List PatV) (A : Option Addr) (n c : Nat) (hm : n ≤ maxLen) (h : PatsAt w A n l) : Calls Tryz.prog 18 #[.slice A n c] w (RetBuilt w (runG [] l)) := by
  have H0 := Lib.hid h
  have hln := Lib.hid h.len
  unfold maxLen at hm
  clear h
  go_enter Tryz.func18, Tryz.ntmps18
  go_wp2_with fail
  refine (new20_any _).mono ?_
  rintro e w4 ⟨F, g, rfl, hA, hF, b4⟩
  have GA := Lib.hid hA
  have B4 := Lib.hid b4
  have hFw := Lib.hid hF
  clear hA hF b4
  go_wp2_with fail
  go_loopw [4] (fun i wr => ∃ s : Nat, s ≤ n ∧ i = .int .i64 s ∧ Hid (GraphAt wr F g (runG [] (l.take s))) ∧ Hid (Below w.heap.size w wr)) (fun i _ => n - (intOf i).toNat)
  case atStart => exact ⟨0, by omega, rfl, GA.out, B4.out⟩
  case round =>
    clear GA B4
    obtain ⟨s, hs, rfl, GA, B⟩ := hrel
    obtain ⟨wi, rfl⟩ : ∃ wx, wx = wr := ⟨_, rfl⟩
    have hs0 : (0 : Int) ≤ (s : Int) := by omega
    by_cases hst : s < n
    · have hsk : (s : Int) < (n : Int) := by omega
      obtain ⟨b, o, p, r, rfl, hb, hp, pa, R⟩ := H0.out.at_ hst
      have PI := Lib.hid (pa.in_.ext B.out)
      have RP := Lib.hid (rangeAt_below R B.out hb)
      obtain ⟨⟨A1, c1, A2, c2, rfl, _, _⟩, _, _⟩ := pa
      have LP := Lib.hid (runG_snoc [] hp)
      have hA1 := Lib.hid (apply20_any GA.out p _ PI.out (fun x (h1 : x < w.heap.size) h2 => Nat.not_lt.2 (hFw.out x h2) h1))
      clear R hb hp
      go_wp2_with (refine wpList_load_mid rfl 37 _ (by rfl) b (o + s * 4) (by rfl) _ _ RP.out underPat rfl infoPat ?_)
      refine hA1.out.mono ?_
      rintro e w6 ⟨rfl, kp, hG⟩
      have GA6 := Lib.hid hG
      have B6 := Lib.hid (B.out.trans (kp.below (B := w.heap.size) hFw.out B.out.size))
      clear hG kp hA1 GA RP PI B
      go_wp2_with fail
      go_roundw
      case rel => exact ⟨s + 1, by omega, by go_num, by rw [LP.out]; exact GA6.out, B6.out⟩
      case measure => simp [intOf]; omega
    · have hsk : ¬ (s : Int) < (n : Int) := by omega
      have GA7 : Hid (GraphAt wi F g (runG [] l)) := by
        have h1 := GA.out
        rw [List.take_of_length_le (by rw [hln.out]; omega)] at h1
        exact h1
      clear GA
      go_wp2
      go_ret
      exact ⟨F, g, rfl, GA7.out, hFw.out, B.out⟩
theorem cmpV_lt {x y : VidV} (h : keyV x < keyV y) (w : World) : Calls Tryz.prog 32 #[.agg (encV x).toArray, .agg (encV y).toArray] w (RetB w (.int .i64 (-1))) := by
  have := rcmpVQ x y w
  rw [signV_lt h] at this
  exact this
end Go.Proofs.YtfnhmbflmifhcaaGreat
