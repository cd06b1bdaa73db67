/- pid.Set: names of patches, each once, rising. -/
import Derived.Test.YtmfdggolnfoniaaSetj
namespace Go.Proofs.Ytmfdggolnfoniaa
open Go.RowKit

set_option maxRecDepth 100000 in
set_option maxHeartbeats 1000000 in
theorem setP (l : List PidV) (w : World) (A : Option Addr) (n c : Nat) (hm : n ≤ 100000) (h : PidsAt w A n l) :
    Calls Try.prog 41 #[.slice A n c] w (OwnedRet w 33 2 (setK keyP l).length ((setK keyP l).flatMap encP)) := by
  have HC := Lib.hid (cloneP l w A n c hm h)
  have HL := Lib.hid h.len
  clear h
  go_enter Try.func41, Try.ntmps41
  go_wp2_with fail
  refine HC.out.mono ?_
  rintro e w1 ⟨v, rfl, o1, b1⟩
  have O1 := Lib.hid o1
  have B1 := Lib.hid b1
  clear o1 b1 HC
  have HS := Lib.hid (sortP l w1 w.heap.size n v HL.out hm O1.out)
  rcases O1.out.2 with ⟨rfl, h0⟩ | ⟨g, cap, cur, rfl, hg, hh, hnc, hrest⟩
  · subst h0
    have hl := List.length_eq_zero_iff.1 HL.out
    subst hl
    go_wp2_with fail
    refine HS.out.mono ?_
    rintro e w2 ⟨rfl, b2, _⟩
    have B2 := Lib.hid (B1.out.trans b2)
    clear b2 HS
    have HN := Lib.hid (compactNilP w2)
    go_wp2_with fail
    refine HN.out.mono ?_
    rintro e w3 ⟨rfl, rfl⟩
    go_wp2
    go_ret
    exact ⟨_, rfl, World.ownsRow_nil _ _ _ _, B2.out⟩
  · clear hh hrest hg hnc O1
    go_wp2_with fail
    refine HS.out.mono ?_
    rintro e w2 ⟨rfl, b2, d, hp, hs, o2⟩
    have B2 := Lib.hid (B1.out.trans b2)
    have E := Lib.hid (onceK_set keyP_inj hp.symm hs)
    have HD := Lib.hid (compactP d w2 w.heap.size n g cap (by rw [hp.length_eq]; exact HL.out) hm o2)
    rw [E.out] at HD
    clear b2 hp hs o2 HS
    go_wp2_with fail
    refine HD.out.mono ?_
    rintro e w3 ⟨rfl, o3, b3⟩
    have O3 := Lib.hid o3
    have B3 := Lib.hid (B2.out.trans b3)
    clear o3 b3
    go_wp2
    go_ret
    exact ⟨_, rfl, O3.out, B3.out⟩
end Go.Proofs.Ytmfdggolnfoniaa
