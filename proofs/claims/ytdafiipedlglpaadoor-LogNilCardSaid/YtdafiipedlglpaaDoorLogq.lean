/- Of a log that is nil there is nothing: walked. -/
import Derived.Test.YtdafiipedlglpaaDoorLogz
import Derived.Test.YtdafiipedlglpaaDoorLists
namespace Go.Proofs.YtdafiipedlglpaaDoor
open Go.RowKit

theorem logSync_nil (w : World) : Calls Tryd.prog 6 #[.pointer none] w (Ret w (.tuple #[])) := by
  go_enter Tryd.func6, Tryd.ntmps6
  go_wp2
  go_end0
  exact ⟨rfl, rfl⟩
theorem logLen_nil (w : World) : Calls Tryd.prog 9 #[.pointer none] w (Ret w (.int .i64 0)) := by
  go_enter Tryd.func9, Tryd.ntmps9
  go_wp2
  go_ret
  exact ⟨rfl, rfl⟩
theorem logSure_nil (w : World) : Calls Tryd.prog 10 #[.pointer none] w (Ret w (.int .i64 0)) := by
  go_enter Tryd.func10, Tryd.ntmps10
  go_wp2
  go_ret
  exact ⟨rfl, rfl⟩
theorem logOpen_nil (w : World) : Calls Tryd.prog 7 #[.pointer none] w (Ret w (.tuple #[.pointer none, .slice none 0 0])) := by
  go_enter Tryd.func7, Tryd.ntmps7
  go_wp2
  refine bodyPost_ret (v := .tuple #[.pointer none, .slice none 0 0]) ?_ rfl ⟨rfl, rfl⟩
  simp [results, Tryd.results7, go_sem]
theorem logAppend_nil (cs : List Value) (w : World) : Calls Tryd.prog 8 #[.pointer none, .agg cs.toArray] w (RetB w (.int .i64 1)) := by
  have B0 : Hid (Below w.heap.size w (w.alloc (.cells cs.toArray 28))) := below_new _ _
  go_enter Tryd.func8, Tryd.ntmps8
  go_upto_region 1 with fail
  generalize (w.alloc (.cells cs.toArray 28)) = w1 at *
  go_wp2
  go_ret
  exact ⟨rfl, B0.out⟩
set_option maxRecDepth 100000 in
set_option maxHeartbeats 4000000 in
theorem logNil_walk (w : World) (p : PatV) (cs : List Value) (hp : PatAt w cs p) (hFo : FourOk w) :
    Calls Tryd.prog 3 #[.agg cs.toArray] w (RetB w (.bool true)) := by
  have hl4 := Lib.hid hp.len4
  have hi4 : (Tryd.prog.info? 28).map (·.size) = some cs.toArray.size := by rw [List.size_toArray, hl4.out]; exact infoPat
  have K0 : Hid (Blk (w.alloc (.cells cs.toArray 28)) w.heap.size 28 cs.toArray) := Blk.new _ _ _
  have B0 : Hid (Below w.heap.size w (w.alloc (.cells cs.toArray 28))) := below_new _ _
  have P0 := Lib.hid (hp.ext B0.out)
  have F0 := Lib.hid hFo
  clear hp hFo
  go_enter Tryd.func3, Tryd.ntmps3
  go_upto_region 1 with fail
  generalize (w.alloc (.cells cs.toArray 28)) = w2 at *
  obtain ⟨g1, hg1⟩ : ∃ g, g = w.heap.size := ⟨_, rfl⟩
  rw [← hg1] at K0 ⊢
  clear hg1
  have PS := Lib.hid (pats_one30 P0.out)
  have M : Hid (Below w2.heap.size w2 (w2.alloc (.cells cs.toArray 28))) := below_new _ _
  have HN := Lib.hid (few20_any [p] (w2.alloc (.cells cs.toArray 28)) _ 1 1 1 PS.out (by decide))
  clear PS
  cases hf : fewsB [p] 1
  · rw [fewsN_false hf] at HN
    clear hf
    go_wp2_with (first
      | (refine wpList_load_row rfl 28 _ (by rfl) g1 (by rfl) _ _ _ _ K0.out underPat rfl hi4 ?_)
      | (refine wpList_lit1 patSl hl4.out (by omega) (by rfl) ?_))
    refine HN.out.mono ?_
    rintro e w4 ⟨rfl, b4⟩
    have B4 := Lib.hid (B0.out.trans ((M.out.trans (b4.mono M.out.size)).mono B0.out.size))
    have F4 := Lib.hid (four_ext F0.out B4.out)
    clear b4 HN M K0
    go_wp2_with fail
    refine (works30 _ F4.out).mono ?_
    rintro e w5 ⟨rfl, b5⟩
    have B5 := Lib.hid (B4.out.trans (b5.mono B4.out.size))
    clear b5
    go_wp2
    go_ret
    exact ⟨rfl, B5.out⟩
  · rw [fewsN_true hf] at HN
    clear hf
    go_wp2_with (first
      | (refine wpList_load_row rfl 28 _ (by rfl) g1 (by rfl) _ _ _ _ K0.out underPat rfl hi4 ?_)
      | (refine wpList_lit1 patSl hl4.out (by omega) (by rfl) ?_))
    refine HN.out.mono ?_
    rintro e w4 ⟨rfl, b4⟩
    have B4 := Lib.hid (B0.out.trans ((M.out.trans (b4.mono M.out.size)).mono B0.out.size))
    have K4 := Lib.hid (K0.out.ext (M.out.trans (b4.mono M.out.size)))
    clear b4 HN M K0
    go_wp2_with fail
    refine (logSync_nil _).mono ?_
    rintro e w4 ⟨rfl, rfl⟩
    go_wp2_with fail
    refine (logOpen_nil _).mono ?_
    rintro e w4 ⟨rfl, rfl⟩
    go_wp2_with (refine wpList_load_row rfl 28 _ (by rfl) g1 (by rfl) _ _ _ _ K4.out underPat rfl hi4 ?_)
    refine (logAppend_nil cs _).mono ?_
    rintro e w5 ⟨rfl, b5⟩
    have B5 := Lib.hid (B4.out.trans (b5.mono B4.out.size))
    clear b5 K4 B4
    go_wp2_with fail
    refine (logLen_nil _).mono ?_
    rintro e w5 ⟨rfl, rfl⟩
    go_wp2_with fail
    refine (logSure_nil _).mono ?_
    rintro e w5 ⟨rfl, rfl⟩
    have F5 := Lib.hid (four_ext F0.out B5.out)
    go_wp2_with fail
    refine (works30 _ F5.out).mono ?_
    rintro e w6 ⟨rfl, b6⟩
    have B6 := Lib.hid (B5.out.trans (b6.mono B5.out.size))
    clear b6
    go_wp2
    go_ret
    exact ⟨rfl, B6.out⟩
end Go.Proofs.YtdafiipedlglpaaDoor
