/- Texts of general use, one behind another. -/
import Derived.Test.YtihggkmjalofiaaGreatDoorPats
import Derived.Test.YtihggkmjalofiaaGreatDoorGen
import Derived.Test.YtihggkmjalofiaaGreatDoorOps
import Derived.Deep.RegionHeld3

/- Patches made: walked. -/
namespace Go.Proofs.YtihggkmjalofiaaGreatDoor
open Go.RowKit

def zeroPat : PatV := ((0, 0), [], [])
def makeV18 (id : PidV) (l : List OpV) : PatV := if patB (id, depsV id l, l) = true then (id, depsV id l, l) else zeroPat
def makeN18 (id : PidV) (l : List OpV) : Int := if patB (id, depsV id l, l) = true then 0 else 1
def MadeRet (w : World) (q : PatV) (n : Int) (e : Ending) (w' : World) : Prop := ∃ cs : List Value, e = .returned (.tuple #[.agg cs.toArray, .int .i64 n]) ∧ PatAt w' cs q ∧ Below w.heap.size w w'
theorem zero_at (w : World) : PatAt w [.int .u8 0, .int .u16 0, .slice none 0 0, .slice none 0 0] zeroPat :=
 ⟨⟨none, 0, none, 0, rfl, ⟨rfl, rfl, fun h => absurd h (by decide)⟩, ⟨rfl, ⟨rfl, fun h => absurd h (by decide)⟩, by simp [zeroPat]⟩⟩, by decide, by decide⟩
theorem allocPat (w : World) : (Instr.alloc 31 true (.tuple #[])).run Tryz.prog w = .ok (.pointer (some ⟨w.heap.size, 0, none⟩)) (w.alloc (.cells #[.int .u8 0, .int .u16 0, .slice none 0 0, .slice none 0 0] 31)) := by kernel_rfl
theorem buildPat (id : PidV) (A : Option Addr) (n c : Nat) (A' : Option Addr) (n' c' : Nat) (w : World) : (Instr.build 31 #[(0, .agg (encP id).toArray), (1, .slice A n c), (2, .slice A' n' c')]).run Tryz.prog w = .ok (.agg (patC id A n c A' n' c').toArray) w := by kernel_rfl
theorem buildZero (w : World) : (Instr.build 31 #[]).run Tryz.prog w = .ok (.agg #[.int .u8 0, .int .u16 0, .slice none 0 0, .slice none 0 0]) w := by kernel_rfl
theorem patC_one {id : PidV} {A : Option Addr} {n c : Nat} {A' : Option Addr} {n' c' : Nat} : (patC id A n c A' n' c').toArray.all (·.oneCell') = true := all_oneCell_toArray fun u hu => by
 simp only [patC, List.mem_cons, List.not_mem_nil, or_false] at hu
 rcases hu with rfl | rfl | rfl | rfl <;> rfl
theorem zeroC_one : (#[.int .u8 0, .int .u16 0, .slice none 0 0, .slice none 0 0] : Array Value).all (·.oneCell') = true := patC_one (id := (0, 0)) (A := none) (n := 0) (c := 0) (A' := none) (n' := 0) (c' := 0)
theorem depsV_le (id : PidV) (l : List OpV) : (depsV id l).length ≤ 1 + 2 * l.length := Nat.le_trans (setK_len _) (rawDeps_le id l)
theorem pat_at {w : World} {id : PidV} {l : List OpV} {A A' : Option Addr} {c c' n : Nat} (h1 : PidsAt w A (depsV id l).length (depsV id l)) (h2 : OpsAt w A' n l) (hn : n ≤ 300) : PatAt w (patC id A (depsV id l).length c A' n c') (id, depsV id l, l) := by
 have e := h2.len
 subst e
 exact ⟨⟨A, c, A', c', rfl, h1, h2⟩, by have := depsV_le id l; unfold maxLen; show (depsV id l).length ≤ _; omega, by unfold maxLen; show l.length ≤ _; omega⟩
set_option maxRecDepth 100000 in
set_option maxHeartbeats 4000000 in
theorem make18_any (id : PidV) (l : List OpV) (w : World) (A : Option Addr) (n c : Nat) (hn : n ≤ 300) (h : OpsAt w A n l) :
  Calls Tryz.prog 130 #[.agg (encP id).toArray, .slice A n c] w (MadeRet w (makeV18 id l) (makeN18 id l)) := by
 have K1 : Hid (Blk ((w.alloc (.cells (encP id).toArray 27)).alloc (.cells #[.int .u8 0, .int .u16 0, .slice none 0 0, .slice none 0 0] 31)) w.heap.size 27 (encP id).toArray) := (Blk.new _ _ _).alloc _
 have K2 : Hid (Blk ((w.alloc (.cells (encP id).toArray 27)).alloc (.cells #[.int .u8 0, .int .u16 0, .slice none 0 0, .slice none 0 0] 31)) (w.heap.size + 1) 31 #[.int .u8 0, .int .u16 0, .slice none 0 0, .slice none 0 0]) := Blk.newAt (by simp) _ _
 have B0 : Hid (Below w.heap.size w ((w.alloc (.cells (encP id).toArray 27)).alloc (.cells #[.int .u8 0, .int .u16 0, .slice none 0 0, .slice none 0 0] 31))) := ((Below.refl _ _).alloc (Nat.le_refl _) _).alloc (by simp) _
 have hcD : ∀ args u, (callFunc 182 args).run Tryz.prog u = .ok (.enter 182 args) u := enters_of Tryz.func182 (by kernel_rfl) rfl
 have hcC : ∀ args u, (callFunc 188 args).run Tryz.prog u = .ok (.enter 188 args) u := enters_of Tryz.func188 (by kernel_rfl) rfl
 go_enter Tryz.func130, Tryz.ntmps130
 go_upto_region 1 with fail
 generalize ((w.alloc (.cells (encP id).toArray 27)).alloc (.cells #[.int .u8 0, .int .u16 0, .slice none 0 0, .slice none 0 0] 31)) = w2 at *
 have L2 := Lib.hid (h.ext B0.out)
 have HD := Lib.hid (fun (u : World) (hu : Below w2.heap.size w2 u) => depsP id l u A n c hn (L2.out.ext hu))
 have HC := Lib.hid (fun (u : World) (hu : Below w2.heap.size w2 u) => cloneO l u A n c (by omega) (L2.out.ext hu))
 have L0 := Lib.hid h
 clear h
 go_cut [6] (fun s wx => ∃ (g : Nat) (A1 : Option Addr) (c1 : Nat) (A2 : Option Addr) (c2 : Nat), s = .pointer (some ⟨g, 0, none⟩) ∧ Blk wx g 31 (patC id A1 (depsV id l).length c1 A2 n c2).toArray ∧ wx.ownsRow w2.heap.size 27 2 (.slice A1 (depsV id l).length c1) (depsV id l).length ((depsV id l).flatMap encP) ∧ wx.ownsRow w2.heap.size 122 8 (.slice A2 n c2) n (l.flatMap encO) ∧ Below w2.heap.size w2 wx)
 case first =>
  refine wp_region_held (S := fun w' => Below w2.heap.size w2 w') mixedS ?_
  have B3 : Hid (Below w2.heap.size w2 w2.drew) := (Below.refl _ _).drew
  change wpAnyH _ _ _ _ _ _ _ _ w2.drew
  generalize w2.drew = w3 at *
  simp only [List.size_toArray, List.length_cons, List.length_nil]
  refine take_row (i := 0) rfl (by kernel_rfl) (by kernel_rfl) (by kernel_rfl) (fun _ _ _ h => h) rfl rfl (fun _ h => K1.out.ext h) underPid rfl infoPid B3.out ?_
  simp only [Act.put, List.setIfInBounds_toArray, List.set_cons_zero, List.set_cons_succ]
  refine take_row (i := 1) rfl (by kernel_rfl) (by kernel_rfl) (by kernel_rfl) (fun _ _ _ h => h) rfl rfl (fun _ h => K1.out.ext h) underPid rfl infoPid B3.out ?_
  simp only [Act.put, List.setIfInBounds_toArray, List.set_cons_zero, List.set_cons_succ]
  refine take_move (i := 2) (v := (.slice A n c)) rfl (by kernel_rfl) (by kernel_rfl) (by kernel_rfl) (fun _ _ _ h => h) rfl rfl B3.out ?_
  simp only [Act.put, List.setIfInBounds_toArray, List.set_cons_zero, List.set_cons_succ]
  refine take_move (i := 4) (v := (.slice A n c)) rfl (by kernel_rfl) (by kernel_rfl) (by kernel_rfl) (fun _ _ _ h => h) rfl rfl B3.out ?_
  simp only [Act.put, List.setIfInBounds_toArray, List.set_cons_zero, List.set_cons_succ]
  refine wpAnyH_all (rs := [3, 7]) (by kernel_rfl) (by simp) ?_
  intro i hi
  simp only [List.mem_cons, List.not_mem_nil, or_false] at hi
  rcases hi with rfl | rfl
  ·refine wpOp_of rfl rfl (wp_called (args := #[.agg (encP id).toArray, .slice A n c]) hcD (by simp only [List.map_toArray, List.map_cons, List.map_nil]; rfl) (HD.out w3 B3.out) ?_)
   rintro e w_3 ⟨v_4, rfl, o_1, h_2⟩
   have o_1 := Lib.hid (own_mono' o_1 B3.out.size)
   obtain ⟨A1, c1, rfl, hc1, _⟩ := Sl.of_own o_1.out
   refine ⟨_, rfl, ext_trans B3.out h_2, ?_⟩
   simp only [Act.put, List.setIfInBounds_toArray, List.set_cons_zero, List.set_cons_succ]
   have B_5 := Lib.hid (ext_trans B3.out h_2)
   clear B3
   clear h_2
   refine wpAnyH_all (rs := [5, 7]) (by kernel_rfl) (by simp) ?_
   intro i hi
   simp only [List.mem_cons, List.not_mem_nil, or_false] at hi
   rcases hi with rfl | rfl
   ·refine wpOp_of rfl rfl (wp_called (args := #[.slice A n c]) hcC (by simp only [List.map_toArray, List.map_cons, List.map_nil]; rfl) (HC.out w_3 B_5.out) ?_)
    rintro e w_8 ⟨v_9, rfl, o_6, h_7⟩
    have o_6 := Lib.hid (own_mono' o_6 B_5.out.size)
    obtain ⟨A2, c2, rfl, hc2, _⟩ := Sl.of_own o_6.out
    refine ⟨_, rfl, ext_trans B_5.out h_7, ?_⟩
    simp only [Act.put, List.setIfInBounds_toArray, List.set_cons_zero, List.set_cons_succ]
    have B_10 := Lib.hid (ext_trans B_5.out h_7)
    have F_11 := Lib.hid (own_ext o_1.out h_7)
    clear B_5 o_1
    clear h_7
    refine takeV (i := 6) rfl (by kernel_rfl) (by kernel_rfl) (by kernel_rfl) (fun _ _ _ h => h) rfl (fun w' _ => exBuild (by simp only [List.map_toArray, List.map_cons, List.map_nil]; rfl) (buildPat id A1 (depsV id l).length c1 A2 n c2 w')) B_10.out ?_
    simp only [Act.put, List.setIfInBounds_toArray, List.set_cons_zero, List.set_cons_succ]
    refine wpAnyH_all (rs := [7]) (by kernel_rfl) (by simp) ?_
    intro i hi
    simp only [List.mem_cons, List.not_mem_nil, or_false] at hi
    subst hi
    refine wpOp_of rfl rfl (wp_alloced (allocPat _) ?_)
    refine ⟨ext_trans B_10.out (below_new _ _), ?_⟩
    simp only [Act.put, List.setIfInBounds_toArray, List.set_cons_zero, List.set_cons_succ]
    have k_12 := Blk.new w_8 31 #[.int .u8 0, .int .u16 0, .slice none 0 0, .slice none 0 0]
    have h_13 := below_new w_8 (.cells #[.int .u8 0, .int .u16 0, .slice none 0 0, .slice none 0 0] 31)
    have gz_16 : w2.heap.size ≤ w_8.heap.size := B_10.out.size
    generalize (w_8.alloc (.cells #[.int .u8 0, .int .u16 0, .slice none 0 0, .slice none 0 0] 31)) = w_14 at *
    have k_12 := Lib.hid k_12
    have B_17 := Lib.hid (ext_trans B_10.out h_13)
    have F_18 := Lib.hid (own_ext F_11.out h_13)
    have F_19 := Lib.hid (own_ext o_6.out h_13)
    clear B_10 F_11 o_6
    clear h_13
    generalize w_8.heap.size = g at *
    refine wpAnyH_all (rs := [8]) (by kernel_rfl) (by simp) ?_
    intro i hi
    simp only [List.mem_cons, List.not_mem_nil, or_false] at hi
    subst hi
    refine wpOp_of rfl rfl (wp_stored (cs := (patC id A1 (depsV id l).length c1 A2 n c2).toArray) rfl rfl k_12.out infoPat rfl patC_one ?_)
    refine ⟨below_setRow B_17.out gz_16 _, ?_⟩
    have KK := Lib.hid (k_12.out.row (patC id A1 (depsV id l).length c1 A2 n c2).toArray)
    have DD := Lib.hid (own_rowFar (cs' := (patC id A1 (depsV id l).length c1 A2 n c2).toArray) F_18.out k_12.out (by decide))
    have CC := Lib.hid (own_rowFar (cs' := (patC id A1 (depsV id l).length c1 A2 n c2).toArray) F_19.out k_12.out (by decide))
    have BB := Lib.hid (below_setRow B_17.out gz_16 (patC id A1 (depsV id l).length c1 A2 n c2).toArray)
    generalize (w_14.setRow g (patC id A1 (depsV id l).length c1 A2 n c2).toArray) = w9 at *
    refine wpAnyH_done (by kernel_rfl) ?_ _
    go_wp2_with fail
    go_meet
    case rel => exact ⟨g, A1, c1, A2, c2, rfl, KK.out, DD.out, CC.out, BB.out⟩
   ·refine wpOp_of rfl rfl (wp_alloced (allocPat _) ?_)
    refine ⟨ext_trans B_5.out (below_new _ _), ?_⟩
    simp only [Act.put, List.setIfInBounds_toArray, List.set_cons_zero, List.set_cons_succ]
    have k_20 := Blk.new w_3 31 #[.int .u8 0, .int .u16 0, .slice none 0 0, .slice none 0 0]
    have h_21 := below_new w_3 (.cells #[.int .u8 0, .int .u16 0, .slice none 0 0, .slice none 0 0] 31)
    have gz_24 : w2.heap.size ≤ w_3.heap.size := B_5.out.size
    generalize (w_3.alloc (.cells #[.int .u8 0, .int .u16 0, .slice none 0 0, .slice none 0 0] 31)) = w_22 at *
    have k_20 := Lib.hid k_20
    have B_25 := Lib.hid (ext_trans B_5.out h_21)
    have F_26 := Lib.hid (own_ext o_1.out h_21)
    clear B_5 o_1
    clear h_21
    generalize w_3.heap.size = g at *
    refine wpAnyH_all (rs := [5]) (by kernel_rfl) (by simp) ?_
    intro i hi
    simp only [List.mem_cons, List.not_mem_nil, or_false] at hi
    subst hi
    refine wpOp_of rfl rfl (wp_called (args := #[.slice A n c]) hcC (by simp only [List.map_toArray, List.map_cons, List.map_nil]; rfl) (HC.out w_22 B_25.out) ?_)
    rintro e w_29 ⟨v_30, rfl, o_27, h_28⟩
    have o_27 := Lib.hid (own_mono' o_27 B_25.out.size)
    obtain ⟨A2, c2, rfl, hc2, _⟩ := Sl.of_own o_27.out
    refine ⟨_, rfl, ext_trans B_25.out h_28, ?_⟩
    simp only [Act.put, List.setIfInBounds_toArray, List.set_cons_zero, List.set_cons_succ]
    have B_31 := Lib.hid (ext_trans B_25.out h_28)
    have F_32 := Lib.hid (own_ext F_26.out h_28)
    have F_33 := Lib.hid (k_20.out.ext h_28)
    clear B_25 F_26 k_20
    clear h_28
    refine takeV (i := 6) rfl (by kernel_rfl) (by kernel_rfl) (by kernel_rfl) (fun _ _ _ h => h) rfl (fun w' _ => exBuild (by simp only [List.map_toArray, List.map_cons, List.map_nil]; rfl) (buildPat id A1 (depsV id l).length c1 A2 n c2 w')) B_31.out ?_
    simp only [Act.put, List.setIfInBounds_toArray, List.set_cons_zero, List.set_cons_succ]
    refine wpAnyH_all (rs := [8]) (by kernel_rfl) (by simp) ?_
    intro i hi
    simp only [List.mem_cons, List.not_mem_nil, or_false] at hi
    subst hi
    refine wpOp_of rfl rfl (wp_stored (cs := (patC id A1 (depsV id l).length c1 A2 n c2).toArray) rfl rfl F_33.out infoPat rfl patC_one ?_)
    refine ⟨below_setRow B_31.out gz_24 _, ?_⟩
    have KK := Lib.hid (F_33.out.row (patC id A1 (depsV id l).length c1 A2 n c2).toArray)
    have DD := Lib.hid (own_rowFar (cs' := (patC id A1 (depsV id l).length c1 A2 n c2).toArray) F_32.out F_33.out (by decide))
    have CC := Lib.hid (own_rowFar (cs' := (patC id A1 (depsV id l).length c1 A2 n c2).toArray) o_27.out F_33.out (by decide))
    have BB := Lib.hid (below_setRow B_31.out gz_24 (patC id A1 (depsV id l).length c1 A2 n c2).toArray)
    generalize (w_29.setRow g (patC id A1 (depsV id l).length c1 A2 n c2).toArray) = w9 at *
    refine wpAnyH_done (by kernel_rfl) ?_ _
    go_wp2_with fail
    go_meet
    case rel => exact ⟨g, A1, c1, A2, c2, rfl, KK.out, DD.out, CC.out, BB.out⟩
  ·refine wpOp_of rfl rfl (wp_alloced (allocPat _) ?_)
   refine ⟨ext_trans B3.out (below_new _ _), ?_⟩
   simp only [Act.put, List.setIfInBounds_toArray, List.set_cons_zero, List.set_cons_succ]
   have k_34 := Blk.new w3 31 #[.int .u8 0, .int .u16 0, .slice none 0 0, .slice none 0 0]
   have h_35 := below_new w3 (.cells #[.int .u8 0, .int .u16 0, .slice none 0 0, .slice none 0 0] 31)
   have gz_38 : w2.heap.size ≤ w3.heap.size := B3.out.size
   generalize (w3.alloc (.cells #[.int .u8 0, .int .u16 0, .slice none 0 0, .slice none 0 0] 31)) = w_36 at *
   have k_34 := Lib.hid k_34
   have B_39 := Lib.hid (ext_trans B3.out h_35)
   clear B3
   clear h_35
   generalize w3.heap.size = g at *
   refine wpAnyH_all (rs := [3]) (by kernel_rfl) (by simp) ?_
   intro i hi
   simp only [List.mem_cons, List.not_mem_nil, or_false] at hi
   subst hi
   refine wpOp_of rfl rfl (wp_called (args := #[.agg (encP id).toArray, .slice A n c]) hcD (by simp only [List.map_toArray, List.map_cons, List.map_nil]; rfl) (HD.out w_36 B_39.out) ?_)
   rintro e w_42 ⟨v_43, rfl, o_40, h_41⟩
   have o_40 := Lib.hid (own_mono' o_40 B_39.out.size)
   obtain ⟨A1, c1, rfl, hc1, _⟩ := Sl.of_own o_40.out
   refine ⟨_, rfl, ext_trans B_39.out h_41, ?_⟩
   simp only [Act.put, List.setIfInBounds_toArray, List.set_cons_zero, List.set_cons_succ]
   have B_44 := Lib.hid (ext_trans B_39.out h_41)
   have F_45 := Lib.hid (k_34.out.ext h_41)
   clear B_39 k_34
   clear h_41
   refine wpAnyH_all (rs := [5]) (by kernel_rfl) (by simp) ?_
   intro i hi
   simp only [List.mem_cons, List.not_mem_nil, or_false] at hi
   subst hi
   refine wpOp_of rfl rfl (wp_called (args := #[.slice A n c]) hcC (by simp only [List.map_toArray, List.map_cons, List.map_nil]; rfl) (HC.out w_42 B_44.out) ?_)
   rintro e w_48 ⟨v_49, rfl, o_46, h_47⟩
   have o_46 := Lib.hid (own_mono' o_46 B_44.out.size)
   obtain ⟨A2, c2, rfl, hc2, _⟩ := Sl.of_own o_46.out
   refine ⟨_, rfl, ext_trans B_44.out h_47, ?_⟩
   simp only [Act.put, List.setIfInBounds_toArray, List.set_cons_zero, List.set_cons_succ]
   have B_50 := Lib.hid (ext_trans B_44.out h_47)
   have F_51 := Lib.hid (F_45.out.ext h_47)
   have F_52 := Lib.hid (own_ext o_40.out h_47)
   clear B_44 F_45 o_40
   clear h_47
   refine takeV (i := 6) rfl (by kernel_rfl) (by kernel_rfl) (by kernel_rfl) (fun _ _ _ h => h) rfl (fun w' _ => exBuild (by simp only [List.map_toArray, List.map_cons, List.map_nil]; rfl) (buildPat id A1 (depsV id l).length c1 A2 n c2 w')) B_50.out ?_
   simp only [Act.put, List.setIfInBounds_toArray, List.set_cons_zero, List.set_cons_succ]
   refine wpAnyH_all (rs := [8]) (by kernel_rfl) (by simp) ?_
   intro i hi
   simp only [List.mem_cons, List.not_mem_nil, or_false] at hi
   subst hi
   refine wpOp_of rfl rfl (wp_stored (cs := (patC id A1 (depsV id l).length c1 A2 n c2).toArray) rfl rfl F_51.out infoPat rfl patC_one ?_)
   refine ⟨below_setRow B_50.out gz_38 _, ?_⟩
   have KK := Lib.hid (F_51.out.row (patC id A1 (depsV id l).length c1 A2 n c2).toArray)
   have DD := Lib.hid (own_rowFar (cs' := (patC id A1 (depsV id l).length c1 A2 n c2).toArray) F_52.out F_51.out (by decide))
   have CC := Lib.hid (own_rowFar (cs' := (patC id A1 (depsV id l).length c1 A2 n c2).toArray) o_46.out F_51.out (by decide))
   have BB := Lib.hid (below_setRow B_50.out gz_38 (patC id A1 (depsV id l).length c1 A2 n c2).toArray)
   generalize (w_48.setRow g (patC id A1 (depsV id l).length c1 A2 n c2).toArray) = w9 at *
   refine wpAnyH_done (by kernel_rfl) ?_ _
   go_wp2_with fail
   go_meet
   case rel => exact ⟨g, A1, c1, A2, c2, rfl, KK.out, DD.out, CC.out, BB.out⟩
 case rest =>
  obtain ⟨g, A1, c1, A2, c2, rfl, kg, od, oc, hbx⟩ := hcut
  obtain ⟨wx, rfl⟩ : ∃ wx, wx = wc := ⟨_, rfl⟩
  have KG := Lib.hid kg
  have OD := Lib.hid od
  have OC := Lib.hid oc
  have B3 := Lib.hid (B0.out.trans (hbx.mono B0.out.size))
  have PA : Hid (PatAt wx (patC id A1 (depsV id l).length c1 A2 n c2) (id, depsV id l, l)) := by
   obtain ⟨A3, c3, he, _, P3⟩ := PidsAt.of_own OD.out rfl
   injection he with e1 e2 e3
   subst e1 e3
   obtain ⟨A4, c4, he, _, P4⟩ := OpsAt.of_own OC.out L2.out.len L2.out.ok
   injection he with e1 e2 e3
   subst e1 e3
   exact pat_at P3 P4 hn
  have HG := Lib.hid (good18_any (id, depsV id l, l) wx _ PA.out)
  have KR := Lib.hid (K2.out.ext hbx)
  have hgr : Hid (w.heap.size ≤ w.heap.size + 1) := Nat.le_succ _
  clear kg od hbx B0 K1 K2 HD hcD HC hcC
  generalize w.heap.size + 1 = gr at *
  cases hp : patB (id, depsV id l, l)
  ·rw [hp] at HG
   have HM : Hid (makeV18 id l = zeroPat ∧ makeN18 id l = 1) := ⟨by unfold makeV18; simp [hp], by unfold makeN18; simp [hp]⟩
   clear hp
   go_wp2_with (refine wpList_load_row rfl 31 _ (by rfl) g (by rfl) _ _ _ _ KG.out underPat rfl infoPat ?_)
   refine HG.out.mono ?_
   rintro e w4 ⟨rfl, b4⟩
   have KG := Lib.hid (KG.out.ext b4)
   have KR := Lib.hid (KR.out.ext b4)
   have OD := Lib.hid (own_ext OD.out b4)
   have OC := Lib.hid (own_ext OC.out b4)
   have B4 := Lib.hid (B3.out.trans (b4.mono B3.out.size))
   clear b4 HG B3 PA
   have KZ := Lib.hid (KR.out.row #[.int .u8 0, .int .u16 0, .slice none 0 0, .slice none 0 0])
   have OD := Lib.hid (own_rowFar (cs' := #[.int .u8 0, .int .u16 0, .slice none 0 0, .slice none 0 0]) OD.out KR.out (by decide))
   have OC := Lib.hid (own_rowFar (cs' := #[.int .u8 0, .int .u16 0, .slice none 0 0, .slice none 0 0]) OC.out KR.out (by decide))
   have B5 := Lib.hid (below_setRow B4.out hgr.out #[.int .u8 0, .int .u16 0, .slice none 0 0, .slice none 0 0])
   have HI : Hid ((Tryz.prog.info? 31).map (·.size) = some (#[.int .u8 0, .int .u16 0, .slice none 0 0, .slice none 0 0] : Array Value).size) := infoPat
   go_wp2_with (first
    | (refine wpList_load_row rfl 31 _ (by rfl) g (by rfl) _ _ _ _ KG.out underPat rfl infoPat ?_)
    | (refine wpList_built (buildZero _) (by rfl) ?_)
    | (refine wpList_store_row rfl 31 _ _ (by rfl) gr #[.int .u8 0, .int .u16 0, .slice none 0 0, .slice none 0 0] (by rfl) (by rfl) _ _ KR.out HI.out rfl zeroC_one ?_))
   generalize (w4.setRow gr #[.int .u8 0, .int .u16 0, .slice none 0 0, .slice none 0 0]) = w5 at *
   have z0 := KZ.out.cell 0
   have z1 := KZ.out.cell 1
   have z2 := KZ.out.cell 2
   have z3 := KZ.out.cell 3
   simp at z0 z1 z2 z3
   refine bodyPost_ret (v := .tuple #[.agg (#[.int .u8 0, .int .u16 0, .slice none 0 0, .slice none 0 0] : Array Value), .int .i64 1]) ?_ rfl ?_
   ·simp [results, Tryz.results130, go_sem, z0, z1, z2, z3]
   rw [HM.out.1, HM.out.2]
   refine ⟨_, rfl, ?_, B5.out⟩
   exact zero_at _
  ·rw [hp] at HG
   have HM : Hid (makeV18 id l = (id, depsV id l, l) ∧ makeN18 id l = 0) := ⟨by unfold makeV18; simp [hp], by unfold makeN18; simp [hp]⟩
   clear hp
   go_wp2_with (refine wpList_load_row rfl 31 _ (by rfl) g (by rfl) _ _ _ _ KG.out underPat rfl infoPat ?_)
   refine HG.out.mono ?_
   rintro e w4 ⟨rfl, b4⟩
   have KG := Lib.hid (KG.out.ext b4)
   have KR := Lib.hid (KR.out.ext b4)
   have OD := Lib.hid (own_ext OD.out b4)
   have OC := Lib.hid (own_ext OC.out b4)
   have B4 := Lib.hid (B3.out.trans (b4.mono B3.out.size))
   clear b4 HG B3 PA
   have KZ := Lib.hid (KR.out.row (patC id A1 (depsV id l).length c1 A2 n c2).toArray)
   have OD := Lib.hid (own_rowFar (cs' := (patC id A1 (depsV id l).length c1 A2 n c2).toArray) OD.out KR.out (by decide))
   have OC := Lib.hid (own_rowFar (cs' := (patC id A1 (depsV id l).length c1 A2 n c2).toArray) OC.out KR.out (by decide))
   have B5 := Lib.hid (below_setRow B4.out hgr.out (patC id A1 (depsV id l).length c1 A2 n c2).toArray)
   have HI : Hid ((Tryz.prog.info? 31).map (·.size) = some ((patC id A1 (depsV id l).length c1 A2 n c2).toArray).size) := infoPat
   go_wp2_with (first
    | (refine wpList_load_row rfl 31 _ (by rfl) g (by rfl) _ _ _ _ KG.out underPat rfl infoPat ?_)
    | (refine wpList_built (buildZero _) (by rfl) ?_)
    | (refine wpList_store_row rfl 31 _ _ (by rfl) gr (patC id A1 (depsV id l).length c1 A2 n c2).toArray (by rfl) (by rfl) _ _ KR.out HI.out rfl patC_one ?_))
   generalize (w4.setRow gr (patC id A1 (depsV id l).length c1 A2 n c2).toArray) = w5 at *
   have z0 := KZ.out.cell 0
   have z1 := KZ.out.cell 1
   have z2 := KZ.out.cell 2
   have z3 := KZ.out.cell 3
   simp [patC] at z0 z1 z2 z3
   refine bodyPost_ret (v := .tuple #[.agg ((patC id A1 (depsV id l).length c1 A2 n c2).toArray : Array Value), .int .i64 0]) ?_ rfl ?_
   ·simp [results, Tryz.results130, go_sem, z0, z1, z2, z3, patC]
   rw [HM.out.1, HM.out.2]
   refine ⟨_, rfl, ?_, B5.out⟩
   obtain ⟨A3, c3, he, _, P3⟩ := PidsAt.of_own OD.out rfl
   injection he with e1 e2 e3
   subst e1 e3
   obtain ⟨A4, c4, he, _, P4⟩ := OpsAt.of_own OC.out L2.out.len L2.out.ok
   injection he with e1 e2 e3
   subst e1 e3
   exact pat_at P3 P4 hn
end Go.Proofs.YtihggkmjalofiaaGreatDoor

/- A vertex' name; the chapter's example of patches: walked. -/
namespace Go.Proofs.YtihggkmjalofiaaGreatDoor
open Go.RowKit

def vidOf (id : PidV) (i : Int) : VidV := (id, ⟨(i % 256).toNat, by omega⟩)
theorem vidOf_enc (id : PidV) (i : Int) : encV (vidOf id i) = [.int .u8 ((id.1.val : Nat) : Int), .int .u16 ((id.2.val : Nat) : Int), .int .u8 (i % 256)] := by
 have : (((i % 256).toNat : Nat) : Int) = i % 256 := by omega
 simp [encV, vidOf, this]
set_option maxRecDepth 100000 in
set_option maxHeartbeats 1000000 in
theorem vid18_any (id : PidV) (i : Int) (w : World) : Calls Tryz.prog 131 #[.agg (encP id).toArray, .int .i64 i] w (RetB w (.agg (encV (vidOf id i)).toArray)) := by
 rw [vidOf_enc]
 have hcs : (encP id).toArray = #[.int .u8 ((id.1.val : Nat) : Int), .int .u16 ((id.2.val : Nat) : Int)] := rfl
 rw [hcs]
 generalize ((id.1.val : Nat) : Int) = a
 generalize ((id.2.val : Nat) : Int) = s
 clear hcs
 go_enter Tryz.func131, Tryz.ntmps131
 go_wp2
 refine bodyPost_ret (v := .agg #[.int .u8 a, .int .u16 s, .int .u8 (i % 256)]) (by simp [results, Tryz.results131, go_sem]) rfl ⟨rfl, ?_⟩
 exact ((Below.refl _ _).alloc (Nat.le_refl _) _).alloc (by simp) _
def vid0 : VidV := ((0, 0), 0)
theorem ops_new (w : World) (l : List OpV) (ho : ∀ o ∈ l, OpV.ok o) : OpsAt (w.alloc (.cells (l.flatMap encO).toArray 122)) (some ⟨w.heap.size, 0, none⟩) l.length l :=
 ⟨rfl, sl_fresh w _ 122 8 l.length _ (flatMap_len encO l (fun o _ => encO_len o)) rfl, ho⟩
end Go.Proofs.YtihggkmjalofiaaGreatDoor

/- Patches that come in: as they lie. Whether any may be: the statement walked. -/
namespace Go.Proofs.YtihggkmjalofiaaGreatDoor
open Go.RowKit

end Go.Proofs.YtihggkmjalofiaaGreatDoor

/- A patch copied: walked. -/
namespace Go.Proofs.YtihggkmjalofiaaGreatDoor
open Go.RowKit

end Go.Proofs.YtihggkmjalofiaaGreatDoor

/- Patches made: the statement walked. -/
namespace Go.Proofs.YtihggkmjalofiaaGreatDoor
open Go.RowKit

end Go.Proofs.YtihggkmjalofiaaGreatDoor

/- WHAT A PATCH NAMES COMES AHEAD: the plain law, and the statement walked. -/
namespace Go.Proofs.YtihggkmjalofiaaGreatDoor
open Go.RowKit

theorem patB_parts {p : PatV} (h : patB p = true) : p.2.1 = depsV p.1 p.2.2 ∧ 1 ≤ p.2.2.length ∧ p.2.2.length ≤ 200 ∧ ∀ (k : Nat) o, p.2.2[k]? = some o → oneR p k o = true := by
 rw [patB_head, Bool.and_eq_true] at h
 have h1 := h.1
 unfold headB at h1
 simp only [Bool.and_eq_true, decide_eq_true_eq] at h1
 exact ⟨h1.2.2.2, h1.2.1, h1.2.2.1, fun k o ho => onesB_get h.2 (List.getElem?_eq_some_iff.1 ho).1 ho⟩
theorem oneR_parts {p : PatV} {k : Nat} {o : OpV} (h : oneR p k o = true) : goodO p.1 k o = true ∧ ∀ v ∈ refsO o, isLater p.1 v = false := by
 unfold oneR at h
 simp only [Bool.and_eq_true, Bool.not_eq_true'] at h
 exact ⟨h.1, fun v hv => by
  have := List.any_eq_false.1 h.2.1 v hv
  simpa using this⟩
end Go.Proofs.YtihggkmjalofiaaGreatDoor
