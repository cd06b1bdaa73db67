/- Of nil nothing hangs on anything; the chapter's example: walked. -/
import Derived.Test.YtnhbbggpgieipaaGreatHangs
import Derived.Test.YtnhbbggpgieipaaGreatIdxh
namespace Go.Proofs.YtnhbbggpgieipaaGreat
open Go.RowKit

/-- a slice literal of structs, in a region that draws its order -/
theorem wp_lits {P : Program} {Q : Exit → Act → World → Prop} {K : Act → World → Prop} {a : Act} {w : World} {d : Option Tmp} {ty : TypeId} {pos : String} {after : Array Edge} {gd : Option (Nat × Bool)} {t e : TypeId} {size bytes : Nat} (T : SlT P t e size bytes) {len : Nat} {parts : Array (Nat × Operand)} (vs : List (List Value)) (hlen : len = vs.length) (hl : 0 < vs.length) (hv : ∀ x ∈ vs, x.length = size)
    (hs : vs.length * size ≤ 16777216) (hx : (parts.map fun (i, x) => (i, a.eval x)).toList = ((vs.map fun x => Value.agg x.toArray).zipIdx 0).map fun x => (x.2, x.1))
    (h : K (a.put d (.slice (some ⟨w.heap.size, 0, none⟩) len len)) (w.alloc (.cells vs.flatten.toArray e))) : Oper.wp P ⟨d, .buildSlice t len parts, ty, pos, after, gd⟩ a w K Q := by
  obtain ⟨i, z, hi, hz, hsz, hby, hzs⟩ := T.hi
  have hpos := T.pos
  subst hlen
  have h1 : 0 < vs.length * size := Nat.mul_pos hl hpos
  refine wp_buildSlice t e vs.length parts rfl vs.flatten.toArray i z T.ht hi hz (by rw [hsz]; omega) (by rw [hsz]; omega) ?_ h
  rw [hx, hsz]
  exact fill_vals hpos vs hv _ (by simp)
def w48o : OpV := (3, ((1, 1), 0), vid0, ByteArray.empty)
def w48a : PatV := ((1, 1), [], [w31o])
def w48b : PatV := ((1, 2), [(1, 1)], [w48o])
def w48c : PatV := ((2, 1), [], [w31o])
def w48l : List PatV := [w48a, w48b, w48c]
theorem w48_above : someD (namesH w48l) (fun i => hasR (relH w48l) i (placeD (namesH w48l) (1, 2))) = [(1, 1)] := by kernel_rfl
theorem w48_heads : someD (namesH w48l) (headR (relH w48l) (namesH w48l).length) = [(1, 2), (2, 1)] := by kernel_rfl
theorem w48_without : someD (namesH w48l) (fun i => withoutR (relH w48l) (placeD (namesH w48l) (1, 1)) i) = [(2, 1)] := by kernel_rfl
theorem w48_op (w : World) : OpsAt (w.alloc (.cells (encO w48o).toArray 78)) (some ⟨w.heap.size, 0, none⟩) 1 [w48o] := by
  have := ops_new w [w48o] (by simp [OpV.ok, w48o, maxLen])
  simpa using this
theorem buildA48 (b : Nat) (w : World) : (Instr.build 37 #[(0, .agg (encP (1, 1)).toArray), (2, .slice (some ⟨b, 0, none⟩) 1 1)]).run Tryz.prog w = .ok (.agg (patC (1, 1) none 0 0 (some ⟨b, 0, none⟩) 1 1).toArray) w := by kernel_rfl
theorem buildB48 (b b' : Nat) (w : World) : (Instr.build 37 #[(0, .agg (encP (1, 2)).toArray), (1, .slice (some ⟨b, 0, none⟩) 1 1), (2, .slice (some ⟨b', 0, none⟩) 1 1)]).run Tryz.prog w = .ok (.agg (patC (1, 2) (some ⟨b, 0, none⟩) 1 1 (some ⟨b', 0, none⟩) 1 1).toArray) w := by kernel_rfl
theorem buildV48 (w : World) : (Instr.build 76 #[(0, .agg (encP (1, 1)).toArray)]).run Tryz.prog w = .ok (.agg #[.int .u8 1, .int .u16 1, .int .u8 0]) w := by kernel_rfl
theorem buildO48 (w : World) : (Instr.build 78 #[(0, .int .u8 3), (1, .agg #[.int .u8 1, .int .u16 1, .int .u8 0])]).run Tryz.prog w = .ok (.agg (encO w48o).toArray) w := by kernel_rfl
theorem buildP21 (w : World) : (Instr.build 33 #[(0, .int .u8 2), (1, .int .u16 1)]).run Tryz.prog w = .ok (.agg #[.int .u8 2, .int .u16 1]) w := by kernel_rfl
theorem buildC48 (b : Nat) (w : World) : (Instr.build 37 #[(0, .agg #[.int .u8 2, .int .u16 1]), (2, .slice (some ⟨b, 0, none⟩) 1 1)]).run Tryz.prog w = .ok (.agg (patC (2, 1) none 0 0 (some ⟨b, 0, none⟩) 1 1).toArray) w := by kernel_rfl
theorem pats_three {w : World} {b1 b2 b3 b4 : Nat} (o1 : OpsAt w (some ⟨b1, 0, none⟩) 1 [w31o]) (p2 : PidsAt w (some ⟨b2, 0, none⟩) 1 [(1, 1)]) (o3 : OpsAt w (some ⟨b3, 0, none⟩) 1 [w48o]) (o4 : OpsAt w (some ⟨b4, 0, none⟩) 1 [w31o]) :
    PatsAt (w.alloc (.cells [patC (1, 1) none 0 0 (some ⟨b1, 0, none⟩) 1 1, patC (1, 2) (some ⟨b2, 0, none⟩) 1 1 (some ⟨b3, 0, none⟩) 1 1, patC (2, 1) none 0 0 (some ⟨b4, 0, none⟩) 1 1].flatten.toArray 37)) (some ⟨w.heap.size, 0, none⟩) 3 w48l := by
  have hb := below_new w (.cells [patC (1, 1) none 0 0 (some ⟨b1, 0, none⟩) 1 1, patC (1, 2) (some ⟨b2, 0, none⟩) 1 1 (some ⟨b3, 0, none⟩) 1 1, patC (2, 1) none 0 0 (some ⟨b4, 0, none⟩) 1 1].flatten.toArray 37)
  refine ⟨rfl, [patC (1, 1) none 0 0 (some ⟨b1, 0, none⟩) 1 1, patC (1, 2) (some ⟨b2, 0, none⟩) 1 1 (some ⟨b3, 0, none⟩) 1 1, patC (2, 1) none 0 0 (some ⟨b4, 0, none⟩) 1 1], ⟨rfl, ?_⟩, sl_fresh w _ 37 4 3 _ rfl rfl⟩
  intro k r p hr hp
  match k, hr, hp with
  | 0, hr, hp =>
    simp only [w48l, List.getElem?_cons_zero, Option.some.injEq] at hr hp
    subst hr hp
    exact ⟨⟨none, 0, some ⟨b1, 0, none⟩, 1, rfl, ⟨rfl, rfl, fun h => absurd h (by decide)⟩, o1.ext hb⟩, by decide, by decide⟩
  | 1, hr, hp =>
    simp only [w48l, List.getElem?_cons_succ, List.getElem?_cons_zero, Option.some.injEq] at hr hp
    subst hr hp
    exact ⟨⟨some ⟨b2, 0, none⟩, 1, some ⟨b3, 0, none⟩, 1, rfl, p2.ext hb, o3.ext hb⟩, by decide, by decide⟩
  | 2, hr, hp =>
    simp only [w48l, List.getElem?_cons_succ, List.getElem?_cons_zero, Option.some.injEq] at hr hp
    subst hr hp
    exact ⟨⟨none, 0, some ⟨b4, 0, none⟩, 1, rfl, ⟨rfl, rfl, fun h => absurd h (by decide)⟩, o4.ext hb⟩, by decide, by decide⟩
  | n + 3, hr, hp => simp at hr
theorem pids_one (w : World) (x : PidV) : PidsAt (w.alloc (.cells (encP x).toArray 33)) (some ⟨w.heap.size, 0, none⟩) 1 [x] := ⟨rfl, sl_fresh w _ 33 2 1 _ rfl (by simp)⟩
theorem pids_two (w : World) (x y : PidV) : PidsAt (w.alloc (.cells [encP x, encP y].flatten.toArray 33)) (some ⟨w.heap.size, 0, none⟩) 2 [x, y] := ⟨rfl, sl_fresh w _ 33 2 2 _ rfl rfl⟩
set_option maxRecDepth 100000 in
set_option maxHeartbeats 8000000 in
theorem works48 (w : World) : Calls Tryz.prog 25 #[] w (RetB w (.bool true)) := by
  have KA : Hid (Blk ((w.alloc (.cells #[.int .u8 1, .int .u16 1] 33)).alloc (.cells #[.int .u8 1, .int .u16 2] 33)) w.heap.size 33 (encP (1, 1)).toArray) := (Blk.new _ _ _).alloc _
  have KB : Hid (Blk ((w.alloc (.cells #[.int .u8 1, .int .u16 1] 33)).alloc (.cells #[.int .u8 1, .int .u16 2] 33)) (w.heap.size + 1) 33 (encP (1, 2)).toArray) := Blk.newAt (by simp) _ _
  have B2 : Hid (Below w.heap.size w ((w.alloc (.cells #[.int .u8 1, .int .u16 1] 33)).alloc (.cells #[.int .u8 1, .int .u16 2] 33))) := ((Below.refl _ _).alloc (Nat.le_refl _) _).alloc (by simp) _
  go_enter Tryz.func25, Tryz.ntmps25
  go_upto_region 2 with (first
    | (refine wpList_built (buildP11 _) (by rfl) ?_)
    | (refine wpList_built (buildP12 _) (by rfl) ?_))
  generalize ((w.alloc (.cells #[.int .u8 1, .int .u16 1] 33)).alloc (.cells #[.int .u8 1, .int .u16 2] 33)) = w2 at *
  obtain ⟨gb, hgb⟩ : ∃ g, g = w.heap.size + 1 := ⟨_, rfl⟩
  obtain ⟨ga, hga⟩ : ∃ g, g = w.heap.size := ⟨_, rfl⟩
  rw [← hgb] at KB ⊢
  rw [← hga] at KA ⊢
  clear hgb
  replace hga := Lib.hid hga
  obtain ⟨w3, e3⟩ : ∃ w3, Hid (w3 = w2.alloc (.cells (encO w31o).toArray 78)) := ⟨_, rfl⟩
  obtain ⟨w4, e4⟩ : ∃ w4, Hid (w4 = w3.alloc (.cells (encP (1, 1)).toArray 33)) := ⟨_, rfl⟩
  obtain ⟨w5, e5⟩ : ∃ w5, Hid (w5 = w4.alloc (.cells (encO w48o).toArray 78)) := ⟨_, rfl⟩
  obtain ⟨w6, e6⟩ : ∃ w6, Hid (w6 = w5.alloc (.cells (encO w31o).toArray 78)) := ⟨_, rfl⟩
  have b3 : Hid (Below w2.heap.size w2 w3) := by rw [e3.out]; exact below_new _ _
  have b4 : Hid (Below w3.heap.size w3 w4) := by rw [e4.out]; exact below_new _ _
  have b5 : Hid (Below w4.heap.size w4 w5) := by rw [e5.out]; exact below_new _ _
  have b6 : Hid (Below w5.heap.size w5 w6) := by rw [e6.out]; exact below_new _ _
  have b24 : Hid (Below w2.heap.size w2 w4) := b3.out.trans (b4.out.mono b3.out.size)
  have b25 : Hid (Below w2.heap.size w2 w5) := b24.out.trans (b5.out.mono b24.out.size)
  have b26 : Hid (Below w2.heap.size w2 w6) := b25.out.trans (b6.out.mono b25.out.size)
  have O1 : Hid (OpsAt w6 (some ⟨w2.heap.size, 0, none⟩) 1 [w31o]) := (((show OpsAt w3 _ 1 [w31o] by rw [e3.out]; exact w31_ops w2).ext b4.out).ext b5.out).ext b6.out
  have P2 : Hid (PidsAt w6 (some ⟨w3.heap.size, 0, none⟩) 1 [(1, 1)]) := ((show PidsAt w4 _ 1 [(1, 1)] by rw [e4.out]; exact pids_one w3 (1, 1)).ext b5.out).ext b6.out
  have O3 : Hid (OpsAt w6 (some ⟨w4.heap.size, 0, none⟩) 1 [w48o]) := (show OpsAt w5 _ 1 [w48o] by rw [e5.out]; exact w48_op w4).ext b6.out
  have O4 : Hid (OpsAt w6 (some ⟨w5.heap.size, 0, none⟩) 1 [w31o]) := by rw [Hid, e6.out]; exact w31_ops w5
  have L7 := Lib.hid (pats_three O1.out P2.out O3.out O4.out)
  obtain ⟨w7, e7⟩ : ∃ w7, Hid (w7 = (w6.alloc (.cells [patC (1, 1) none 0 0 (some ⟨w2.heap.size, 0, none⟩) 1 1, patC (1, 2) (some ⟨w3.heap.size, 0, none⟩) 1 1 (some ⟨w4.heap.size, 0, none⟩) 1 1, patC (2, 1) none 0 0 (some ⟨w5.heap.size, 0, none⟩) 1 1].flatten.toArray 37))) := ⟨_, rfl⟩
  have b7 : Hid (Below w6.heap.size w6 w7) := by rw [e7.out]; exact below_new _ _
  rw [← e7.out] at L7
  have b27 : Hid (Below w2.heap.size w2 w7) := b26.out.trans (b7.out.mono b26.out.size)
  have RA2 : Hid (w2.rangeAt ga 0 [.int .u8 1, .int .u16 1]) := KA.out.range
  have RA3 : Hid (w3.rangeAt ga 0 [.int .u8 1, .int .u16 1]) := (KA.out.ext b3.out).range
  have RB3 : Hid (w3.rangeAt gb 0 [.int .u8 1, .int .u16 2]) := (KB.out.ext b3.out).range
  have RA4 : Hid (w4.rangeAt ga 0 [.int .u8 1, .int .u16 1]) := (KA.out.ext b24.out).range
  have KA7 := Lib.hid (KA.out.ext b27.out)
  have KB7 := Lib.hid (KB.out.ext b27.out)
  have B7 := Lib.hid (B2.out.trans (b27.out.mono B2.out.size))
  have HO := Lib.hid (of48_any (c := 3) L7.out (by omega) (by intro p hp; simp only [w48l, List.mem_cons, List.not_mem_nil, or_false] at hp; rcases hp with rfl | rfl | rfl <;> decide))
  go_wp2_with (first
    | (refine wpList_load_mid rfl 33 _ (by rfl) ga 0 (by rfl) _ _ RA2.out underPid rfl infoPid ?_)
    | (refine wpList_load_mid rfl 33 _ (by rfl) ga 0 (by rfl) _ _ RA3.out underPid rfl infoPid ?_)
    | (refine wpList_load_mid rfl 33 _ (by rfl) gb 0 (by rfl) _ _ RB3.out underPid rfl infoPid ?_)
    | (refine wpList_load_mid rfl 33 _ (by rfl) ga 0 (by rfl) _ _ RA4.out underPid rfl infoPid ?_)
    | (refine wpList_lit1 opSl (cs := encO w31o) rfl (by omega) (by rfl) ?_; rw [← e3.out])
    | (refine wpList_lit1 pidSl (cs := encP (1, 1)) rfl (by omega) (by rfl) ?_; rw [← e4.out])
    | (refine wpList_lit1 opSl (cs := encO w48o) rfl (by omega) (by rfl) ?_; rw [← e5.out])
    | (refine wpList_lit1 opSl (cs := encO w31o) rfl (by omega) (by rfl) ?_; rw [← e6.out])
    | (refine wpList_lits patSl [patC (1, 1) none 0 0 (some ⟨w2.heap.size, 0, none⟩) 1 1, patC (1, 2) (some ⟨w3.heap.size, 0, none⟩) 1 1 (some ⟨w4.heap.size, 0, none⟩) 1 1, patC (2, 1) none 0 0 (some ⟨w5.heap.size, 0, none⟩) 1 1] rfl (by simp) (by simp [patC]) (by simp) (by rfl) ?_; rw [← e7.out])
    | (refine wpList_built (buildO31 _) (by rfl) ?_)
    | (refine wpList_built (buildA48 _ _) (by rfl) ?_)
    | (refine wpList_built (buildV48 _) (by rfl) ?_)
    | (refine wpList_built (buildO48 _) (by rfl) ?_)
    | (refine wpList_built (buildB48 _ _ _) (by rfl) ?_)
    | (refine wpList_built (buildP21 _) (by rfl) ?_)
    | (refine wpList_built (buildC48 _ _) (by rfl) ?_))
  have e7' : w6.alloc (.cells #[.int .u8 1, .int .u16 1, .slice none 0 0, .slice (some ⟨w2.heap.size, 0, none⟩) 1 1, .int .u8 1, .int .u16 2, .slice (some ⟨w3.heap.size, 0, none⟩) 1 1, .slice (some ⟨w4.heap.size, 0, none⟩) 1 1, .int .u8 2, .int .u16 1, .slice none 0 0, .slice (some ⟨w5.heap.size, 0, none⟩) 1 1] 37) = w7 := e7.out.symm
  rw [e7']
  clear e7'
  refine HO.out.mono ?_
  rintro e w8 ⟨g, rfl, hH, b8⟩
  have EA := w48_above
  have EH := w48_heads
  have EW := w48_without
  generalize namesH w48l = D at hH EA EH EW
  generalize relH w48l = R at hH EA EH EW
  have HH := Lib.hid hH
  have KA8 := Lib.hid (KA7.out.ext b8)
  have KB8 := Lib.hid (KB7.out.ext b8)
  have B8 := Lib.hid (B7.out.trans (b8.mono B7.out.size))
  clear hH b8 HO RA2 RA3 RB3 RA4 KA KB KA7 KB7 B2 B7 b3 b4 b5 b6 b7 b24 b25 b26 b27 O1 P2 O3 O4 L7 e3 e4 e5 e6 e7
  have HAb := Lib.hid (fun (u : World) (hu : Below w8.heap.size w8 u) => above48_any (HH.out.ext hu) (1, 2))
  rw [EA] at HAb
  have HHe := Lib.hid (fun (u : World) (hu : Below w8.heap.size w8 u) => heads48_any (HH.out.ext hu))
  rw [EH] at HHe
  have HWi := Lib.hid (fun (u : World) (hu : Below w8.heap.size w8 u) => without48_any (HH.out.ext hu) (1, 1))
  rw [EW] at HWi
  have RA := Lib.hid (fun (u : World) (hu : Below w8.heap.size w8 u) => (KA8.out.ext hu).range)
  have RB := Lib.hid (fun (u : World) (hu : Below w8.heap.size w8 u) => (KB8.out.ext hu).range)
  clear HH KA8 KB8 EA EH EW
  have hcA : ∀ args u, (callFunc 32 args).run Tryz.prog u = .ok (.enter 32 args) u := enters_of Tryz.func32 (by kernel_rfl) rfl
  have hcH : ∀ args u, (callFunc 54 args).run Tryz.prog u = .ok (.enter 54 args) u := enters_of Tryz.func54 (by kernel_rfl) rfl
  have hcW : ∀ args u, (callFunc 35 args).run Tryz.prog u = .ok (.enter 35 args) u := enters_of Tryz.func35 (by kernel_rfl) rfl
  have hcS : ∀ args u, (callFunc 50 args).run Tryz.prog u = .ok (.enter 50 args) u := enters_of Tryz.func50 (by kernel_rfl) rfl
  go_upto_region 3 with fail
  try go_frame
  refine wp_region_held (S := fun w' => Below w8.heap.size w8 w') mixedS ?_
  change wpAnyH _ _ _ _ _ _ _ _ w8.drew
  have B21 : Hid (Below w8.heap.size w8 w8.drew) := (Below.refl _ _).drew
  generalize w8.drew = w21 at B21 ⊢
  simp only [List.size_toArray, List.length_cons, List.length_nil]
  refine takeV (i := 0) (d := 24) (v := .pointer (some ⟨g, 0, none⟩)) rfl (by kernel_rfl) (by kernel_rfl) (by kernel_rfl) (fun _ _ _ h => h) rfl (fun _ _ => exMove (v := .pointer (some ⟨g, 0, none⟩)) rfl) B21.out ?_
  simp only [Act.put, List.setIfInBounds_toArray, List.set_cons_zero, List.set_cons_succ]
  refine takeV (i := 1) (d := 25) (v := .agg (encP (1, 2)).toArray) rfl (by kernel_rfl) (by kernel_rfl) (by kernel_rfl) (fun _ _ _ h => h) rfl (fun w' h => exMid rfl (RB.out w' h) underPid rfl infoPid) B21.out ?_
  simp only [Act.put, List.setIfInBounds_toArray, List.set_cons_zero, List.set_cons_succ]
  refine takeV (i := 3) (d := 27) (v := .agg (encP (1, 1)).toArray) rfl (by kernel_rfl) (by kernel_rfl) (by kernel_rfl) (fun _ _ _ h => h) rfl (fun w' h => exMid rfl (RA.out w' h) underPid rfl infoPid) B21.out ?_
  simp only [Act.put, List.setIfInBounds_toArray, List.set_cons_zero, List.set_cons_succ]
  refine wpAnyH_all (rs := [2, 4]) (by kernel_rfl) (by simp) ?_
  intro i hi
  simp only [List.mem_cons, List.not_mem_nil, or_false] at hi
  rcases hi with rfl | rfl
  · refine wpOp_of rfl rfl (wp_called (args := #[.pointer (some ⟨g, 0, none⟩), .agg (encP (1, 2)).toArray]) hcA (by simp only [List.map_toArray, List.map_cons, List.map_nil]; rfl) (HAb.out w21 B21.out) ?_)
    rintro e w_1 ⟨_, rfl, o_3, h_2⟩
    obtain ⟨A_4, c_5, rfl, _, p_6⟩ := PidsAt.of_own o_3 rfl
    have P_7 := Lib.hid p_6
    refine ⟨_, rfl, ext_trans B21.out h_2, ?_⟩
    simp only [Act.put, List.setIfInBounds_toArray, List.set_cons_zero, List.set_cons_succ]
    have B_8 := Lib.hid (ext_trans B21.out h_2)
    clear B21
    clear o_3 h_2 p_6
    refine wpAnyH_all (rs := [4]) (by kernel_rfl) (by simp) ?_
    intro i hi
    simp only [List.mem_cons, List.not_mem_nil, or_false] at hi
    subst hi
    have P_11 := Lib.hid (pids_one w_1 (1, 1))
    have h_12 : Below w_1.heap.size w_1 (w_1.alloc (.cells (encP (1, 1)).toArray 33)) := below_new _ _
    refine wpOp_of rfl rfl (wp_lit1 pidSl (cs := encP (1, 1)) rfl (by omega) rfl ?_)
    refine ⟨ext_trans B_8.out h_12, ?_⟩
    simp only [Act.put, List.setIfInBounds_toArray, List.set_cons_zero, List.set_cons_succ]
    generalize (w_1.alloc (.cells (encP (1, 1)).toArray 33)) = w_9 at *
    have B_13 := Lib.hid (ext_trans B_8.out h_12)
    have F_14 := Lib.hid (P_7.out.ext h_12)
    clear B_8 P_7
    clear h_12
    generalize w_1.heap.size = g_10 at *
    refine wpAnyH_all (rs := [5]) (by kernel_rfl) (by simp) ?_
    intro i hi
    simp only [List.mem_cons, List.not_mem_nil, or_false] at hi
    subst hi
    refine wpOp_of rfl rfl (wp_called (args := #[.slice A_4 1 c_5, .slice (some ⟨g_10, 0, none⟩) 1 1]) hcS (by simp only [List.map_toArray, List.map_cons, List.map_nil]; rfl) ((rsameP _ _ w_9 _ _ _ _ _ _ F_14.out P_11.out (by simp [maxLen])).mono fun _ _ => RetB.ofD) ?_)
    rintro e w_15 ⟨rfl, h_16⟩
    rw [decide_eq_true rfl]
    refine ⟨_, rfl, ext_trans B_13.out h_16, ?_⟩
    simp only [Act.put, List.setIfInBounds_toArray, List.set_cons_zero, List.set_cons_succ]
    have B_17 := Lib.hid (ext_trans B_13.out h_16)
    have F_18 := Lib.hid (F_14.out.ext h_16)
    have F_19 := Lib.hid (P_11.out.ext h_16)
    clear B_13 F_14 P_11
    clear h_16
    refine takeV (i := 6) (d := 30) (v := .bool true) rfl (by kernel_rfl) (by kernel_rfl) (by kernel_rfl) (fun _ _ _ h => h) rfl (fun _ _ => exMove (v := .bool true) rfl) B_17.out ?_
    simp only [Act.put, List.setIfInBounds_toArray, List.set_cons_zero, List.set_cons_succ]
    refine takeV (i := 7) (d := 31) (v := .pointer (some ⟨g, 0, none⟩)) rfl (by kernel_rfl) (by kernel_rfl) (by kernel_rfl) (fun _ _ _ h => h) rfl (fun _ _ => exMove (v := .pointer (some ⟨g, 0, none⟩)) rfl) B_17.out ?_
    simp only [Act.put, List.setIfInBounds_toArray, List.set_cons_zero, List.set_cons_succ]
    refine takeV (i := 9) (d := 33) (v := .agg (encP (1, 2)).toArray) rfl (by kernel_rfl) (by kernel_rfl) (by kernel_rfl) (fun _ _ _ h => h) rfl (fun w' h => exMid rfl (RB.out w' h) underPid rfl infoPid) B_17.out ?_
    simp only [Act.put, List.setIfInBounds_toArray, List.set_cons_zero, List.set_cons_succ]
    refine takeV (i := 10) (d := 34) (v := .agg (encP (2, 1)).toArray) rfl (by kernel_rfl) (by kernel_rfl) (by kernel_rfl) (fun _ _ _ h => h) rfl (fun w' _ => exBuild (vs := #[(0, .int .u8 2), (1, .int .u16 1)]) (by simp only [List.map_toArray, List.map_cons, List.map_nil]; rfl) (buildP21 w')) B_17.out ?_
    simp only [Act.put, List.setIfInBounds_toArray, List.set_cons_zero, List.set_cons_succ]
    refine wpAnyH_all (rs := [8, 11]) (by kernel_rfl) (by simp) ?_
    intro i hi
    simp only [List.mem_cons, List.not_mem_nil, or_false] at hi
    rcases hi with rfl | rfl
    · refine wpOp_of rfl rfl (wp_called (args := #[.pointer (some ⟨g, 0, none⟩)]) hcH (by simp only [List.map_toArray, List.map_cons, List.map_nil]; rfl) (HHe.out w_15 B_17.out) ?_)
      rintro e w_20 ⟨_, rfl, o_22, h_21⟩
      obtain ⟨A_23, c_24, rfl, _, p_25⟩ := PidsAt.of_own o_22 rfl
      have P_26 := Lib.hid p_25
      refine ⟨_, rfl, ext_trans B_17.out h_21, ?_⟩
      simp only [Act.put, List.setIfInBounds_toArray, List.set_cons_zero, List.set_cons_succ]
      have B_27 := Lib.hid (ext_trans B_17.out h_21)
      have F_28 := Lib.hid (F_18.out.ext h_21)
      have F_29 := Lib.hid (F_19.out.ext h_21)
      clear B_17 F_18 F_19
      clear o_22 h_21 p_25
      refine wpAnyH_all (rs := [11]) (by kernel_rfl) (by simp) ?_
      intro i hi
      simp only [List.mem_cons, List.not_mem_nil, or_false] at hi
      subst hi
      have P_32 := Lib.hid (pids_two w_20 (1, 2) (2, 1))
      have h_33 : Below w_20.heap.size w_20 (w_20.alloc (.cells [encP (1, 2), encP (2, 1)].flatten.toArray 33)) := below_new _ _
      refine wpOp_of rfl rfl (wp_lits pidSl [encP (1, 2), encP (2, 1)] rfl (by simp) (by simp [encP]) (by simp) (by simp only [List.map_toArray, List.map_cons, List.map_nil]; rfl) ?_)
      refine ⟨ext_trans B_27.out h_33, ?_⟩
      simp only [Act.put, List.setIfInBounds_toArray, List.set_cons_zero, List.set_cons_succ]
      generalize (w_20.alloc (.cells [encP (1, 2), encP (2, 1)].flatten.toArray 33)) = w_30 at *
      have B_34 := Lib.hid (ext_trans B_27.out h_33)
      have F_35 := Lib.hid (F_28.out.ext h_33)
      have F_36 := Lib.hid (F_29.out.ext h_33)
      have F_37 := Lib.hid (P_26.out.ext h_33)
      clear B_27 F_28 F_29 P_26
      clear h_33
      generalize w_20.heap.size = g_31 at *
      refine wpAnyH_all (rs := [12]) (by kernel_rfl) (by simp) ?_
      intro i hi
      simp only [List.mem_cons, List.not_mem_nil, or_false] at hi
      subst hi
      refine wpOp_of rfl rfl (wp_called (args := #[.slice A_23 2 c_24, .slice (some ⟨g_31, 0, none⟩) 2 2]) hcS (by simp only [List.map_toArray, List.map_cons, List.map_nil]; rfl) ((rsameP _ _ w_30 _ _ _ _ _ _ F_37.out P_32.out (by simp [maxLen])).mono fun _ _ => RetB.ofD) ?_)
      rintro e w_38 ⟨rfl, h_39⟩
      rw [decide_eq_true rfl]
      refine ⟨_, rfl, ext_trans B_34.out h_39, ?_⟩
      simp only [Act.put, List.setIfInBounds_toArray, List.set_cons_zero, List.set_cons_succ]
      have B_40 := Lib.hid (ext_trans B_34.out h_39)
      have F_41 := Lib.hid (F_35.out.ext h_39)
      have F_42 := Lib.hid (F_36.out.ext h_39)
      have F_43 := Lib.hid (F_37.out.ext h_39)
      have F_44 := Lib.hid (P_32.out.ext h_39)
      clear B_34 F_35 F_36 F_37 P_32
      clear h_39
      refine takeV (i := 13) (d := 37) (v := .bool true) rfl (by kernel_rfl) (by kernel_rfl) (by kernel_rfl) (fun _ _ _ h => h) rfl (fun _ _ => exPickT (v := .bool true) rfl rfl) B_40.out ?_
      simp only [Act.put, List.setIfInBounds_toArray, List.set_cons_zero, List.set_cons_succ]
      refine takeV (i := 14) (d := 38) (v := .bool true) rfl (by kernel_rfl) (by kernel_rfl) (by kernel_rfl) (fun _ _ _ h => h) rfl (fun _ _ => exMove (v := .bool true) rfl) B_40.out ?_
      simp only [Act.put, List.setIfInBounds_toArray, List.set_cons_zero, List.set_cons_succ]
      refine takeV (i := 15) (d := 39) (v := .pointer (some ⟨g, 0, none⟩)) rfl (by kernel_rfl) (by kernel_rfl) (by kernel_rfl) (fun _ _ _ h => h) rfl (fun _ _ => exMove (v := .pointer (some ⟨g, 0, none⟩)) rfl) B_40.out ?_
      simp only [Act.put, List.setIfInBounds_toArray, List.set_cons_zero, List.set_cons_succ]
      refine takeV (i := 16) (d := 40) (v := .agg (encP (1, 1)).toArray) rfl (by kernel_rfl) (by kernel_rfl) (by kernel_rfl) (fun _ _ _ h => h) rfl (fun w' h => exMid rfl (RA.out w' h) underPid rfl infoPid) B_40.out ?_
      simp only [Act.put, List.setIfInBounds_toArray, List.set_cons_zero, List.set_cons_succ]
      refine takeV (i := 18) (d := 42) (v := .agg (encP (2, 1)).toArray) rfl (by kernel_rfl) (by kernel_rfl) (by kernel_rfl) (fun _ _ _ h => h) rfl (fun w' _ => exBuild (vs := #[(0, .int .u8 2), (1, .int .u16 1)]) (by simp only [List.map_toArray, List.map_cons, List.map_nil]; rfl) (buildP21 w')) B_40.out ?_
      simp only [Act.put, List.setIfInBounds_toArray, List.set_cons_zero, List.set_cons_succ]
      refine wpAnyH_all (rs := [17, 19]) (by kernel_rfl) (by simp) ?_
      intro i hi
      simp only [List.mem_cons, List.not_mem_nil, or_false] at hi
      rcases hi with rfl | rfl
      · refine wpOp_of rfl rfl (wp_called (args := #[.pointer (some ⟨g, 0, none⟩), .agg (encP (1, 1)).toArray]) hcW (by simp only [List.map_toArray, List.map_cons, List.map_nil]; rfl) (HWi.out w_38 B_40.out) ?_)
        rintro e w_45 ⟨_, rfl, o_47, h_46⟩
        obtain ⟨A_48, c_49, rfl, _, p_50⟩ := PidsAt.of_own o_47 rfl
        have P_51 := Lib.hid p_50
        refine ⟨_, rfl, ext_trans B_40.out h_46, ?_⟩
        simp only [Act.put, List.setIfInBounds_toArray, List.set_cons_zero, List.set_cons_succ]
        have B_52 := Lib.hid (ext_trans B_40.out h_46)
        have F_53 := Lib.hid (F_41.out.ext h_46)
        have F_54 := Lib.hid (F_42.out.ext h_46)
        have F_55 := Lib.hid (F_43.out.ext h_46)
        have F_56 := Lib.hid (F_44.out.ext h_46)
        clear B_40 F_41 F_42 F_43 F_44
        clear o_47 h_46 p_50
        refine wpAnyH_all (rs := [19]) (by kernel_rfl) (by simp) ?_
        intro i hi
        simp only [List.mem_cons, List.not_mem_nil, or_false] at hi
        subst hi
        have P_59 := Lib.hid (pids_one w_45 (2, 1))
        have h_60 : Below w_45.heap.size w_45 (w_45.alloc (.cells (encP (2, 1)).toArray 33)) := below_new _ _
        refine wpOp_of rfl rfl (wp_lit1 pidSl (cs := encP (2, 1)) rfl (by omega) rfl ?_)
        refine ⟨ext_trans B_52.out h_60, ?_⟩
        simp only [Act.put, List.setIfInBounds_toArray, List.set_cons_zero, List.set_cons_succ]
        generalize (w_45.alloc (.cells (encP (2, 1)).toArray 33)) = w_57 at *
        have B_61 := Lib.hid (ext_trans B_52.out h_60)
        have F_62 := Lib.hid (F_53.out.ext h_60)
        have F_63 := Lib.hid (F_54.out.ext h_60)
        have F_64 := Lib.hid (F_55.out.ext h_60)
        have F_65 := Lib.hid (F_56.out.ext h_60)
        have F_66 := Lib.hid (P_51.out.ext h_60)
        clear B_52 F_53 F_54 F_55 F_56 P_51
        clear h_60
        generalize w_45.heap.size = g_58 at *
        refine wpAnyH_all (rs := [20]) (by kernel_rfl) (by simp) ?_
        intro i hi
        simp only [List.mem_cons, List.not_mem_nil, or_false] at hi
        subst hi
        refine wpOp_of rfl rfl (wp_called (args := #[.slice A_48 1 c_49, .slice (some ⟨g_58, 0, none⟩) 1 1]) hcS (by simp only [List.map_toArray, List.map_cons, List.map_nil]; rfl) ((rsameP _ _ w_57 _ _ _ _ _ _ F_66.out P_59.out (by simp [maxLen])).mono fun _ _ => RetB.ofD) ?_)
        rintro e w_67 ⟨rfl, h_68⟩
        rw [decide_eq_true rfl]
        refine ⟨_, rfl, ext_trans B_61.out h_68, ?_⟩
        simp only [Act.put, List.setIfInBounds_toArray, List.set_cons_zero, List.set_cons_succ]
        have B_69 := Lib.hid (ext_trans B_61.out h_68)
        have F_70 := Lib.hid (F_62.out.ext h_68)
        have F_71 := Lib.hid (F_63.out.ext h_68)
        have F_72 := Lib.hid (F_64.out.ext h_68)
        have F_73 := Lib.hid (F_65.out.ext h_68)
        have F_74 := Lib.hid (F_66.out.ext h_68)
        have F_75 := Lib.hid (P_59.out.ext h_68)
        clear B_61 F_62 F_63 F_64 F_65 F_66 P_59
        clear h_68
        refine takeV (i := 21) (d := 45) (v := .bool true) rfl (by kernel_rfl) (by kernel_rfl) (by kernel_rfl) (fun _ _ _ h => h) rfl (fun _ _ => exPickT (v := .bool true) rfl rfl) B_69.out ?_
        simp only [Act.put, List.setIfInBounds_toArray, List.set_cons_zero, List.set_cons_succ]
        refine takeV (i := 22) (d := 0) (v := .bool true) rfl (by kernel_rfl) (by kernel_rfl) (by kernel_rfl) (fun _ _ _ h => h) rfl (fun _ _ => exAssign (v := .bool true) rfl) B_69.out ?_
        simp only [Act.put, List.setIfInBounds_toArray, List.set_cons_zero]
        refine wpAnyH_done (by kernel_rfl) ?_ _
        have BF := Lib.hid (B8.out.trans (B_69.out.mono B8.out.size))
        clear B_69 F_70 F_71 F_72 F_73 F_74 F_75
        go_wp2
        go_ret
        exact ⟨rfl, BF.out⟩
      · have P_78 := Lib.hid (pids_one w_38 (2, 1))
        have h_79 : Below w_38.heap.size w_38 (w_38.alloc (.cells (encP (2, 1)).toArray 33)) := below_new _ _
        refine wpOp_of rfl rfl (wp_lit1 pidSl (cs := encP (2, 1)) rfl (by omega) rfl ?_)
        refine ⟨ext_trans B_40.out h_79, ?_⟩
        simp only [Act.put, List.setIfInBounds_toArray, List.set_cons_zero, List.set_cons_succ]
        generalize (w_38.alloc (.cells (encP (2, 1)).toArray 33)) = w_76 at *
        have B_80 := Lib.hid (ext_trans B_40.out h_79)
        have F_81 := Lib.hid (F_41.out.ext h_79)
        have F_82 := Lib.hid (F_42.out.ext h_79)
        have F_83 := Lib.hid (F_43.out.ext h_79)
        have F_84 := Lib.hid (F_44.out.ext h_79)
        clear B_40 F_41 F_42 F_43 F_44
        clear h_79
        generalize w_38.heap.size = g_77 at *
        refine wpAnyH_all (rs := [17]) (by kernel_rfl) (by simp) ?_
        intro i hi
        simp only [List.mem_cons, List.not_mem_nil, or_false] at hi
        subst hi
        refine wpOp_of rfl rfl (wp_called (args := #[.pointer (some ⟨g, 0, none⟩), .agg (encP (1, 1)).toArray]) hcW (by simp only [List.map_toArray, List.map_cons, List.map_nil]; rfl) (HWi.out w_76 B_80.out) ?_)
        rintro e w_85 ⟨_, rfl, o_87, h_86⟩
        obtain ⟨A_88, c_89, rfl, _, p_90⟩ := PidsAt.of_own o_87 rfl
        have P_91 := Lib.hid p_90
        refine ⟨_, rfl, ext_trans B_80.out h_86, ?_⟩
        simp only [Act.put, List.setIfInBounds_toArray, List.set_cons_zero, List.set_cons_succ]
        have B_92 := Lib.hid (ext_trans B_80.out h_86)
        have F_93 := Lib.hid (F_81.out.ext h_86)
        have F_94 := Lib.hid (F_82.out.ext h_86)
        have F_95 := Lib.hid (F_83.out.ext h_86)
        have F_96 := Lib.hid (F_84.out.ext h_86)
        have F_97 := Lib.hid (P_78.out.ext h_86)
        clear B_80 F_81 F_82 F_83 F_84 P_78
        clear o_87 h_86 p_90
        refine wpAnyH_all (rs := [20]) (by kernel_rfl) (by simp) ?_
        intro i hi
        simp only [List.mem_cons, List.not_mem_nil, or_false] at hi
        subst hi
        refine wpOp_of rfl rfl (wp_called (args := #[.slice A_88 1 c_89, .slice (some ⟨g_77, 0, none⟩) 1 1]) hcS (by simp only [List.map_toArray, List.map_cons, List.map_nil]; rfl) ((rsameP _ _ w_85 _ _ _ _ _ _ P_91.out F_97.out (by simp [maxLen])).mono fun _ _ => RetB.ofD) ?_)
        rintro e w_98 ⟨rfl, h_99⟩
        rw [decide_eq_true rfl]
        refine ⟨_, rfl, ext_trans B_92.out h_99, ?_⟩
        simp only [Act.put, List.setIfInBounds_toArray, List.set_cons_zero, List.set_cons_succ]
        have B_100 := Lib.hid (ext_trans B_92.out h_99)
        have F_101 := Lib.hid (F_93.out.ext h_99)
        have F_102 := Lib.hid (F_94.out.ext h_99)
        have F_103 := Lib.hid (F_95.out.ext h_99)
        have F_104 := Lib.hid (F_96.out.ext h_99)
        have F_105 := Lib.hid (F_97.out.ext h_99)
        have F_106 := Lib.hid (P_91.out.ext h_99)
        clear B_92 F_93 F_94 F_95 F_96 F_97 P_91
        clear h_99
        refine takeV (i := 21) (d := 45) (v := .bool true) rfl (by kernel_rfl) (by kernel_rfl) (by kernel_rfl) (fun _ _ _ h => h) rfl (fun _ _ => exPickT (v := .bool true) rfl rfl) B_100.out ?_
        simp only [Act.put, List.setIfInBounds_toArray, List.set_cons_zero, List.set_cons_succ]
        refine takeV (i := 22) (d := 0) (v := .bool true) rfl (by kernel_rfl) (by kernel_rfl) (by kernel_rfl) (fun _ _ _ h => h) rfl (fun _ _ => exAssign (v := .bool true) rfl) B_100.out ?_
        simp only [Act.put, List.setIfInBounds_toArray, List.set_cons_zero]
        refine wpAnyH_done (by kernel_rfl) ?_ _
        have BF := Lib.hid (B8.out.trans (B_100.out.mono B8.out.size))
        clear B_100 F_101 F_102 F_103 F_104 F_105 F_106
        go_wp2
        go_ret
        exact ⟨rfl, BF.out⟩
    · have P_109 := Lib.hid (pids_two w_15 (1, 2) (2, 1))
      have h_110 : Below w_15.heap.size w_15 (w_15.alloc (.cells [encP (1, 2), encP (2, 1)].flatten.toArray 33)) := below_new _ _
      refine wpOp_of rfl rfl (wp_lits pidSl [encP (1, 2), encP (2, 1)] rfl (by simp) (by simp [encP]) (by simp) (by simp only [List.map_toArray, List.map_cons, List.map_nil]; rfl) ?_)
      refine ⟨ext_trans B_17.out h_110, ?_⟩
      simp only [Act.put, List.setIfInBounds_toArray, List.set_cons_zero, List.set_cons_succ]
      generalize (w_15.alloc (.cells [encP (1, 2), encP (2, 1)].flatten.toArray 33)) = w_107 at *
      have B_111 := Lib.hid (ext_trans B_17.out h_110)
      have F_112 := Lib.hid (F_18.out.ext h_110)
      have F_113 := Lib.hid (F_19.out.ext h_110)
      clear B_17 F_18 F_19
      clear h_110
      generalize w_15.heap.size = g_108 at *
      refine wpAnyH_all (rs := [8]) (by kernel_rfl) (by simp) ?_
      intro i hi
      simp only [List.mem_cons, List.not_mem_nil, or_false] at hi
      subst hi
      refine wpOp_of rfl rfl (wp_called (args := #[.pointer (some ⟨g, 0, none⟩)]) hcH (by simp only [List.map_toArray, List.map_cons, List.map_nil]; rfl) (HHe.out w_107 B_111.out) ?_)
      rintro e w_114 ⟨_, rfl, o_116, h_115⟩
      obtain ⟨A_117, c_118, rfl, _, p_119⟩ := PidsAt.of_own o_116 rfl
      have P_120 := Lib.hid p_119
      refine ⟨_, rfl, ext_trans B_111.out h_115, ?_⟩
      simp only [Act.put, List.setIfInBounds_toArray, List.set_cons_zero, List.set_cons_succ]
      have B_121 := Lib.hid (ext_trans B_111.out h_115)
      have F_122 := Lib.hid (F_112.out.ext h_115)
      have F_123 := Lib.hid (F_113.out.ext h_115)
      have F_124 := Lib.hid (P_109.out.ext h_115)
      clear B_111 F_112 F_113 P_109
      clear o_116 h_115 p_119
      refine wpAnyH_all (rs := [12]) (by kernel_rfl) (by simp) ?_
      intro i hi
      simp only [List.mem_cons, List.not_mem_nil, or_false] at hi
      subst hi
      refine wpOp_of rfl rfl (wp_called (args := #[.slice A_117 2 c_118, .slice (some ⟨g_108, 0, none⟩) 2 2]) hcS (by simp only [List.map_toArray, List.map_cons, List.map_nil]; rfl) ((rsameP _ _ w_114 _ _ _ _ _ _ P_120.out F_124.out (by simp [maxLen])).mono fun _ _ => RetB.ofD) ?_)
      rintro e w_125 ⟨rfl, h_126⟩
      rw [decide_eq_true rfl]
      refine ⟨_, rfl, ext_trans B_121.out h_126, ?_⟩
      simp only [Act.put, List.setIfInBounds_toArray, List.set_cons_zero, List.set_cons_succ]
      have B_127 := Lib.hid (ext_trans B_121.out h_126)
      have F_128 := Lib.hid (F_122.out.ext h_126)
      have F_129 := Lib.hid (F_123.out.ext h_126)
      have F_130 := Lib.hid (F_124.out.ext h_126)
      have F_131 := Lib.hid (P_120.out.ext h_126)
      clear B_121 F_122 F_123 F_124 P_120
      clear h_126
      refine takeV (i := 13) (d := 37) (v := .bool true) rfl (by kernel_rfl) (by kernel_rfl) (by kernel_rfl) (fun _ _ _ h => h) rfl (fun _ _ => exPickT (v := .bool true) rfl rfl) B_127.out ?_
      simp only [Act.put, List.setIfInBounds_toArray, List.set_cons_zero, List.set_cons_succ]
      refine takeV (i := 14) (d := 38) (v := .bool true) rfl (by kernel_rfl) (by kernel_rfl) (by kernel_rfl) (fun _ _ _ h => h) rfl (fun _ _ => exMove (v := .bool true) rfl) B_127.out ?_
      simp only [Act.put, List.setIfInBounds_toArray, List.set_cons_zero, List.set_cons_succ]
      refine takeV (i := 15) (d := 39) (v := .pointer (some ⟨g, 0, none⟩)) rfl (by kernel_rfl) (by kernel_rfl) (by kernel_rfl) (fun _ _ _ h => h) rfl (fun _ _ => exMove (v := .pointer (some ⟨g, 0, none⟩)) rfl) B_127.out ?_
      simp only [Act.put, List.setIfInBounds_toArray, List.set_cons_zero, List.set_cons_succ]
      refine takeV (i := 16) (d := 40) (v := .agg (encP (1, 1)).toArray) rfl (by kernel_rfl) (by kernel_rfl) (by kernel_rfl) (fun _ _ _ h => h) rfl (fun w' h => exMid rfl (RA.out w' h) underPid rfl infoPid) B_127.out ?_
      simp only [Act.put, List.setIfInBounds_toArray, List.set_cons_zero, List.set_cons_succ]
      refine takeV (i := 18) (d := 42) (v := .agg (encP (2, 1)).toArray) rfl (by kernel_rfl) (by kernel_rfl) (by kernel_rfl) (fun _ _ _ h => h) rfl (fun w' _ => exBuild (vs := #[(0, .int .u8 2), (1, .int .u16 1)]) (by simp only [List.map_toArray, List.map_cons, List.map_nil]; rfl) (buildP21 w')) B_127.out ?_
      simp only [Act.put, List.setIfInBounds_toArray, List.set_cons_zero, List.set_cons_succ]
      refine wpAnyH_all (rs := [17, 19]) (by kernel_rfl) (by simp) ?_
      intro i hi
      simp only [List.mem_cons, List.not_mem_nil, or_false] at hi
      rcases hi with rfl | rfl
      · refine wpOp_of rfl rfl (wp_called (args := #[.pointer (some ⟨g, 0, none⟩), .agg (encP (1, 1)).toArray]) hcW (by simp only [List.map_toArray, List.map_cons, List.map_nil]; rfl) (HWi.out w_125 B_127.out) ?_)
        rintro e w_132 ⟨_, rfl, o_134, h_133⟩
        obtain ⟨A_135, c_136, rfl, _, p_137⟩ := PidsAt.of_own o_134 rfl
        have P_138 := Lib.hid p_137
        refine ⟨_, rfl, ext_trans B_127.out h_133, ?_⟩
        simp only [Act.put, List.setIfInBounds_toArray, List.set_cons_zero, List.set_cons_succ]
        have B_139 := Lib.hid (ext_trans B_127.out h_133)
        have F_140 := Lib.hid (F_128.out.ext h_133)
        have F_141 := Lib.hid (F_129.out.ext h_133)
        have F_142 := Lib.hid (F_130.out.ext h_133)
        have F_143 := Lib.hid (F_131.out.ext h_133)
        clear B_127 F_128 F_129 F_130 F_131
        clear o_134 h_133 p_137
        refine wpAnyH_all (rs := [19]) (by kernel_rfl) (by simp) ?_
        intro i hi
        simp only [List.mem_cons, List.not_mem_nil, or_false] at hi
        subst hi
        have P_146 := Lib.hid (pids_one w_132 (2, 1))
        have h_147 : Below w_132.heap.size w_132 (w_132.alloc (.cells (encP (2, 1)).toArray 33)) := below_new _ _
        refine wpOp_of rfl rfl (wp_lit1 pidSl (cs := encP (2, 1)) rfl (by omega) rfl ?_)
        refine ⟨ext_trans B_139.out h_147, ?_⟩
        simp only [Act.put, List.setIfInBounds_toArray, List.set_cons_zero, List.set_cons_succ]
        generalize (w_132.alloc (.cells (encP (2, 1)).toArray 33)) = w_144 at *
        have B_148 := Lib.hid (ext_trans B_139.out h_147)
        have F_149 := Lib.hid (F_140.out.ext h_147)
        have F_150 := Lib.hid (F_141.out.ext h_147)
        have F_151 := Lib.hid (F_142.out.ext h_147)
        have F_152 := Lib.hid (F_143.out.ext h_147)
        have F_153 := Lib.hid (P_138.out.ext h_147)
        clear B_139 F_140 F_141 F_142 F_143 P_138
        clear h_147
        generalize w_132.heap.size = g_145 at *
        refine wpAnyH_all (rs := [20]) (by kernel_rfl) (by simp) ?_
        intro i hi
        simp only [List.mem_cons, List.not_mem_nil, or_false] at hi
        subst hi
        refine wpOp_of rfl rfl (wp_called (args := #[.slice A_135 1 c_136, .slice (some ⟨g_145, 0, none⟩) 1 1]) hcS (by simp only [List.map_toArray, List.map_cons, List.map_nil]; rfl) ((rsameP _ _ w_144 _ _ _ _ _ _ F_153.out P_146.out (by simp [maxLen])).mono fun _ _ => RetB.ofD) ?_)
        rintro e w_154 ⟨rfl, h_155⟩
        rw [decide_eq_true rfl]
        refine ⟨_, rfl, ext_trans B_148.out h_155, ?_⟩
        simp only [Act.put, List.setIfInBounds_toArray, List.set_cons_zero, List.set_cons_succ]
        have B_156 := Lib.hid (ext_trans B_148.out h_155)
        have F_157 := Lib.hid (F_149.out.ext h_155)
        have F_158 := Lib.hid (F_150.out.ext h_155)
        have F_159 := Lib.hid (F_151.out.ext h_155)
        have F_160 := Lib.hid (F_152.out.ext h_155)
        have F_161 := Lib.hid (F_153.out.ext h_155)
        have F_162 := Lib.hid (P_146.out.ext h_155)
        clear B_148 F_149 F_150 F_151 F_152 F_153 P_146
        clear h_155
        refine takeV (i := 21) (d := 45) (v := .bool true) rfl (by kernel_rfl) (by kernel_rfl) (by kernel_rfl) (fun _ _ _ h => h) rfl (fun _ _ => exPickT (v := .bool true) rfl rfl) B_156.out ?_
        simp only [Act.put, List.setIfInBounds_toArray, List.set_cons_zero, List.set_cons_succ]
        refine takeV (i := 22) (d := 0) (v := .bool true) rfl (by kernel_rfl) (by kernel_rfl) (by kernel_rfl) (fun _ _ _ h => h) rfl (fun _ _ => exAssign (v := .bool true) rfl) B_156.out ?_
        simp only [Act.put, List.setIfInBounds_toArray, List.set_cons_zero]
        refine wpAnyH_done (by kernel_rfl) ?_ _
        have BF := Lib.hid (B8.out.trans (B_156.out.mono B8.out.size))
        clear B_156 F_157 F_158 F_159 F_160 F_161 F_162
        go_wp2
        go_ret
        exact ⟨rfl, BF.out⟩
      · have P_165 := Lib.hid (pids_one w_125 (2, 1))
        have h_166 : Below w_125.heap.size w_125 (w_125.alloc (.cells (encP (2, 1)).toArray 33)) := below_new _ _
        refine wpOp_of rfl rfl (wp_lit1 pidSl (cs := encP (2, 1)) rfl (by omega) rfl ?_)
        refine ⟨ext_trans B_127.out h_166, ?_⟩
        simp only [Act.put, List.setIfInBounds_toArray, List.set_cons_zero, List.set_cons_succ]
        generalize (w_125.alloc (.cells (encP (2, 1)).toArray 33)) = w_163 at *
        have B_167 := Lib.hid (ext_trans B_127.out h_166)
        have F_168 := Lib.hid (F_128.out.ext h_166)
        have F_169 := Lib.hid (F_129.out.ext h_166)
        have F_170 := Lib.hid (F_130.out.ext h_166)
        have F_171 := Lib.hid (F_131.out.ext h_166)
        clear B_127 F_128 F_129 F_130 F_131
        clear h_166
        generalize w_125.heap.size = g_164 at *
        refine wpAnyH_all (rs := [17]) (by kernel_rfl) (by simp) ?_
        intro i hi
        simp only [List.mem_cons, List.not_mem_nil, or_false] at hi
        subst hi
        refine wpOp_of rfl rfl (wp_called (args := #[.pointer (some ⟨g, 0, none⟩), .agg (encP (1, 1)).toArray]) hcW (by simp only [List.map_toArray, List.map_cons, List.map_nil]; rfl) (HWi.out w_163 B_167.out) ?_)
        rintro e w_172 ⟨_, rfl, o_174, h_173⟩
        obtain ⟨A_175, c_176, rfl, _, p_177⟩ := PidsAt.of_own o_174 rfl
        have P_178 := Lib.hid p_177
        refine ⟨_, rfl, ext_trans B_167.out h_173, ?_⟩
        simp only [Act.put, List.setIfInBounds_toArray, List.set_cons_zero, List.set_cons_succ]
        have B_179 := Lib.hid (ext_trans B_167.out h_173)
        have F_180 := Lib.hid (F_168.out.ext h_173)
        have F_181 := Lib.hid (F_169.out.ext h_173)
        have F_182 := Lib.hid (F_170.out.ext h_173)
        have F_183 := Lib.hid (F_171.out.ext h_173)
        have F_184 := Lib.hid (P_165.out.ext h_173)
        clear B_167 F_168 F_169 F_170 F_171 P_165
        clear o_174 h_173 p_177
        refine wpAnyH_all (rs := [20]) (by kernel_rfl) (by simp) ?_
        intro i hi
        simp only [List.mem_cons, List.not_mem_nil, or_false] at hi
        subst hi
        refine wpOp_of rfl rfl (wp_called (args := #[.slice A_175 1 c_176, .slice (some ⟨g_164, 0, none⟩) 1 1]) hcS (by simp only [List.map_toArray, List.map_cons, List.map_nil]; rfl) ((rsameP _ _ w_172 _ _ _ _ _ _ P_178.out F_184.out (by simp [maxLen])).mono fun _ _ => RetB.ofD) ?_)
        rintro e w_185 ⟨rfl, h_186⟩
        rw [decide_eq_true rfl]
        refine ⟨_, rfl, ext_trans B_179.out h_186, ?_⟩
        simp only [Act.put, List.setIfInBounds_toArray, List.set_cons_zero, List.set_cons_succ]
        have B_187 := Lib.hid (ext_trans B_179.out h_186)
        have F_188 := Lib.hid (F_180.out.ext h_186)
        have F_189 := Lib.hid (F_181.out.ext h_186)
        have F_190 := Lib.hid (F_182.out.ext h_186)
        have F_191 := Lib.hid (F_183.out.ext h_186)
        have F_192 := Lib.hid (F_184.out.ext h_186)
        have F_193 := Lib.hid (P_178.out.ext h_186)
        clear B_179 F_180 F_181 F_182 F_183 F_184 P_178
        clear h_186
        refine takeV (i := 21) (d := 45) (v := .bool true) rfl (by kernel_rfl) (by kernel_rfl) (by kernel_rfl) (fun _ _ _ h => h) rfl (fun _ _ => exPickT (v := .bool true) rfl rfl) B_187.out ?_
        simp only [Act.put, List.setIfInBounds_toArray, List.set_cons_zero, List.set_cons_succ]
        refine takeV (i := 22) (d := 0) (v := .bool true) rfl (by kernel_rfl) (by kernel_rfl) (by kernel_rfl) (fun _ _ _ h => h) rfl (fun _ _ => exAssign (v := .bool true) rfl) B_187.out ?_
        simp only [Act.put, List.setIfInBounds_toArray, List.set_cons_zero]
        refine wpAnyH_done (by kernel_rfl) ?_ _
        have BF := Lib.hid (B8.out.trans (B_187.out.mono B8.out.size))
        clear B_187 F_188 F_189 F_190 F_191 F_192 F_193
        go_wp2
        go_ret
        exact ⟨rfl, BF.out⟩
  · have P_196 := Lib.hid (pids_one w21 (1, 1))
    have h_197 : Below w21.heap.size w21 (w21.alloc (.cells (encP (1, 1)).toArray 33)) := below_new _ _
    refine wpOp_of rfl rfl (wp_lit1 pidSl (cs := encP (1, 1)) rfl (by omega) rfl ?_)
    refine ⟨ext_trans B21.out h_197, ?_⟩
    simp only [Act.put, List.setIfInBounds_toArray, List.set_cons_zero, List.set_cons_succ]
    generalize (w21.alloc (.cells (encP (1, 1)).toArray 33)) = w_194 at *
    have B_198 := Lib.hid (ext_trans B21.out h_197)
    clear B21
    clear h_197
    generalize w21.heap.size = g_195 at *
    refine wpAnyH_all (rs := [2]) (by kernel_rfl) (by simp) ?_
    intro i hi
    simp only [List.mem_cons, List.not_mem_nil, or_false] at hi
    subst hi
    refine wpOp_of rfl rfl (wp_called (args := #[.pointer (some ⟨g, 0, none⟩), .agg (encP (1, 2)).toArray]) hcA (by simp only [List.map_toArray, List.map_cons, List.map_nil]; rfl) (HAb.out w_194 B_198.out) ?_)
    rintro e w_199 ⟨_, rfl, o_201, h_200⟩
    obtain ⟨A_202, c_203, rfl, _, p_204⟩ := PidsAt.of_own o_201 rfl
    have P_205 := Lib.hid p_204
    refine ⟨_, rfl, ext_trans B_198.out h_200, ?_⟩
    simp only [Act.put, List.setIfInBounds_toArray, List.set_cons_zero, List.set_cons_succ]
    have B_206 := Lib.hid (ext_trans B_198.out h_200)
    have F_207 := Lib.hid (P_196.out.ext h_200)
    clear B_198 P_196
    clear o_201 h_200 p_204
    refine wpAnyH_all (rs := [5]) (by kernel_rfl) (by simp) ?_
    intro i hi
    simp only [List.mem_cons, List.not_mem_nil, or_false] at hi
    subst hi
    refine wpOp_of rfl rfl (wp_called (args := #[.slice A_202 1 c_203, .slice (some ⟨g_195, 0, none⟩) 1 1]) hcS (by simp only [List.map_toArray, List.map_cons, List.map_nil]; rfl) ((rsameP _ _ w_199 _ _ _ _ _ _ P_205.out F_207.out (by simp [maxLen])).mono fun _ _ => RetB.ofD) ?_)
    rintro e w_208 ⟨rfl, h_209⟩
    rw [decide_eq_true rfl]
    refine ⟨_, rfl, ext_trans B_206.out h_209, ?_⟩
    simp only [Act.put, List.setIfInBounds_toArray, List.set_cons_zero, List.set_cons_succ]
    have B_210 := Lib.hid (ext_trans B_206.out h_209)
    have F_211 := Lib.hid (F_207.out.ext h_209)
    have F_212 := Lib.hid (P_205.out.ext h_209)
    clear B_206 F_207 P_205
    clear h_209
    refine takeV (i := 6) (d := 30) (v := .bool true) rfl (by kernel_rfl) (by kernel_rfl) (by kernel_rfl) (fun _ _ _ h => h) rfl (fun _ _ => exMove (v := .bool true) rfl) B_210.out ?_
    simp only [Act.put, List.setIfInBounds_toArray, List.set_cons_zero, List.set_cons_succ]
    refine takeV (i := 7) (d := 31) (v := .pointer (some ⟨g, 0, none⟩)) rfl (by kernel_rfl) (by kernel_rfl) (by kernel_rfl) (fun _ _ _ h => h) rfl (fun _ _ => exMove (v := .pointer (some ⟨g, 0, none⟩)) rfl) B_210.out ?_
    simp only [Act.put, List.setIfInBounds_toArray, List.set_cons_zero, List.set_cons_succ]
    refine takeV (i := 9) (d := 33) (v := .agg (encP (1, 2)).toArray) rfl (by kernel_rfl) (by kernel_rfl) (by kernel_rfl) (fun _ _ _ h => h) rfl (fun w' h => exMid rfl (RB.out w' h) underPid rfl infoPid) B_210.out ?_
    simp only [Act.put, List.setIfInBounds_toArray, List.set_cons_zero, List.set_cons_succ]
    refine takeV (i := 10) (d := 34) (v := .agg (encP (2, 1)).toArray) rfl (by kernel_rfl) (by kernel_rfl) (by kernel_rfl) (fun _ _ _ h => h) rfl (fun w' _ => exBuild (vs := #[(0, .int .u8 2), (1, .int .u16 1)]) (by simp only [List.map_toArray, List.map_cons, List.map_nil]; rfl) (buildP21 w')) B_210.out ?_
    simp only [Act.put, List.setIfInBounds_toArray, List.set_cons_zero, List.set_cons_succ]
    refine wpAnyH_all (rs := [8, 11]) (by kernel_rfl) (by simp) ?_
    intro i hi
    simp only [List.mem_cons, List.not_mem_nil, or_false] at hi
    rcases hi with rfl | rfl
    · refine wpOp_of rfl rfl (wp_called (args := #[.pointer (some ⟨g, 0, none⟩)]) hcH (by simp only [List.map_toArray, List.map_cons, List.map_nil]; rfl) (HHe.out w_208 B_210.out) ?_)
      rintro e w_213 ⟨_, rfl, o_215, h_214⟩
      obtain ⟨A_216, c_217, rfl, _, p_218⟩ := PidsAt.of_own o_215 rfl
      have P_219 := Lib.hid p_218
      refine ⟨_, rfl, ext_trans B_210.out h_214, ?_⟩
      simp only [Act.put, List.setIfInBounds_toArray, List.set_cons_zero, List.set_cons_succ]
      have B_220 := Lib.hid (ext_trans B_210.out h_214)
      have F_221 := Lib.hid (F_211.out.ext h_214)
      have F_222 := Lib.hid (F_212.out.ext h_214)
      clear B_210 F_211 F_212
      clear o_215 h_214 p_218
      refine wpAnyH_all (rs := [11]) (by kernel_rfl) (by simp) ?_
      intro i hi
      simp only [List.mem_cons, List.not_mem_nil, or_false] at hi
      subst hi
      have P_225 := Lib.hid (pids_two w_213 (1, 2) (2, 1))
      have h_226 : Below w_213.heap.size w_213 (w_213.alloc (.cells [encP (1, 2), encP (2, 1)].flatten.toArray 33)) := below_new _ _
      refine wpOp_of rfl rfl (wp_lits pidSl [encP (1, 2), encP (2, 1)] rfl (by simp) (by simp [encP]) (by simp) (by simp only [List.map_toArray, List.map_cons, List.map_nil]; rfl) ?_)
      refine ⟨ext_trans B_220.out h_226, ?_⟩
      simp only [Act.put, List.setIfInBounds_toArray, List.set_cons_zero, List.set_cons_succ]
      generalize (w_213.alloc (.cells [encP (1, 2), encP (2, 1)].flatten.toArray 33)) = w_223 at *
      have B_227 := Lib.hid (ext_trans B_220.out h_226)
      have F_228 := Lib.hid (F_221.out.ext h_226)
      have F_229 := Lib.hid (F_222.out.ext h_226)
      have F_230 := Lib.hid (P_219.out.ext h_226)
      clear B_220 F_221 F_222 P_219
      clear h_226
      generalize w_213.heap.size = g_224 at *
      refine wpAnyH_all (rs := [12]) (by kernel_rfl) (by simp) ?_
      intro i hi
      simp only [List.mem_cons, List.not_mem_nil, or_false] at hi
      subst hi
      refine wpOp_of rfl rfl (wp_called (args := #[.slice A_216 2 c_217, .slice (some ⟨g_224, 0, none⟩) 2 2]) hcS (by simp only [List.map_toArray, List.map_cons, List.map_nil]; rfl) ((rsameP _ _ w_223 _ _ _ _ _ _ F_230.out P_225.out (by simp [maxLen])).mono fun _ _ => RetB.ofD) ?_)
      rintro e w_231 ⟨rfl, h_232⟩
      rw [decide_eq_true rfl]
      refine ⟨_, rfl, ext_trans B_227.out h_232, ?_⟩
      simp only [Act.put, List.setIfInBounds_toArray, List.set_cons_zero, List.set_cons_succ]
      have B_233 := Lib.hid (ext_trans B_227.out h_232)
      have F_234 := Lib.hid (F_228.out.ext h_232)
      have F_235 := Lib.hid (F_229.out.ext h_232)
      have F_236 := Lib.hid (F_230.out.ext h_232)
      have F_237 := Lib.hid (P_225.out.ext h_232)
      clear B_227 F_228 F_229 F_230 P_225
      clear h_232
      refine takeV (i := 13) (d := 37) (v := .bool true) rfl (by kernel_rfl) (by kernel_rfl) (by kernel_rfl) (fun _ _ _ h => h) rfl (fun _ _ => exPickT (v := .bool true) rfl rfl) B_233.out ?_
      simp only [Act.put, List.setIfInBounds_toArray, List.set_cons_zero, List.set_cons_succ]
      refine takeV (i := 14) (d := 38) (v := .bool true) rfl (by kernel_rfl) (by kernel_rfl) (by kernel_rfl) (fun _ _ _ h => h) rfl (fun _ _ => exMove (v := .bool true) rfl) B_233.out ?_
      simp only [Act.put, List.setIfInBounds_toArray, List.set_cons_zero, List.set_cons_succ]
      refine takeV (i := 15) (d := 39) (v := .pointer (some ⟨g, 0, none⟩)) rfl (by kernel_rfl) (by kernel_rfl) (by kernel_rfl) (fun _ _ _ h => h) rfl (fun _ _ => exMove (v := .pointer (some ⟨g, 0, none⟩)) rfl) B_233.out ?_
      simp only [Act.put, List.setIfInBounds_toArray, List.set_cons_zero, List.set_cons_succ]
      refine takeV (i := 16) (d := 40) (v := .agg (encP (1, 1)).toArray) rfl (by kernel_rfl) (by kernel_rfl) (by kernel_rfl) (fun _ _ _ h => h) rfl (fun w' h => exMid rfl (RA.out w' h) underPid rfl infoPid) B_233.out ?_
      simp only [Act.put, List.setIfInBounds_toArray, List.set_cons_zero, List.set_cons_succ]
      refine takeV (i := 18) (d := 42) (v := .agg (encP (2, 1)).toArray) rfl (by kernel_rfl) (by kernel_rfl) (by kernel_rfl) (fun _ _ _ h => h) rfl (fun w' _ => exBuild (vs := #[(0, .int .u8 2), (1, .int .u16 1)]) (by simp only [List.map_toArray, List.map_cons, List.map_nil]; rfl) (buildP21 w')) B_233.out ?_
      simp only [Act.put, List.setIfInBounds_toArray, List.set_cons_zero, List.set_cons_succ]
      refine wpAnyH_all (rs := [17, 19]) (by kernel_rfl) (by simp) ?_
      intro i hi
      simp only [List.mem_cons, List.not_mem_nil, or_false] at hi
      rcases hi with rfl | rfl
      · refine wpOp_of rfl rfl (wp_called (args := #[.pointer (some ⟨g, 0, none⟩), .agg (encP (1, 1)).toArray]) hcW (by simp only [List.map_toArray, List.map_cons, List.map_nil]; rfl) (HWi.out w_231 B_233.out) ?_)
        rintro e w_238 ⟨_, rfl, o_240, h_239⟩
        obtain ⟨A_241, c_242, rfl, _, p_243⟩ := PidsAt.of_own o_240 rfl
        have P_244 := Lib.hid p_243
        refine ⟨_, rfl, ext_trans B_233.out h_239, ?_⟩
        simp only [Act.put, List.setIfInBounds_toArray, List.set_cons_zero, List.set_cons_succ]
        have B_245 := Lib.hid (ext_trans B_233.out h_239)
        have F_246 := Lib.hid (F_234.out.ext h_239)
        have F_247 := Lib.hid (F_235.out.ext h_239)
        have F_248 := Lib.hid (F_236.out.ext h_239)
        have F_249 := Lib.hid (F_237.out.ext h_239)
        clear B_233 F_234 F_235 F_236 F_237
        clear o_240 h_239 p_243
        refine wpAnyH_all (rs := [19]) (by kernel_rfl) (by simp) ?_
        intro i hi
        simp only [List.mem_cons, List.not_mem_nil, or_false] at hi
        subst hi
        have P_252 := Lib.hid (pids_one w_238 (2, 1))
        have h_253 : Below w_238.heap.size w_238 (w_238.alloc (.cells (encP (2, 1)).toArray 33)) := below_new _ _
        refine wpOp_of rfl rfl (wp_lit1 pidSl (cs := encP (2, 1)) rfl (by omega) rfl ?_)
        refine ⟨ext_trans B_245.out h_253, ?_⟩
        simp only [Act.put, List.setIfInBounds_toArray, List.set_cons_zero, List.set_cons_succ]
        generalize (w_238.alloc (.cells (encP (2, 1)).toArray 33)) = w_250 at *
        have B_254 := Lib.hid (ext_trans B_245.out h_253)
        have F_255 := Lib.hid (F_246.out.ext h_253)
        have F_256 := Lib.hid (F_247.out.ext h_253)
        have F_257 := Lib.hid (F_248.out.ext h_253)
        have F_258 := Lib.hid (F_249.out.ext h_253)
        have F_259 := Lib.hid (P_244.out.ext h_253)
        clear B_245 F_246 F_247 F_248 F_249 P_244
        clear h_253
        generalize w_238.heap.size = g_251 at *
        refine wpAnyH_all (rs := [20]) (by kernel_rfl) (by simp) ?_
        intro i hi
        simp only [List.mem_cons, List.not_mem_nil, or_false] at hi
        subst hi
        refine wpOp_of rfl rfl (wp_called (args := #[.slice A_241 1 c_242, .slice (some ⟨g_251, 0, none⟩) 1 1]) hcS (by simp only [List.map_toArray, List.map_cons, List.map_nil]; rfl) ((rsameP _ _ w_250 _ _ _ _ _ _ F_259.out P_252.out (by simp [maxLen])).mono fun _ _ => RetB.ofD) ?_)
        rintro e w_260 ⟨rfl, h_261⟩
        rw [decide_eq_true rfl]
        refine ⟨_, rfl, ext_trans B_254.out h_261, ?_⟩
        simp only [Act.put, List.setIfInBounds_toArray, List.set_cons_zero, List.set_cons_succ]
        have B_262 := Lib.hid (ext_trans B_254.out h_261)
        have F_263 := Lib.hid (F_255.out.ext h_261)
        have F_264 := Lib.hid (F_256.out.ext h_261)
        have F_265 := Lib.hid (F_257.out.ext h_261)
        have F_266 := Lib.hid (F_258.out.ext h_261)
        have F_267 := Lib.hid (F_259.out.ext h_261)
        have F_268 := Lib.hid (P_252.out.ext h_261)
        clear B_254 F_255 F_256 F_257 F_258 F_259 P_252
        clear h_261
        refine takeV (i := 21) (d := 45) (v := .bool true) rfl (by kernel_rfl) (by kernel_rfl) (by kernel_rfl) (fun _ _ _ h => h) rfl (fun _ _ => exPickT (v := .bool true) rfl rfl) B_262.out ?_
        simp only [Act.put, List.setIfInBounds_toArray, List.set_cons_zero, List.set_cons_succ]
        refine takeV (i := 22) (d := 0) (v := .bool true) rfl (by kernel_rfl) (by kernel_rfl) (by kernel_rfl) (fun _ _ _ h => h) rfl (fun _ _ => exAssign (v := .bool true) rfl) B_262.out ?_
        simp only [Act.put, List.setIfInBounds_toArray, List.set_cons_zero]
        refine wpAnyH_done (by kernel_rfl) ?_ _
        have BF := Lib.hid (B8.out.trans (B_262.out.mono B8.out.size))
        clear B_262 F_263 F_264 F_265 F_266 F_267 F_268
        go_wp2
        go_ret
        exact ⟨rfl, BF.out⟩
      · have P_271 := Lib.hid (pids_one w_231 (2, 1))
        have h_272 : Below w_231.heap.size w_231 (w_231.alloc (.cells (encP (2, 1)).toArray 33)) := below_new _ _
        refine wpOp_of rfl rfl (wp_lit1 pidSl (cs := encP (2, 1)) rfl (by omega) rfl ?_)
        refine ⟨ext_trans B_233.out h_272, ?_⟩
        simp only [Act.put, List.setIfInBounds_toArray, List.set_cons_zero, List.set_cons_succ]
        generalize (w_231.alloc (.cells (encP (2, 1)).toArray 33)) = w_269 at *
        have B_273 := Lib.hid (ext_trans B_233.out h_272)
        have F_274 := Lib.hid (F_234.out.ext h_272)
        have F_275 := Lib.hid (F_235.out.ext h_272)
        have F_276 := Lib.hid (F_236.out.ext h_272)
        have F_277 := Lib.hid (F_237.out.ext h_272)
        clear B_233 F_234 F_235 F_236 F_237
        clear h_272
        generalize w_231.heap.size = g_270 at *
        refine wpAnyH_all (rs := [17]) (by kernel_rfl) (by simp) ?_
        intro i hi
        simp only [List.mem_cons, List.not_mem_nil, or_false] at hi
        subst hi
        refine wpOp_of rfl rfl (wp_called (args := #[.pointer (some ⟨g, 0, none⟩), .agg (encP (1, 1)).toArray]) hcW (by simp only [List.map_toArray, List.map_cons, List.map_nil]; rfl) (HWi.out w_269 B_273.out) ?_)
        rintro e w_278 ⟨_, rfl, o_280, h_279⟩
        obtain ⟨A_281, c_282, rfl, _, p_283⟩ := PidsAt.of_own o_280 rfl
        have P_284 := Lib.hid p_283
        refine ⟨_, rfl, ext_trans B_273.out h_279, ?_⟩
        simp only [Act.put, List.setIfInBounds_toArray, List.set_cons_zero, List.set_cons_succ]
        have B_285 := Lib.hid (ext_trans B_273.out h_279)
        have F_286 := Lib.hid (F_274.out.ext h_279)
        have F_287 := Lib.hid (F_275.out.ext h_279)
        have F_288 := Lib.hid (F_276.out.ext h_279)
        have F_289 := Lib.hid (F_277.out.ext h_279)
        have F_290 := Lib.hid (P_271.out.ext h_279)
        clear B_273 F_274 F_275 F_276 F_277 P_271
        clear o_280 h_279 p_283
        refine wpAnyH_all (rs := [20]) (by kernel_rfl) (by simp) ?_
        intro i hi
        simp only [List.mem_cons, List.not_mem_nil, or_false] at hi
        subst hi
        refine wpOp_of rfl rfl (wp_called (args := #[.slice A_281 1 c_282, .slice (some ⟨g_270, 0, none⟩) 1 1]) hcS (by simp only [List.map_toArray, List.map_cons, List.map_nil]; rfl) ((rsameP _ _ w_278 _ _ _ _ _ _ P_284.out F_290.out (by simp [maxLen])).mono fun _ _ => RetB.ofD) ?_)
        rintro e w_291 ⟨rfl, h_292⟩
        rw [decide_eq_true rfl]
        refine ⟨_, rfl, ext_trans B_285.out h_292, ?_⟩
        simp only [Act.put, List.setIfInBounds_toArray, List.set_cons_zero, List.set_cons_succ]
        have B_293 := Lib.hid (ext_trans B_285.out h_292)
        have F_294 := Lib.hid (F_286.out.ext h_292)
        have F_295 := Lib.hid (F_287.out.ext h_292)
        have F_296 := Lib.hid (F_288.out.ext h_292)
        have F_297 := Lib.hid (F_289.out.ext h_292)
        have F_298 := Lib.hid (F_290.out.ext h_292)
        have F_299 := Lib.hid (P_284.out.ext h_292)
        clear B_285 F_286 F_287 F_288 F_289 F_290 P_284
        clear h_292
        refine takeV (i := 21) (d := 45) (v := .bool true) rfl (by kernel_rfl) (by kernel_rfl) (by kernel_rfl) (fun _ _ _ h => h) rfl (fun _ _ => exPickT (v := .bool true) rfl rfl) B_293.out ?_
        simp only [Act.put, List.setIfInBounds_toArray, List.set_cons_zero, List.set_cons_succ]
        refine takeV (i := 22) (d := 0) (v := .bool true) rfl (by kernel_rfl) (by kernel_rfl) (by kernel_rfl) (fun _ _ _ h => h) rfl (fun _ _ => exAssign (v := .bool true) rfl) B_293.out ?_
        simp only [Act.put, List.setIfInBounds_toArray, List.set_cons_zero]
        refine wpAnyH_done (by kernel_rfl) ?_ _
        have BF := Lib.hid (B8.out.trans (B_293.out.mono B8.out.size))
        clear B_293 F_294 F_295 F_296 F_297 F_298 F_299
        go_wp2
        go_ret
        exact ⟨rfl, BF.out⟩
    · have P_302 := Lib.hid (pids_two w_208 (1, 2) (2, 1))
      have h_303 : Below w_208.heap.size w_208 (w_208.alloc (.cells [encP (1, 2), encP (2, 1)].flatten.toArray 33)) := below_new _ _
      refine wpOp_of rfl rfl (wp_lits pidSl [encP (1, 2), encP (2, 1)] rfl (by simp) (by simp [encP]) (by simp) (by simp only [List.map_toArray, List.map_cons, List.map_nil]; rfl) ?_)
      refine ⟨ext_trans B_210.out h_303, ?_⟩
      simp only [Act.put, List.setIfInBounds_toArray, List.set_cons_zero, List.set_cons_succ]
      generalize (w_208.alloc (.cells [encP (1, 2), encP (2, 1)].flatten.toArray 33)) = w_300 at *
      have B_304 := Lib.hid (ext_trans B_210.out h_303)
      have F_305 := Lib.hid (F_211.out.ext h_303)
      have F_306 := Lib.hid (F_212.out.ext h_303)
      clear B_210 F_211 F_212
      clear h_303
      generalize w_208.heap.size = g_301 at *
      refine wpAnyH_all (rs := [8]) (by kernel_rfl) (by simp) ?_
      intro i hi
      simp only [List.mem_cons, List.not_mem_nil, or_false] at hi
      subst hi
      refine wpOp_of rfl rfl (wp_called (args := #[.pointer (some ⟨g, 0, none⟩)]) hcH (by simp only [List.map_toArray, List.map_cons, List.map_nil]; rfl) (HHe.out w_300 B_304.out) ?_)
      rintro e w_307 ⟨_, rfl, o_309, h_308⟩
      obtain ⟨A_310, c_311, rfl, _, p_312⟩ := PidsAt.of_own o_309 rfl
      have P_313 := Lib.hid p_312
      refine ⟨_, rfl, ext_trans B_304.out h_308, ?_⟩
      simp only [Act.put, List.setIfInBounds_toArray, List.set_cons_zero, List.set_cons_succ]
      have B_314 := Lib.hid (ext_trans B_304.out h_308)
      have F_315 := Lib.hid (F_305.out.ext h_308)
      have F_316 := Lib.hid (F_306.out.ext h_308)
      have F_317 := Lib.hid (P_302.out.ext h_308)
      clear B_304 F_305 F_306 P_302
      clear o_309 h_308 p_312
      refine wpAnyH_all (rs := [12]) (by kernel_rfl) (by simp) ?_
      intro i hi
      simp only [List.mem_cons, List.not_mem_nil, or_false] at hi
      subst hi
      refine wpOp_of rfl rfl (wp_called (args := #[.slice A_310 2 c_311, .slice (some ⟨g_301, 0, none⟩) 2 2]) hcS (by simp only [List.map_toArray, List.map_cons, List.map_nil]; rfl) ((rsameP _ _ w_307 _ _ _ _ _ _ P_313.out F_317.out (by simp [maxLen])).mono fun _ _ => RetB.ofD) ?_)
      rintro e w_318 ⟨rfl, h_319⟩
      rw [decide_eq_true rfl]
      refine ⟨_, rfl, ext_trans B_314.out h_319, ?_⟩
      simp only [Act.put, List.setIfInBounds_toArray, List.set_cons_zero, List.set_cons_succ]
      have B_320 := Lib.hid (ext_trans B_314.out h_319)
      have F_321 := Lib.hid (F_315.out.ext h_319)
      have F_322 := Lib.hid (F_316.out.ext h_319)
      have F_323 := Lib.hid (F_317.out.ext h_319)
      have F_324 := Lib.hid (P_313.out.ext h_319)
      clear B_314 F_315 F_316 F_317 P_313
      clear h_319
      refine takeV (i := 13) (d := 37) (v := .bool true) rfl (by kernel_rfl) (by kernel_rfl) (by kernel_rfl) (fun _ _ _ h => h) rfl (fun _ _ => exPickT (v := .bool true) rfl rfl) B_320.out ?_
      simp only [Act.put, List.setIfInBounds_toArray, List.set_cons_zero, List.set_cons_succ]
      refine takeV (i := 14) (d := 38) (v := .bool true) rfl (by kernel_rfl) (by kernel_rfl) (by kernel_rfl) (fun _ _ _ h => h) rfl (fun _ _ => exMove (v := .bool true) rfl) B_320.out ?_
      simp only [Act.put, List.setIfInBounds_toArray, List.set_cons_zero, List.set_cons_succ]
      refine takeV (i := 15) (d := 39) (v := .pointer (some ⟨g, 0, none⟩)) rfl (by kernel_rfl) (by kernel_rfl) (by kernel_rfl) (fun _ _ _ h => h) rfl (fun _ _ => exMove (v := .pointer (some ⟨g, 0, none⟩)) rfl) B_320.out ?_
      simp only [Act.put, List.setIfInBounds_toArray, List.set_cons_zero, List.set_cons_succ]
      refine takeV (i := 16) (d := 40) (v := .agg (encP (1, 1)).toArray) rfl (by kernel_rfl) (by kernel_rfl) (by kernel_rfl) (fun _ _ _ h => h) rfl (fun w' h => exMid rfl (RA.out w' h) underPid rfl infoPid) B_320.out ?_
      simp only [Act.put, List.setIfInBounds_toArray, List.set_cons_zero, List.set_cons_succ]
      refine takeV (i := 18) (d := 42) (v := .agg (encP (2, 1)).toArray) rfl (by kernel_rfl) (by kernel_rfl) (by kernel_rfl) (fun _ _ _ h => h) rfl (fun w' _ => exBuild (vs := #[(0, .int .u8 2), (1, .int .u16 1)]) (by simp only [List.map_toArray, List.map_cons, List.map_nil]; rfl) (buildP21 w')) B_320.out ?_
      simp only [Act.put, List.setIfInBounds_toArray, List.set_cons_zero, List.set_cons_succ]
      refine wpAnyH_all (rs := [17, 19]) (by kernel_rfl) (by simp) ?_
      intro i hi
      simp only [List.mem_cons, List.not_mem_nil, or_false] at hi
      rcases hi with rfl | rfl
      · refine wpOp_of rfl rfl (wp_called (args := #[.pointer (some ⟨g, 0, none⟩), .agg (encP (1, 1)).toArray]) hcW (by simp only [List.map_toArray, List.map_cons, List.map_nil]; rfl) (HWi.out w_318 B_320.out) ?_)
        rintro e w_325 ⟨_, rfl, o_327, h_326⟩
        obtain ⟨A_328, c_329, rfl, _, p_330⟩ := PidsAt.of_own o_327 rfl
        have P_331 := Lib.hid p_330
        refine ⟨_, rfl, ext_trans B_320.out h_326, ?_⟩
        simp only [Act.put, List.setIfInBounds_toArray, List.set_cons_zero, List.set_cons_succ]
        have B_332 := Lib.hid (ext_trans B_320.out h_326)
        have F_333 := Lib.hid (F_321.out.ext h_326)
        have F_334 := Lib.hid (F_322.out.ext h_326)
        have F_335 := Lib.hid (F_323.out.ext h_326)
        have F_336 := Lib.hid (F_324.out.ext h_326)
        clear B_320 F_321 F_322 F_323 F_324
        clear o_327 h_326 p_330
        refine wpAnyH_all (rs := [19]) (by kernel_rfl) (by simp) ?_
        intro i hi
        simp only [List.mem_cons, List.not_mem_nil, or_false] at hi
        subst hi
        have P_339 := Lib.hid (pids_one w_325 (2, 1))
        have h_340 : Below w_325.heap.size w_325 (w_325.alloc (.cells (encP (2, 1)).toArray 33)) := below_new _ _
        refine wpOp_of rfl rfl (wp_lit1 pidSl (cs := encP (2, 1)) rfl (by omega) rfl ?_)
        refine ⟨ext_trans B_332.out h_340, ?_⟩
        simp only [Act.put, List.setIfInBounds_toArray, List.set_cons_zero, List.set_cons_succ]
        generalize (w_325.alloc (.cells (encP (2, 1)).toArray 33)) = w_337 at *
        have B_341 := Lib.hid (ext_trans B_332.out h_340)
        have F_342 := Lib.hid (F_333.out.ext h_340)
        have F_343 := Lib.hid (F_334.out.ext h_340)
        have F_344 := Lib.hid (F_335.out.ext h_340)
        have F_345 := Lib.hid (F_336.out.ext h_340)
        have F_346 := Lib.hid (P_331.out.ext h_340)
        clear B_332 F_333 F_334 F_335 F_336 P_331
        clear h_340
        generalize w_325.heap.size = g_338 at *
        refine wpAnyH_all (rs := [20]) (by kernel_rfl) (by simp) ?_
        intro i hi
        simp only [List.mem_cons, List.not_mem_nil, or_false] at hi
        subst hi
        refine wpOp_of rfl rfl (wp_called (args := #[.slice A_328 1 c_329, .slice (some ⟨g_338, 0, none⟩) 1 1]) hcS (by simp only [List.map_toArray, List.map_cons, List.map_nil]; rfl) ((rsameP _ _ w_337 _ _ _ _ _ _ F_346.out P_339.out (by simp [maxLen])).mono fun _ _ => RetB.ofD) ?_)
        rintro e w_347 ⟨rfl, h_348⟩
        rw [decide_eq_true rfl]
        refine ⟨_, rfl, ext_trans B_341.out h_348, ?_⟩
        simp only [Act.put, List.setIfInBounds_toArray, List.set_cons_zero, List.set_cons_succ]
        have B_349 := Lib.hid (ext_trans B_341.out h_348)
        have F_350 := Lib.hid (F_342.out.ext h_348)
        have F_351 := Lib.hid (F_343.out.ext h_348)
        have F_352 := Lib.hid (F_344.out.ext h_348)
        have F_353 := Lib.hid (F_345.out.ext h_348)
        have F_354 := Lib.hid (F_346.out.ext h_348)
        have F_355 := Lib.hid (P_339.out.ext h_348)
        clear B_341 F_342 F_343 F_344 F_345 F_346 P_339
        clear h_348
        refine takeV (i := 21) (d := 45) (v := .bool true) rfl (by kernel_rfl) (by kernel_rfl) (by kernel_rfl) (fun _ _ _ h => h) rfl (fun _ _ => exPickT (v := .bool true) rfl rfl) B_349.out ?_
        simp only [Act.put, List.setIfInBounds_toArray, List.set_cons_zero, List.set_cons_succ]
        refine takeV (i := 22) (d := 0) (v := .bool true) rfl (by kernel_rfl) (by kernel_rfl) (by kernel_rfl) (fun _ _ _ h => h) rfl (fun _ _ => exAssign (v := .bool true) rfl) B_349.out ?_
        simp only [Act.put, List.setIfInBounds_toArray, List.set_cons_zero]
        refine wpAnyH_done (by kernel_rfl) ?_ _
        have BF := Lib.hid (B8.out.trans (B_349.out.mono B8.out.size))
        clear B_349 F_350 F_351 F_352 F_353 F_354 F_355
        go_wp2
        go_ret
        exact ⟨rfl, BF.out⟩
      · have P_358 := Lib.hid (pids_one w_318 (2, 1))
        have h_359 : Below w_318.heap.size w_318 (w_318.alloc (.cells (encP (2, 1)).toArray 33)) := below_new _ _
        refine wpOp_of rfl rfl (wp_lit1 pidSl (cs := encP (2, 1)) rfl (by omega) rfl ?_)
        refine ⟨ext_trans B_320.out h_359, ?_⟩
        simp only [Act.put, List.setIfInBounds_toArray, List.set_cons_zero, List.set_cons_succ]
        generalize (w_318.alloc (.cells (encP (2, 1)).toArray 33)) = w_356 at *
        have B_360 := Lib.hid (ext_trans B_320.out h_359)
        have F_361 := Lib.hid (F_321.out.ext h_359)
        have F_362 := Lib.hid (F_322.out.ext h_359)
        have F_363 := Lib.hid (F_323.out.ext h_359)
        have F_364 := Lib.hid (F_324.out.ext h_359)
        clear B_320 F_321 F_322 F_323 F_324
        clear h_359
        generalize w_318.heap.size = g_357 at *
        refine wpAnyH_all (rs := [17]) (by kernel_rfl) (by simp) ?_
        intro i hi
        simp only [List.mem_cons, List.not_mem_nil, or_false] at hi
        subst hi
        refine wpOp_of rfl rfl (wp_called (args := #[.pointer (some ⟨g, 0, none⟩), .agg (encP (1, 1)).toArray]) hcW (by simp only [List.map_toArray, List.map_cons, List.map_nil]; rfl) (HWi.out w_356 B_360.out) ?_)
        rintro e w_365 ⟨_, rfl, o_367, h_366⟩
        obtain ⟨A_368, c_369, rfl, _, p_370⟩ := PidsAt.of_own o_367 rfl
        have P_371 := Lib.hid p_370
        refine ⟨_, rfl, ext_trans B_360.out h_366, ?_⟩
        simp only [Act.put, List.setIfInBounds_toArray, List.set_cons_zero, List.set_cons_succ]
        have B_372 := Lib.hid (ext_trans B_360.out h_366)
        have F_373 := Lib.hid (F_361.out.ext h_366)
        have F_374 := Lib.hid (F_362.out.ext h_366)
        have F_375 := Lib.hid (F_363.out.ext h_366)
        have F_376 := Lib.hid (F_364.out.ext h_366)
        have F_377 := Lib.hid (P_358.out.ext h_366)
        clear B_360 F_361 F_362 F_363 F_364 P_358
        clear o_367 h_366 p_370
        refine wpAnyH_all (rs := [20]) (by kernel_rfl) (by simp) ?_
        intro i hi
        simp only [List.mem_cons, List.not_mem_nil, or_false] at hi
        subst hi
        refine wpOp_of rfl rfl (wp_called (args := #[.slice A_368 1 c_369, .slice (some ⟨g_357, 0, none⟩) 1 1]) hcS (by simp only [List.map_toArray, List.map_cons, List.map_nil]; rfl) ((rsameP _ _ w_365 _ _ _ _ _ _ P_371.out F_377.out (by simp [maxLen])).mono fun _ _ => RetB.ofD) ?_)
        rintro e w_378 ⟨rfl, h_379⟩
        rw [decide_eq_true rfl]
        refine ⟨_, rfl, ext_trans B_372.out h_379, ?_⟩
        simp only [Act.put, List.setIfInBounds_toArray, List.set_cons_zero, List.set_cons_succ]
        have B_380 := Lib.hid (ext_trans B_372.out h_379)
        have F_381 := Lib.hid (F_373.out.ext h_379)
        have F_382 := Lib.hid (F_374.out.ext h_379)
        have F_383 := Lib.hid (F_375.out.ext h_379)
        have F_384 := Lib.hid (F_376.out.ext h_379)
        have F_385 := Lib.hid (F_377.out.ext h_379)
        have F_386 := Lib.hid (P_371.out.ext h_379)
        clear B_372 F_373 F_374 F_375 F_376 F_377 P_371
        clear h_379
        refine takeV (i := 21) (d := 45) (v := .bool true) rfl (by kernel_rfl) (by kernel_rfl) (by kernel_rfl) (fun _ _ _ h => h) rfl (fun _ _ => exPickT (v := .bool true) rfl rfl) B_380.out ?_
        simp only [Act.put, List.setIfInBounds_toArray, List.set_cons_zero, List.set_cons_succ]
        refine takeV (i := 22) (d := 0) (v := .bool true) rfl (by kernel_rfl) (by kernel_rfl) (by kernel_rfl) (fun _ _ _ h => h) rfl (fun _ _ => exAssign (v := .bool true) rfl) B_380.out ?_
        simp only [Act.put, List.setIfInBounds_toArray, List.set_cons_zero]
        refine wpAnyH_done (by kernel_rfl) ?_ _
        have BF := Lib.hid (B8.out.trans (B_380.out.mono B8.out.size))
        clear B_380 F_381 F_382 F_383 F_384 F_385 F_386
        go_wp2
        go_ret
        exact ⟨rfl, BF.out⟩
end Go.Proofs.YtnhbbggpgieipaaGreat
