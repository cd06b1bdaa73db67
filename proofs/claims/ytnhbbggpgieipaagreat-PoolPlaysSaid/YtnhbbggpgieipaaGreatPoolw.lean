/- Texts of general use, one behind another. -/
import Derived.Test.YtnhbbggpgieipaaGreatPools
import Derived.Test.YtnhbbggpgieipaaGreatZmore
import Derived.Test.YtnhbbggpgieipaaGreatKinds

/- A patch is taken out of a pool: walked. -/
namespace Go.Proofs.YtnhbbggpgieipaaGreat
open Go.RowKit
open Go.ChangeMaps (setBlock)

/-- what waits, or does not, is found by its name, in any world where the map stands -/
theorem PoolAt.lookOk {w : World} {F : Nat → Prop} {g : Nat} {room : Int} {L : List PatV} (h : PoolAt w F g room L) (d : PidV) :
    ∃ gm r ok, Blk w g 81 #[.int .i64 room, .map (some gm)] ∧ (gm < w.heap.size ∧ F gm ∧ g ≠ gm) ∧ r.length = 4 ∧ (∀ u ∈ r, u.oneCell' = true) ∧
      ((findP L d = none ∧ ok = false) ∨ ∃ p, findP L d = some p ∧ ok = true ∧ PatIn w F r p) ∧
      ∀ w', w'.heap[gm]? = w.heap[gm]? → (Instr.lookup 79 (.map (some gm)) (.agg (encP d).toArray) true).run Tryz.prog w' = .ok (.tuple #[.agg r.toArray, .bool ok]) w' := by
  obtain ⟨hlt, hself, hrise, hgood, hfew, gm, E, M, D, kB, kF, kne, kM, kP, kE, kD⟩ := h
  obtain ⟨kl, hkl⟩ := kKeyP d
  obtain ⟨v, ok, hg, hl⟩ := kM.look_ok kLawI kMapP kZeroPat hkl
  rcases hg with ⟨rfl, hno, rfl⟩ | ⟨rfl, hyes⟩
  · refine ⟨gm, [.int .u8 0, .int .u16 0, .slice none 0 0, .slice none 0 0], false, kB, ⟨hlt gm kF, kF, kne⟩, rfl, by simp [Value.oneCell'], .inl ⟨findP_none.2 fun p hp e => ?_, rfl⟩, hl⟩
    obtain ⟨r, hr, _⟩ := kE.has (kP.mem_iff.2 hp)
    exact hno _ hr (by rw [e])
  · obtain ⟨p, hp, rfl, r, rfl, hpi⟩ := kE.find hyes
    exact ⟨gm, r, true, kB, ⟨hlt gm kF, kF, kne⟩, hpi.len4, hpi.one, .inr ⟨p, rise_find hrise (kP.mem_iff.1 hp), rfl, hpi.mono fun k e => (kD k e).1⟩, hl⟩
/-- what is taken out -/
theorem PoolAt.dropped {w : World} {F : Nat → Prop} {g gm : Nat} {room : Int} {L : List PatV} (h : PoolAt w F g room L) (hB : Blk w g 81 #[.int .i64 room, .map (some gm)]) (d : PidV) (ty : TypeId) :
    ∃ o, (Builtin.delete_ #[79, 33] ty #[.map (some gm), .agg (encP d).toArray]).run Tryz.prog w = .ok (.tuple #[]) (setBlock w gm o) ∧ PoolAt (setBlock w gm o) F g room (dropL L d) ∧ Kept F w (setBlock w gm o) := by
  obtain ⟨hlt, hself, hrise, hgood, hfew, gm', E, M, D, kB, kF, kne, kM, kP, kE, kD⟩ := h
  have e : gm' = gm := by
    unfold Blk at hB kB
    rw [hB] at kB
    simp only [Option.some.injEq, Obj.cells.injEq, Array.mk.injEq, List.cons.injEq, Value.map.injEq, and_true, true_and] at kB
    exact kB.symm
  subst e
  obtain ⟨kl, hkl⟩ := kKeyP d
  obtain ⟨o, E', hrun, kM', hs, hm⟩ := kM.drop (ty := ty) kLawI kMapP hkl
  obtain ⟨M', kE', kP'⟩ := drop_perm kE kP hrise hs hm
  have kep : Kept (fun k => k = gm') w (setBlock w gm' o) := Kept.setBlock (F := fun k => k = gm') (Kept.refl _ _) (.inl rfl) o
  refine ⟨o, hrun, ?_, kep.mono fun x e => by rw [e]; exact kF⟩
  refine ⟨fun k hk => Nat.lt_of_lt_of_le (hlt k hk) kep.size, hself, hrise.sublist List.filter_sublist, fun p hp => hgood p (List.mem_filter.1 hp).1, Nat.le_trans (List.length_filter_le _ _) hfew, gm', E', M', D, kB.setBlock kne o, kF, kne, kM', kP', ?_, kD⟩
  exact kE'.stay (kep.stay fun k _ hd e => (kD k hd).2.2 e)
/-- 'delete(m, key)', in a walk -/
theorem wpList_deleted {P : Program} {ops : Array Oper} {rest : List Oper} {o : Oper} {a : Act} {w w' : World} {Q : Exit → Act → World → Prop} {mv kv : Value} (hg : o.guard = none) (m x : Operand) (t k : TypeId) (hop : o.op = Op.call { callee := Callee.builtin Builtin.delete, args := #[m, x], argTypes := #[t, k] }) (hm : a.eval m = mv) (hx : a.eval x = kv)
    (hr : (Builtin.delete_ #[t, k] o.type #[mv, kv]).run P w = .ok (.tuple #[]) w') (hK : wpList P ops Q rest (a.put o.dst (.tuple #[])) w') : wpList P ops Q (o :: rest) a w := by
  refine wpList_plain hg fun K' hK' => ?_
  unfold Oper.wp
  simp [execOp, hop, resolve, invoke, builtin, hm, hx, hr, Result.andThen]
  exact hK' _ _ hK
def RetDrop (w : World) (F : Nat → Prop) (g : Nat) (room : Int) (L : List PatV) (d : PidV) (e : Ending) (w' : World) : Prop :=
  e = .returned (.bool (findP L d).isSome) ∧ Kept F w w' ∧ PoolAt w' F g room (dropL L d)
theorem fieldPool0 (g : Nat) (w : World) : (Instr.fieldAt 81 (.pointer (some ⟨g, 0, none⟩)) 0).run Tryz.prog w = .ok (.pointer (some ⟨g, 0, none⟩)) w := by simp [go_sem]
theorem fieldPool1 (g : Nat) (w : World) : (Instr.fieldAt 81 (.pointer (some ⟨g, 0, none⟩)) 1).run Tryz.prog w = .ok (.pointer (some ⟨g, 1, none⟩)) w := by simp [go_sem]
theorem loadPatMap (b o : Nat) (w : World) (gm : Nat) (h : w.cell? ⟨b, o, none⟩ = some (.map (some gm))) : (Instr.loadAt 79 (.pointer (some ⟨b, o, none⟩))).run Tryz.prog w = .ok (.map (some gm)) w := by simp [go_sem, h]
set_option maxRecDepth 100000 in
set_option maxHeartbeats 2000000 in
theorem dropPl_any {w : World} {F : Nat → Prop} {g : Nat} {room : Int} {L : List PatV} (hP : PoolAt w F g room L) (d : PidV) :
    Calls Tryz.prog 12 #[.pointer (some ⟨g, 0, none⟩), .agg (encP d).toArray] w (RetDrop w F g room L d) := by
  have B0 : Hid (Below w.heap.size w (w.alloc (.cells (encP d).toArray 33))) := below_new _ _
  have K0 : Hid (Blk (w.alloc (.cells (encP d).toArray 33)) w.heap.size 33 (encP d).toArray) := Blk.new _ _ _
  have HP := Lib.hid (hP.ext B0.out)
  clear hP
  go_enter Tryz.func12, Tryz.ntmps12
  go_upto_region 3 with fail
  generalize (w.alloc (.cells (encP d).toArray 33)) = w2 at *
  generalize w.heap.size = g0 at K0 ⊢
  obtain ⟨gm, r, ok, kb, ⟨hgm, _, _⟩, hr4, hr1, hcase, hlook⟩ := HP.out.lookOk d
  have KP := Lib.hid kb
  have hok : Hid (ok = (findP L d).isSome) := by
    rcases hcase with ⟨e1, e2⟩ | ⟨p, e1, e2, _⟩
    · rw [Hid, e1, e2]; rfl
    · rw [Hid, e1, e2]; rfl
  have HL : Hid (∀ w', Below w2.heap.size w2 w' → (Instr.lookup 79 (.map (some gm)) (.agg (encP d).toArray) true).run Tryz.prog w' = .ok (.tuple #[.agg r.toArray, .bool ok]) w') := fun w' h => hlook w' (h.block gm hgm)
  have HC1 : Hid (∀ w', Below w2.heap.size w2 w' → w'.cell? ⟨g, 1, none⟩ = some (.map (some gm))) := fun w' h => (KP.out.ext h).cell 1
  have R0 := Lib.hid K0.out.range
  have g0l : Hid (g0 < w2.heap.size) := K0.out.lt
  have hrz : (r.toArray : Array Value).size = 4 := by rw [List.size_toArray, hr4]
  have hsz : Hid ((Tryz.prog.info? 37).map (·.size) = some (r.toArray : Array Value).size) := by rw [Hid, hrz]; exact infoPat
  have hold : Hid ((#[.int .u8 0, .int .u16 0, .slice none 0 0, .slice none 0 0] : Array Value).size = (r.toArray : Array Value).size) := hrz.symm
  have hone : Hid ((r.toArray : Array Value).all (·.oneCell') = true) := all_oneCell_toArray hr1
  clear kb hcase hlook hr1
  refine wp_region_held (S := fun w' => Below w2.heap.size w2 w') mixedS ?_
  change wpAnyH _ _ _ _ _ _ _ _ w2.drew
  have B3 : Hid (Below w2.heap.size w2 w2.drew) := (Below.refl _ _).drew
  generalize w2.drew = w3 at B3 ⊢
  simp only [List.size_toArray, List.length_cons, List.length_nil]
  refine takeV (i := 0) (d := 10) (v := .pointer (some ⟨g, 0, none⟩)) rfl (by kernel_rfl) (by kernel_rfl) (by kernel_rfl) (fun _ _ _ h => h) rfl (fun _ _ => exMove (v := .pointer (some ⟨g, 0, none⟩)) rfl) B3.out ?_
  simp only [Act.put, List.setIfInBounds_toArray, List.set_cons_zero, List.set_cons_succ]
  refine takeV (i := 1) (d := 11) (v := .pointer (some ⟨g, 0, none⟩)) rfl (by kernel_rfl) (by kernel_rfl) (by kernel_rfl) (fun _ _ _ h => h) rfl (fun _ _ => exNil rfl) B3.out ?_
  simp only [Act.put, List.setIfInBounds_toArray, List.set_cons_zero, List.set_cons_succ]
  refine takeV (i := 2) (d := 12) (v := .pointer (some ⟨g, 1, none⟩)) rfl (by kernel_rfl) (by kernel_rfl) (by kernel_rfl) (fun _ _ _ h => h) rfl (fun w' _ => exField rfl (fieldPool1 g w')) B3.out ?_
  simp only [Act.put, List.setIfInBounds_toArray, List.set_cons_zero, List.set_cons_succ]
  refine takeV (i := 3) (d := 13) (v := .map (some gm)) rfl (by kernel_rfl) (by kernel_rfl) (by kernel_rfl) (fun _ _ _ h => h) rfl (fun w' h => exLoad rfl (loadPatMap g 1 w' gm (HC1.out w' h))) B3.out ?_
  simp only [Act.put, List.setIfInBounds_toArray, List.set_cons_zero, List.set_cons_succ]
  refine takeV (i := 4) (d := 14) (v := .agg (encP d).toArray) rfl (by kernel_rfl) (by kernel_rfl) (by kernel_rfl) (fun _ _ _ h => h) rfl (fun w' h => exMid rfl (rangeAt_below R0.out h g0l.out) underPid rfl infoPid) B3.out ?_
  simp only [Act.put, List.setIfInBounds_toArray, List.set_cons_zero, List.set_cons_succ]
  refine takeV (i := 5) (d := 15) (v := .tuple #[.agg r.toArray, .bool ok]) rfl (by kernel_rfl) (by kernel_rfl) (by kernel_rfl) (fun _ _ _ h => h) rfl (fun w' h => exLook rfl rfl (HL.out w' h)) B3.out ?_
  simp only [Act.put, List.setIfInBounds_toArray, List.set_cons_zero, List.set_cons_succ]
  refine takeV (i := 6) (d := 9) (v := .tuple #[.agg r.toArray, .bool ok]) rfl (by kernel_rfl) (by kernel_rfl) (by kernel_rfl) (fun _ _ _ h => h) rfl (fun _ _ => exMove (v := .tuple #[.agg r.toArray, .bool ok]) rfl) B3.out ?_
  simp only [Act.put, List.setIfInBounds_toArray, List.set_cons_zero, List.set_cons_succ]
  refine takeV (i := 7) (d := 16) (v := .agg r.toArray) rfl (by kernel_rfl) (by kernel_rfl) (by kernel_rfl) (fun _ _ _ h => h) rfl (fun _ _ => exExtract (v := .agg r.toArray) rfl rfl) B3.out ?_
  simp only [Act.put, List.setIfInBounds_toArray, List.set_cons_zero, List.set_cons_succ]
  refine takeV (i := 8) (d := 17) (v := .bool ok) rfl (by kernel_rfl) (by kernel_rfl) (by kernel_rfl) (fun _ _ _ h => h) rfl (fun _ _ => exExtract (v := .bool ok) rfl rfl) B3.out ?_
  simp only [Act.put, List.setIfInBounds_toArray, List.set_cons_zero, List.set_cons_succ]
  refine wpAnyH_all (rs := [9]) (by kernel_rfl) (by simp) ?_
  intro i hi
  simp only [List.mem_cons, List.not_mem_nil, or_false] at hi
  subst hi
  refine wpOp_of rfl rfl (wp_alloced (allocPat _) ?_)
  refine ⟨ext_trans B3.out (below_new _ _), ?_⟩
  simp only [Act.put, List.setIfInBounds_toArray, List.set_cons_zero, List.set_cons_succ]
  have K_1 : Hid (Blk (w3.alloc (.cells #[.int .u8 0, .int .u16 0, .slice none 0 0, .slice none 0 0] 37)) w3.heap.size 37 #[.int .u8 0, .int .u16 0, .slice none 0 0, .slice none 0 0]) := Blk.new _ _ _
  have h_2 : Below w3.heap.size w3 (w3.alloc (.cells #[.int .u8 0, .int .u16 0, .slice none 0 0, .slice none 0 0] 37)) := below_new _ _
  have gz_4 : Hid (w2.heap.size ≤ w3.heap.size) := B3.out.size
  generalize (w3.alloc (.cells #[.int .u8 0, .int .u16 0, .slice none 0 0, .slice none 0 0] 37)) = w_3 at *
  have B_6 := Lib.hid (ext_trans B3.out h_2)
  clear B3
  clear h_2
  generalize w3.heap.size = g_5 at *
  refine wpAnyH_all (rs := [10]) (by kernel_rfl) (by simp) ?_
  intro i hi
  simp only [List.mem_cons, List.not_mem_nil, or_false] at hi
  subst hi
  refine wpOp_of rfl rfl (wp_stored (cs := r.toArray) rfl rfl K_1.out hsz.out hold.out hone.out ?_)
  refine ⟨below_setRow B_6.out gz_4.out _, ?_⟩
  have K_7 := Lib.hid (K_1.out.row r.toArray)
  have B_8 := Lib.hid (below_setRow B_6.out gz_4.out r.toArray)
  clear B_6 K_1
  refine takeV (i := 11) (d := 6) (v := .bool ok) rfl (by kernel_rfl) (by kernel_rfl) (by kernel_rfl) (fun _ _ _ h => h) rfl (fun _ _ => exAssign (v := .bool ok) rfl) B_8.out ?_
  simp only [Act.put, List.setIfInBounds_toArray, List.set_cons_zero, List.set_cons_succ]
  refine wpAnyH_done (by kernel_rfl) ?_ _
  clear K_7
  have B3 := B_8
  clear B_8
  generalize (w_3.setRow g_5 r.toArray) = w3 at *
  have HP := Lib.hid (HP.out.ext B3.out)
  have R0 := Lib.hid (rangeAt_below R0.out B3.out g0l.out)
  have KP := Lib.hid (KP.out.ext B3.out)
  have B3 := Lib.hid (B0.out.trans (B3.out.mono B0.out.size))
  clear HL HC1 hsz hold hone B0 g0l K0
  go_upto_region 4 with fail
  have c1 : w3.cell? ⟨g, 1, none⟩ = some (.map (some gm)) := KP.out.cell 1
  refine wp_region_drawn 5 (by kernel_rfl) (by kernel_rfl) ?_
  simp only [List.take_succ_cons, List.take_zero, List.drop_succ_cons, List.drop_zero]
  repeat (first
    | (refine wpQuiet_load_mid (rangeAt_drewN1 R0.out) underPid rfl infoPid rfl rfl ?_; simp only [List.set_cons_succ, List.set_cons_zero])
    | go_big_quiet_step (fail))
  refine wpQuiet_nil ?_
  rintro _ ⟨nq, rfl⟩
  clear c1
  have D4 := below_drewN (Below.refl w3.heap.size w3) nq
  have HP := Lib.hid (HP.out.ext D4)
  have KP := Lib.hid (KP.out.ext D4)
  have B4 := Lib.hid (B3.out.trans (D4.mono B3.out.size))
  clear B3 D4 R0
  generalize w3.drewN nq = w4 at *
  obtain ⟨o, hrun, hp, kep⟩ := HP.out.dropped KP.out d 0
  have HD := Lib.hid hp
  have KF := Lib.hid ((Kept.of_below (F := F) B4.out).trans kep fun x e => .inl e)
  clear hp kep HP KP B4
  go_wp2_with (refine wpList_deleted rfl _ _ _ _ rfl rfl rfl hrun ?_)
  go_ret
  exact ⟨ret_bool hok.out, KF.out, HD.out⟩
end Go.Proofs.YtnhbbggpgieipaaGreat

/- Can a patch come next? Walked. -/
namespace Go.Proofs.YtnhbbggpgieipaaGreat
open Go.RowKit

theorem eqXY (a b c d : Int) (w : World) : (binOp .eql 33 (.agg #[.int .u8 a, .int .u16 b]) (.agg #[.int .u8 c, .int .u16 d])).run Tryz.prog w = .ok (.bool (decide (a = c) && decide (b = d))) w := by
  simp [go_sem]
  by_cases h1 : a = c
  · by_cases h2 : b = d <;> simp [h1, h2]
  · simp [h1]
theorem pidsRow {p : PidV} {ps : List PidV} {f : PidV → Bool} {k : Nat} (h : ps[k]? = some p) (hk : (ps.take k).any f = false) (hx : f p = false) : (ps.take (k + 1)).any f = false := by
  rw [take_snoc' h, List.any_append, hk]; simp [hx]
def lacksD (v : List Int) (d : PidV) : Bool := !hasP v d
set_option maxRecDepth 100000 in
set_option maxHeartbeats 2000000 in
theorem fits1_any (y : PidV) (v : List Int) (hv : VecOk v) (w : World) (g : Nat) (K : Blk w g 39 (vecA v)) : Calls Tryz.prog 87 #[.agg (encP y).toArray, .pointer (some ⟨g, 0, none⟩)] w (RetB w (.bool (lacksD v y))) := by
  have B0 : Hid (Below w.heap.size w (w.alloc (.cells (encP y).toArray 33))) := below_new _ _
  have K2 : Hid (Blk (w.alloc (.cells (encP y).toArray 33)) w.heap.size 33 (encP y).toArray) := Blk.new _ _ _
  have K1 := Lib.hid (K.alloc (.cells (encP y).toArray 33))
  have HV := Lib.hid (fun u : World => has_any v hv y.1.val y.1.isLt ((y.2.val : Nat) : Int) u)
  have hsz : Hid ((Tryz.prog.info? 39).map (·.size) = some (vecA v).size) := by rw [Hid, vecA_size, hv.len]; exact info64
  have F : Hid (lacksD v y = !hasV v y.1.val ((y.2.val : Nat) : Int)) := rfl
  clear K
  generalize lacksD v y = r at *
  go_enter Tryz.func87, Tryz.ntmps87
  go_wp2_with (first
    | (refine wpList_load_row rfl 39 _ (by rfl) g (by rfl) _ _ _ _ K1.out under64 rfl hsz.out ?_)
    | (refine wpList_load_row rfl 33 _ (by rfl) w.heap.size (by rfl) _ _ _ _ K2.out underPid rfl infoPid ?_))
  refine (HV.out _).mono ?_
  rintro e w3 ⟨rfl, b3⟩
  have B3 := Lib.hid (B0.out.trans (b3.mono B0.out.size))
  clear b3 HV
  go_wp2
  go_ret
  exact ⟨ret_bool F.out.symm, B3.out⟩
set_option maxRecDepth 100000 in
set_option maxHeartbeats 2000000 in
theorem indexFits_any (vs : List PidV) (v : List Int) (hv : VecOk v) (w : World) (A : Option Addr) (n c g : Nat) (hm : n ≤ 100000) (h : PidsAt w A n vs) (K : Blk w g 39 (vecA v)) :
    Calls Tryz.prog 117 #[.slice A n c, .func (.func 87) #[] #[.pointer (some ⟨g, 0, none⟩)]] w (RetI w (vs.any (lacksD v))) := by
  have H := Lib.hid h
  have HG := Lib.hid K
  have HV := Lib.hid hv
  clear h K
  go_enter Tryz.func117, Tryz.ntmps117
  go_wp2_with fail
  go_loopw [8] (fun i wr => ∃ k : Nat, k ≤ n ∧ i = .int .i64 k ∧ Hid ((vs.take k).any (lacksD v) = false) ∧ Hid (Below w.heap.size w wr)) (fun i _ => n - (intOf i).toNat)
  case atStart => exact ⟨0, by omega, rfl, rfl, Below.refl _ _⟩
  case round =>
    obtain ⟨k, hk, rfl, T, B⟩ := hrel
    have hk0 : (0 : Int) ≤ (k : Int) := by omega
    by_cases hlt : k < n
    · obtain ⟨b, o, y, rfl, hb, hy, R0⟩ := H.out.at_ hlt
      have R0 := Lib.hid (rangeAt_below R0 B.out hb)
      have HC := Lib.hid (fits1_any y v HV.out wr g (HG.out.ext B.out))
      have hlk : (k : Int) < (n : Int) := by omega
      by_cases he : lacksD v y = true
      · have N : Hid (vs.any (lacksD v) = true) := by rw [Hid, List.any_eq_true]; exact ⟨y, List.mem_of_getElem? hy, he⟩
        rw [he] at HC
        clear hy T he
        go_wp2_with (refine wpList_load_mid rfl 33 _ rfl _ _ (by rfl) _ _ R0.out underPid rfl infoPid ?_)
        refine HC.out.mono ?_
        rintro e w3 ⟨rfl, b3⟩
        have B3 := Lib.hid (B.out.trans (b3.mono B.out.size))
        clear b3 HC
        go_wp2_with fail
        go_ret
        exact ⟨k, rfl, by rw [N.out]; exact decide_eq_true hk0, B3.out⟩
      · have he : lacksD v y = false := by simpa using he
        have N := Lib.hid (pidsRow hy T.out he)
        rw [he] at HC
        clear hy T he
        go_wp2_with (refine wpList_load_mid rfl 33 _ rfl _ _ (by rfl) _ _ R0.out underPid rfl infoPid ?_)
        refine HC.out.mono ?_
        rintro e w3 ⟨rfl, b3⟩
        have B3 := Lib.hid (B.out.trans (b3.mono B.out.size))
        clear b3 HC
        go_wp2_with fail
        go_roundw
        case rel => exact ⟨k + 1, by omega, by go_num, N.out, B3.out⟩
        case measure => simp [intOf]; omega
    · rw [List.take_of_length_le (by rw [H.out.len]; omega)] at T
      have hlk : ¬ ((k : Int) < (n : Int)) := by omega
      go_wp2
      go_ret
      exact ⟨-1, rfl, by rw [T.out]; rfl, B.out⟩
set_option maxRecDepth 100000 in
set_option maxHeartbeats 2000000 in
theorem containsFits_any (vs : List PidV) (v : List Int) (hv : VecOk v) (w : World) (A : Option Addr) (n c g : Nat) (hm : n ≤ 100000) (h : PidsAt w A n vs) (K : Blk w g 39 (vecA v)) :
    Calls Tryz.prog 86 #[.slice A n c, .func (.func 87) #[] #[.pointer (some ⟨g, 0, none⟩)]] w (RetB w (.bool (vs.any (lacksD v)))) := by
  have HI := Lib.hid (indexFits_any vs v hv w A n c g hm h K)
  clear h K
  generalize vs.any (lacksD v) = r at *
  go_enter Tryz.func86, Tryz.ntmps86
  go_wp2_with fail
  refine HI.out.mono ?_
  rintro e w1 ⟨q, rfl, hr, b1⟩
  have F := Lib.hid hr
  have B1 := Lib.hid b1
  clear hr b1 HI
  go_wp2
  go_ret
  exact ⟨ret_bool F.out, B1.out⟩
theorem fitB_any {v : List Int} {p : PatV} (h : nextB v p.1 = true) : fitB v p = !p.2.1.any (lacksD v) := by
  unfold fitB
  rw [h, Bool.true_and, List.not_any_eq_all_not]
  congr 1
  funext d
  unfold lacksD
  rw [Bool.not_not]
set_option maxRecDepth 100000 in
set_option maxHeartbeats 4000000 in
theorem fits_any (v : List Int) (hv : VecOk v) (p : PatV) (w : World) (cs : List Value) (hp : PatAt w cs p) (hn : p.2.1.length ≤ 100000) :
    Calls Tryz.prog 48 #[.agg (vecA v), .agg cs.toArray] w (RetB w (.bool (fitB v p))) := by
  obtain ⟨⟨A, c, A', c', rfl, H1, H2⟩, m1, m2⟩ := hp
  have KV : Hid (Blk ((w.alloc (.cells (vecA v) 39)).alloc (.cells (patC p.1 A p.2.1.length c A' p.2.2.length c').toArray 37)) w.heap.size 39 (vecA v)) := (Blk.new _ _ _).alloc _
  have KP : Hid (Blk ((w.alloc (.cells (vecA v) 39)).alloc (.cells (patC p.1 A p.2.1.length c A' p.2.2.length c').toArray 37)) (w.heap.size + 1) 37 (patC p.1 A p.2.1.length c A' p.2.2.length c').toArray) := Blk.newAt (by simp) _ _
  have B0 : Hid (Below w.heap.size w ((w.alloc (.cells (vecA v) 39)).alloc (.cells (patC p.1 A p.2.1.length c A' p.2.2.length c').toArray 37))) := ((Below.refl _ _).alloc (Nat.le_refl _) _).alloc (by simp) _
  have P1 := Lib.hid (H1.ext B0.out)
  have HV := Lib.hid hv
  clear H1 H2 m2
  go_enter Tryz.func48, Tryz.ntmps48
  go_upto_region 1 with fail
  generalize ((w.alloc (.cells (vecA v) 39)).alloc (.cells (patC p.1 A p.2.1.length c A' p.2.2.length c').toArray 37)) = w2 at *
  generalize w.heap.size + 1 = gp at *
  have B0' := B0
  generalize w.heap.size = gv at KV ⊢
  have RV := Lib.hid (blk_vec KV.out)
  have gvl : Hid (gv < w2.heap.size) := KV.out.lt
  have RP := Lib.hid (patC_pid KP.out)
  have gpl : Hid (gp < w2.heap.size) := KP.out.lt
  have q0 : ∀ z : Ext w2, z.w.cell? ⟨gp, 0, none⟩ = some (.int .u8 ((p.1.1.val : Nat) : Int)) := fun z => (KP.out.ext z.h).cell 0
  have q2 : ∀ z : Ext w2, z.w.cell? ⟨gp, 2, none⟩ = some (.slice A p.2.1.length c) := fun z => (KP.out.ext z.h).cell 2
  have HN := Lib.hid (fun u => next_any v HV.out p.1.1.val p.1.1.isLt u)
  have HC := Lib.hid (fun z : Ext w2 => containsFits_any p.2.1 v HV.out z.w A p.2.1.length c gv hn (P1.out.ext z.h) (KV.out.ext z.h))
  have EQ := fun u => eqXY (nextV v p.1.1.val).1 (nextV v p.1.1.val).2 ((p.1.1.val : Nat) : Int) ((p.1.2.val : Nat) : Int) u
  cases hb : nextB v p.1
  · have N : Hid (fitB v p = false) := by rw [Hid, fitB, hb]; rfl
    have EQ' : ∀ u : World, (binOp .eql 33 (.agg #[.int .u8 (nextV v p.1.1.val).1, .int .u16 (nextV v p.1.1.val).2]) (.agg (encP p.1).toArray)).run Tryz.prog u = .ok (.bool false) u := fun u => by
      refine (EQ u).trans ?_
      have : (decide ((nextV v p.1.1.val).1 = ((p.1.1.val : Nat) : Int)) && decide ((nextV v p.1.1.val).2 = ((p.1.2.val : Nat) : Int))) = false := hb
      rw [this]
    clear EQ hb HC q2
    refine wp_region_ext mixedS (by kernel_rfl) ?_
    repeat (first
      | go_big_quiet_skip
      | (refine wpQuiet_load_mid (rangeAt_ext RV.out gvl.out) under64 rfl (info64' HV.out) rfl rfl ?_; simp only [List.set_cons_succ, List.set_cons_zero])
      | (refine wpQuiet_load_mid (rangeAt_ext RP.out gpl.out) underPid rfl infoPid rfl rfl ?_; simp only [List.set_cons_succ, List.set_cons_zero])
      | go_big_quiet_step ((go_at_call 85; exact ext_call (HN.out _))))
    refine wpQuiet_nil ?_
    rintro _ ⟨z, rfl⟩
    have B6 := Lib.hid (B0'.out.trans (z.h.mono B0'.out.size))
    generalize z.w = w6 at *
    go_wp2
    go_ret
    exact ⟨ret_bool N.out.symm, B6.out⟩
  · have N := Lib.hid (fitB_any hb)
    have EQ' : ∀ u : World, (binOp .eql 33 (.agg #[.int .u8 (nextV v p.1.1.val).1, .int .u16 (nextV v p.1.1.val).2]) (.agg (encP p.1).toArray)).run Tryz.prog u = .ok (.bool true) u := fun u => by
      refine (EQ u).trans ?_
      have : (decide ((nextV v p.1.1.val).1 = ((p.1.1.val : Nat) : Int)) && decide ((nextV v p.1.1.val).2 = ((p.1.2.val : Nat) : Int))) = true := hb
      rw [this]
    clear EQ hb
    generalize p.2.1.any (lacksD v) = r at *
    refine wp_region_ext mixedS (by kernel_rfl) ?_
    repeat (first
      | go_big_quiet_skip
      | (refine wpQuiet_load_mid (rangeAt_ext RV.out gvl.out) under64 rfl (info64' HV.out) rfl rfl ?_; simp only [List.set_cons_succ, List.set_cons_zero])
      | (refine wpQuiet_load_mid (rangeAt_ext RP.out gpl.out) underPid rfl infoPid rfl rfl ?_; simp only [List.set_cons_succ, List.set_cons_zero])
      | go_big_quiet_step ((first
        | (go_at_call 85; exact ext_call (HN.out _))
        | (go_at_call 86; exact ext_call (HC.out _)))))
    refine wpQuiet_nil ?_
    rintro _ ⟨z, rfl⟩
    have B6 := Lib.hid (B0'.out.trans (z.h.mono B0'.out.size))
    generalize z.w = w6 at *
    go_wp2
    go_ret
    exact ⟨ret_bool N.out.symm, B6.out⟩
end Go.Proofs.YtnhbbggpgieipaaGreat

/- All that a vector has are taken out of a pool: walked. -/
namespace Go.Proofs.YtnhbbggpgieipaaGreat
open Go.RowKit

def RetPrune (w : World) (F : Nat → Prop) (g : Nat) (room : Int) (L : List PatV) (v : List Int) (e : Ending) (w' : World) : Prop :=
  e = .returned (.int .i64 ((L.length : Int) - ((lackP v L).length : Int))) ∧ Kept F w w' ∧ PoolAt w' F g room (lackP v L)
theorem isSome_in {L : List PatV} (hr : L.Pairwise fun a b => keyP a.1 < keyP b.1) {p : PatV} (hp : p ∈ L) : (findP L p.1).isSome = true := by rw [rise_find hr hp]; rfl
set_option maxRecDepth 100000 in
set_option maxHeartbeats 2000000 in
theorem prunePl_any {w : World} {F : Nat → Prop} {g : Nat} {room : Int} {L : List PatV} (hP : PoolAt w F g room L) (v : List Int) (hv : VecOk v) :
    Calls Tryz.prog 14 #[.pointer (some ⟨g, 0, none⟩), .agg (vecA v)] w (RetPrune w F g room L v) := by
  have B0 : Hid (Below w.heap.size w (w.alloc (.cells (vecA v) 39))) := below_new _ _
  have K0 : Hid (Blk (w.alloc (.cells (vecA v) 39)) w.heap.size 39 (vecA v)) := Blk.new _ _ _
  have HP := Lib.hid (hP.ext B0.out)
  have hFg : Hid (¬ F w.heap.size) := fun e => by have := hP.lt _ e; omega
  have hF2 : Hid (∀ k, F k → k < (w.alloc (.cells (vecA v) 39)).heap.size) := HP.out.lt
  have KF0 : Hid (Kept F w (w.alloc (.cells (vecA v) 39))) := Kept.of_below B0.out
  have hfew := hP.few
  have hrise := Lib.hid hP.rise
  have HVV : Hid (∀ (x : PidV) (u : World), Calls Tryz.prog 47 #[.agg (vecA v), .agg (encP x).toArray] u (RetB u (.bool (hasP v x)))) := fun x u => has_any v hv x.1.val x.1.isLt ((x.2.val : Nat) : Int) u
  have hsz : Hid ((Tryz.prog.info? 39).map (·.size) = some (vecA v).size) := by rw [Hid, vecA_size, hv.len]; exact info64
  clear hP B0
  go_enter Tryz.func14, Tryz.ntmps14
  go_upto_region 1 with fail
  generalize (w.alloc (.cells (vecA v) 39)) = w2 at *
  generalize w.heap.size = gv at *
  have HI := Lib.hid (ids_any HP.out)
  go_wp2_with fail
  refine HI.out.mono ?_
  rintro e w3 ⟨s, rfl, o1, b1⟩
  obtain ⟨A, c, rfl, _, ps⟩ := PidsAt.of_own o1 (by simp [idsV])
  have PS := Lib.hid ps
  have IB := Lib.hid (own_inB o1)
  have HP := Lib.hid (HP.out.ext b1)
  have K3 := Lib.hid (K0.out.ext b1)
  have KF3 := Lib.hid (KF0.out.then b1)
  clear o1 b1 ps HI K0 KF0
  have KR := Lib.hid (Kept.refl F w3)
  go_wp2_with fail
  go_loopw [11, 5] (fun i s wr => ∃ k : Nat, k ≤ L.length ∧ i = .int .i64 k ∧ s = .int .i64 ((L.length : Int) - ((prunK v L k).length : Int)) ∧ Hid (PoolAt wr F g room (prunK v L k)) ∧ Hid (Kept F w3 wr)) (fun i _ _ => L.length - (intOf i).toNat)
  case atStart => exact ⟨0, by omega, rfl, by rw [prunK_0, Int.sub_self], by rw [prunK_0]; exact HP.out, KR.out⟩
  case round =>
    clear KR HP
    obtain ⟨k, hk, rfl, rfl, HK, KW⟩ := hrel
    have hk0 : (0 : Int) ≤ (k : Int) := by omega
    by_cases hlt : k < L.length
    · have hlk : (k : Int) < (L.length : Int) := by omega
      have ST : Stay (fun k => w2.heap.size ≤ k ∧ k < w3.heap.size) w3 wr := KW.out.stay fun k _ hd e => by have := hF2.out k e; omega
      obtain ⟨b, o, x, rfl, hb, hx, R⟩ := (PS.out.stay IB.out ST).at_ hlt
      have R := Lib.hid R
      have hp0 : L[k]? = some L[k] := List.getElem?_eq_getElem hlt
      generalize L[k] = p at hp0
      obtain rfl : x = p.1 := by
        rw [idsV, List.getElem?_map, hp0] at hx; exact (Option.some.inj hx).symm
      have M3 : Hid (Below wr.heap.size wr ((wr.alloc (.cells #[.int .u8 0, .int .u16 0] 33)).setRow wr.heap.size (encP p.1).toArray)) := below_setRow ((Below.refl _ _).alloc (Nat.le_refl _) _) (Nat.le_refl _) _
      have K4 : Hid (Blk ((wr.alloc (.cells #[.int .u8 0, .int .u16 0] 33)).setRow wr.heap.size (encP p.1).toArray) wr.heap.size 33 (encP p.1).toArray) := (Blk.new _ _ _).row _
      have i1 : (Tryz.prog.info? 33).map (·.size) = some (encP p.1).toArray.size := infoPid
      have i2 : (encP p.1).toArray.all (·.oneCell') = true := by simp [encP, Value.oneCell']
      have KV := Lib.hid ((KW.out.blk K3.out hFg.out).ext M3.out)
      have HP4 := Lib.hid (HK.out.ext M3.out)
      have KW4 := Lib.hid (KW.out.then M3.out)
      have HV := Lib.hid (HVV.out p.1)
      clear hx HK KW M3 ST hb
      go_upto_region 5 with (first
        | (refine wpList_load_mid rfl 33 _ (by rfl) b (o + k * 2) (by rfl) _ _ R.out underPid rfl infoPid ?_)
        | (refine wpList_alloced (allocPI _) ?_)
        | (refine wpList_store_row rfl 33 _ _ (by rfl) wr.heap.size (encP p.1).toArray (by rfl) (by rfl) _ _ (Blk.new _ _ _) i1 rfl i2 ?_))
      generalize hW : ((wr.alloc (.cells #[.int .u8 0, .int .u16 0] 33)).setRow wr.heap.size (encP p.1).toArray) = w4 at *
      generalize wr.heap.size = gx at *
      clear hW i1 i2 R
      cases hh : hasP v p.1
      · rw [hh] at HV
        have N := Lib.hid (prunK_no hp0 hh)
        clear hh hp0
        go_wp2_with (first
          | (refine wpList_load_row rfl 39 _ (by rfl) gv (by rfl) _ _ _ _ KV.out under64 rfl hsz.out ?_)
          | (refine wpList_load_row rfl 33 _ (by rfl) gx (by rfl) _ _ _ _ K4.out underPid rfl infoPid ?_))
        refine (HV.out _).mono ?_
        rintro e w5 ⟨rfl, b5⟩
        have HP5 := Lib.hid (HP4.out.ext b5)
        have KW5 := Lib.hid (KW4.out.then b5)
        rw [← N.out] at HP5
        clear b5 HP4 KW4 HV KV K4
        go_wp2_with fail
        go_roundw
        case rel => exact ⟨k + 1, by omega, by go_num, by rw [N.out], HP5.out, KW5.out⟩
        case measure => simp [intOf]; omega
      · rw [hh] at HV
        obtain ⟨n1, n2⟩ := prunK_yes hrise.out hp0 hh
        have N := Lib.hid n1
        have NL := Lib.hid (prunK_len hp0 hh)
        have NF := Lib.hid (isSome_in HP4.out.rise n2)
        have hK5 : Hid ((prunK v L k).length ≤ L.length) := (prunK_sub v L k).length_le
        clear hh hp0 n1 n2
        go_wp2_with (first
          | (refine wpList_load_row rfl 39 _ (by rfl) gv (by rfl) _ _ _ _ KV.out under64 rfl hsz.out ?_)
          | (refine wpList_load_row rfl 33 _ (by rfl) gx (by rfl) _ _ _ _ K4.out underPid rfl infoPid ?_))
        refine (HV.out _).mono ?_
        rintro e w5 ⟨rfl, b5⟩
        have HP5 := Lib.hid (HP4.out.ext b5)
        have KW5 := Lib.hid (KW4.out.then b5)
        have K5 := Lib.hid (K4.out.ext b5)
        have HD := Lib.hid (dropPl_any HP5.out p.1)
        clear b5 HP4 KW4 HV KV K4 HP5
        go_wp2_with (refine wpList_load_rowG (by rfl) 33 _ (by rfl) gx (by rfl) _ _ _ _ K5.out underPid rfl infoPid ?_)
        refine HD.out.mono ?_
        rintro e w6 ⟨he, kf, hp⟩
        rw [NF.out] at he
        subst he
        rw [← N.out] at hp
        have HP6 := Lib.hid hp
        have KW6 := Lib.hid (KW5.out.trans kf fun x e => .inl e)
        clear kf hp HD KW5 K5
        have hb1 := NL.out
        have hb2 := hK5.out
        go_wp2_with fail
        go_roundw
        case rel => exact ⟨k + 1, by omega, by go_num, by go_num, HP6.out, KW6.out⟩
        case measure => simp [intOf]; omega
    · have hlk : ¬ ((k : Int) < (L.length : Int)) := by omega
      rw [prunK_all (by omega)] at HK
      have KE := Lib.hid (KF3.out.trans KW.out fun x e => .inl e)
      have e1 : Hid (prunK v L k = lackP v L) := prunK_all (by omega)
      clear KW KF3
      go_wp2
      go_ret
      exact ⟨by rw [e1.out]; rfl, KE.out, HK.out⟩
end Go.Proofs.YtnhbbggpgieipaaGreat

/- A patch is put into a pool: walked. -/
namespace Go.Proofs.YtnhbbggpgieipaaGreat
open Go.RowKit
open Go.ChangeMaps (setBlock)

/-- how many there are in the map -/
theorem PoolAt.lenAt {w : World} {F : Nat → Prop} {g gm : Nat} {room : Int} {L : List PatV} (h : PoolAt w F g room L) (hB : Blk w g 81 #[.int .i64 room, .map (some gm)]) (ty : TypeId) :
    ∀ w', w'.heap[gm]? = w.heap[gm]? → (Builtin.len_ #[79] ty #[.map (some gm)]).run Tryz.prog w' = .ok (.int .i64 (L.length : Int)) w' := by
  obtain ⟨hlt, hself, hrise, hgood, hfew, gm', E, M, D, kB, kF, kne, kM, kP, kE, kD⟩ := h
  have e : gm' = gm := by
    unfold Blk at hB kB
    rw [hB] at kB
    simp only [Option.some.injEq, Obj.cells.injEq, Array.mk.injEq, List.cons.injEq, Value.map.injEq, and_true, true_and] at kB
    exact kB.symm
  subst e
  intro w' hk
  have := (kM.keep hk).len (ty := ty) kMapP
  rw [kE.1, kP.length_eq] at this
  exact this
/-- what is put in -/
theorem PoolAt.putted {w : World} {F : Nat → Prop} {g gm : Nat} {room : Int} {L : List PatV} (h : PoolAt w F g room L) (hB : Blk w g 81 #[.int .i64 room, .map (some gm)]) {p : PatV} {r : List Value} {C : Nat} (hp : PatIn w (fun k => C ≤ k ∧ k < w.heap.size) r p) (hC : ∀ k, F k → k < C) (h0 : findP L p.1 = none) (hg : patB p = true) (hl : L.length < 32) :
    ∃ o, (Instr.mapUpdate 79 (.map (some gm)) (.agg (encP p.1).toArray) (.agg r.toArray)).run Tryz.prog w = .ok () (setBlock w gm o) ∧ PoolAt (setBlock w gm o) (fun k => F k ∨ C ≤ k ∧ k < w.heap.size) g room (insP L p) ∧ Kept F w (setBlock w gm o) := by
  obtain ⟨hlt, hself, hrise, hgood, hfew, gm', E, M, D, kB, kF, kne, kM, kP, kE, kD⟩ := h
  have e : gm' = gm := by
    unfold Blk at hB kB
    rw [hB] at kB
    simp only [Option.some.injEq, Obj.cells.injEq, Array.mk.injEq, List.cons.injEq, Value.map.injEq, and_true, true_and] at kB
    exact kB.symm
  subst e
  obtain ⟨kl, hkl⟩ := kKeyP p.1
  obtain ⟨o, E', hrun, hput, kM'⟩ := kM.put (val := .agg r.toArray) kLawI kMapP hkl
  have hE : E' = E ++ [(.agg (encP p.1).toArray, .agg r.toArray)] := by
    rcases hput with ⟨_, e⟩ | ⟨j, v0, hj, _⟩
    · exact e
    · obtain ⟨q, hq, e1, _⟩ := kE.find (List.mem_of_getElem? hj)
      exact absurd e1 (findP_none.1 h0 q (kP.mem_iff.1 hq))
  subst hE
  have kep : Kept (fun k => k = gm') w (setBlock w gm' o) := Kept.setBlock (F := fun k => k = gm') (Kept.refl _ _) (.inl rfl) o
  refine ⟨o, hrun, ?_, kep.mono fun x e => by rw [e]; exact kF⟩
  refine ⟨fun k hk => Nat.lt_of_lt_of_le (hk.elim (hlt k) fun e => e.2) kep.size, .inl hself, insP_rise hrise p, fun q hq => ?_, ?_, gm', _, M ++ [p], fun k => D k ∨ C ≤ k ∧ k < w.heap.size, kB.setBlock kne o, .inl kF, kne, kM', ?_, ?_, fun k hk => ?_⟩
  · rcases (mem_insP h0).1 hq with hq | rfl
    · exact hgood q hq
    · exact hg
  · rw [insP_len h0]; omega
  · exact (kP.append_right [p]).trans (insP_perm fun q hq e => findP_none.1 h0 q hq (keyP_inj _ _ e)).symm
  · have h1 : EntsIn w (fun k => D k ∨ C ≤ k ∧ k < w.heap.size) (E ++ [(.agg (encP p.1).toArray, .agg r.toArray)]) (M ++ [p]) := (kE.mono fun k e => .inl e).snoc rfl rfl (hp.mono fun k e => .inr e)
    exact h1.stay (kep.stay fun k _ hd e => hd.elim (fun hd => (kD k hd).2.2 e) (fun hd => by have := hC gm' kF; have := hd.1; rw [e] at this; omega))
  · rcases hk with hk | hk
    · obtain ⟨d1, d2, d3⟩ := kD k hk
      exact ⟨.inl d1, d2, d3⟩
    · refine ⟨.inr hk, fun e => ?_, fun e => ?_⟩
      · have := hC g hself; have := hk.1; omega
      · have := hC gm' kF; have := hk.1; omega
def RetPutPl (w : World) (F : Nat → Prop) (g : Nat) (room : Int) (L : List PatV) (p : PatV) (e : Ending) (w' : World) : Prop :=
  e = .returned (.int .i64 ((polE room L p : Nat) : Int)) ∧ Kept F w w' ∧ ∃ F', PoolAt w' F' g room (polL room L p) ∧ ∀ k, F' k → F k ∨ w.heap.size ≤ k
theorem putPlRet_no {w w' : World} {F : Nat → Prop} {g : Nat} {room : Int} {L : List PatV} {p : PatV} {n : Nat} (hI : PoolAt w F g room L) (hb : Below w.heap.size w w') (he : polE room L p = n) (h0 : n ≠ 0) : RetPutPl w F g room L p (.returned (.int .i64 ((n : Nat) : Int))) w' := by
  refine ⟨by rw [he], Kept.of_below hb, F, ?_, fun k h => .inl h⟩
  unfold polL
  rw [if_neg (by rw [he]; exact h0)]
  exact hI.ext hb
theorem wp_mapputted {P : Program} {Q : Exit → Act → World → Prop} {K : Act → World → Prop} {a : Act} {w w' : World} {d : Option Tmp} {ty t : TypeId} {pos : String} {after : Array Edge} {gd : Option (Nat × Bool)} {m x y : Operand} {mv kv v : Value} (hm : a.eval m = mv) (hx : a.eval x = kv) (hy : a.eval y = v) (hr : (Instr.mapUpdate t mv kv v).run P w = .ok () w')
    (h : K (a.put d undef) w') : Oper.wp P ⟨d, .mapUpdate t m x y, ty, pos, after, gd⟩ a w K Q := by
  unfold Oper.wp execOp
  simp only [hm, hx, hy, Sem.run_bind, hr, Result.andThen_ok, Sem.run_pure]
  exact h
theorem exLenMap {P : Program} {ρ : Operand → Value} {w : World} {d : Option Tmp} {ty t : TypeId} {pos : String} {after : Array Edge} {gd : Option (Nat × Bool)} {x : Operand} {mv v : Value} (hx : ρ x = mv) (hr : (Builtin.len_ #[t] ty #[mv]).run P w = .ok v w) : (execOp ρ ⟨d, .call { callee := .builtin .len, args := #[x], argTypes := #[t] }, ty, pos, after, gd⟩).run P w = .ok (.value v) w := by
  simp [execOp, resolve, invoke, builtin, hx, hr, Result.andThen]
theorem geqI (a b : Int) (u : World) : (binOp .geq 3 (.int .i64 a) (.int .i64 b)).run Tryz.prog u = .ok (.bool (decide (b ≤ a))) u := by simp [go_sem]
theorem loadIntC (b o : Nat) (w : World) (n : Int) (h : w.cell? ⟨b, o, none⟩ = some (.int .i64 n)) : (Instr.loadAt 3 (.pointer (some ⟨b, o, none⟩))).run Tryz.prog w = .ok (.int .i64 n) w := by simp [go_sem, h]
set_option maxRecDepth 100000 in
set_option maxHeartbeats 4000000 in
theorem putPl_any {w : World} {F : Nat → Prop} {g : Nat} {room : Int} {L : List PatV} (hP : PoolAt w F g room L) (hroom32 : room ≤ 32) (p : PatV) (cs : List Value) (hp : PatAt w cs p) (hq : p.2.1.length ≤ 100000 ∧ p.2.2.length ≤ 100000) :
    Calls Tryz.prog 10 #[.pointer (some ⟨g, 0, none⟩), .agg cs.toArray] w (RetPutPl w F g room L p) := by
  have HP0 := Lib.hid hP
  have HPAT := Lib.hid hp
  have HQ := Lib.hid hq
  obtain ⟨⟨A, c, A', c', rfl, _, _⟩, _, _⟩ := hp
  have K1 : Hid (Blk (w.alloc (.cells (patC p.1 A p.2.1.length c A' p.2.2.length c').toArray 37)) w.heap.size 37 (patC p.1 A p.2.1.length c A' p.2.2.length c').toArray) := Blk.new _ _ _
  have B0 : Hid (Below w.heap.size w (w.alloc (.cells (patC p.1 A p.2.1.length c A' p.2.2.length c').toArray 37))) := below_new _ _
  have hFw : Hid (∀ k, F k → k < w.heap.size) := hP.lt
  clear hP hq
  go_enter Tryz.func10, Tryz.ntmps10
  go_upto_region 1 with fail
  generalize (w.alloc (.cells (patC p.1 A p.2.1.length c A' p.2.2.length c').toArray 37)) = w2 at *
  obtain ⟨g1, hg1⟩ : ∃ g1, g1 = w.heap.size := ⟨_, rfl⟩
  rw [← hg1] at K1 ⊢
  replace hg1 := Lib.hid hg1
  have PA := Lib.hid (HPAT.out.ext B0.out)
  have HG := Lib.hid (good18_any p w2 _ PA.out)
  clear HPAT
  cases hg : patB p
  · rw [hg] at HG
    have N := Lib.hid (polE_1 (room := room) (L := L) hg)
    clear hg
    go_wp2_with (refine wpList_load_rowG (by rfl) 37 _ (by rfl) g1 (by rfl) _ _ _ _ K1.out underPat rfl infoPat ?_)
    refine HG.out.mono ?_
    rintro e w3 ⟨rfl, b3⟩
    have B3 := Lib.hid (B0.out.trans (b3.mono B0.out.size))
    clear b3 HG
    go_wp2
    go_ret
    exact putPlRet_no HP0.out B3.out N.out (by decide)
  · rw [hg] at HG
    have hg := Lib.hid hg
    go_wp2_with (refine wpList_load_rowG (by rfl) 37 _ (by rfl) g1 (by rfl) _ _ _ _ K1.out underPat rfl infoPat ?_)
    refine HG.out.mono ?_
    rintro e w3 ⟨rfl, b3⟩
    have B3 := Lib.hid (B0.out.trans (b3.mono B0.out.size))
    have PA := Lib.hid (PA.out.ext b3)
    have K1 := Lib.hid (K1.out.ext b3)
    clear b3 HG B0
    go_upto_region 3 with fail
    have HP := Lib.hid (HP0.out.ext B3.out)
    obtain ⟨gm, r, ok, kb, ⟨hgm, fgm, hne⟩, hr4, hr1, hcase, hlook⟩ := HP.out.lookOk p.1
    have KP := Lib.hid kb
    have hcase := Lib.hid hcase
    have fgm := Lib.hid fgm
    have hne := Lib.hid hne
    have hne1 : Hid (g1 ≠ gm) := by have := hFw.out gm fgm.out; rw [Hid, hg1.out]; omega
    have HL : Hid (∀ w', Below w3.heap.size w3 w' → (Instr.lookup 79 (.map (some gm)) (.agg (encP p.1).toArray) true).run Tryz.prog w' = .ok (.tuple #[.agg r.toArray, .bool ok]) w') := fun w' h => hlook w' (h.block gm hgm)
    have HC1 : Hid (∀ w', Below w3.heap.size w3 w' → w'.cell? ⟨g, 1, none⟩ = some (.map (some gm))) := fun w' h => (KP.out.ext h).cell 1
    have R0 := Lib.hid (patC_pid K1.out)
    have g1l : Hid (g1 < w3.heap.size) := K1.out.lt
    have hrz : (r.toArray : Array Value).size = 4 := by rw [List.size_toArray, hr4]
    have hsz : Hid ((Tryz.prog.info? 37).map (·.size) = some (r.toArray : Array Value).size) := by rw [Hid, hrz]; exact infoPat
    have hold : Hid ((#[.int .u8 0, .int .u16 0, .slice none 0 0, .slice none 0 0] : Array Value).size = (r.toArray : Array Value).size) := hrz.symm
    have hone : Hid ((r.toArray : Array Value).all (·.oneCell') = true) := all_oneCell_toArray hr1
    clear kb hlook hr1 hgm
    refine wp_region_held (S := fun w' => Below w3.heap.size w3 w') mixedS ?_
    change wpAnyH _ _ _ _ _ _ _ _ w3.drew
    have B4 : Hid (Below w3.heap.size w3 w3.drew) := (Below.refl _ _).drew
    generalize w3.drew = w4 at B4 ⊢
    simp only [List.size_toArray, List.length_cons, List.length_nil]
    refine takeV (i := 0) (d := 15) (v := .pointer (some ⟨g, 0, none⟩)) rfl (by kernel_rfl) (by kernel_rfl) (by kernel_rfl) (fun _ _ _ h => h) rfl (fun _ _ => exMove (v := .pointer (some ⟨g, 0, none⟩)) rfl) B4.out ?_
    simp only [Act.put, List.setIfInBounds_toArray, List.set_cons_zero, List.set_cons_succ]
    refine takeV (i := 1) (d := 16) (v := .pointer (some ⟨g, 0, none⟩)) rfl (by kernel_rfl) (by kernel_rfl) (by kernel_rfl) (fun _ _ _ h => h) rfl (fun _ _ => exNil rfl) B4.out ?_
    simp only [Act.put, List.setIfInBounds_toArray, List.set_cons_zero, List.set_cons_succ]
    refine takeV (i := 2) (d := 17) (v := .pointer (some ⟨g, 1, none⟩)) rfl (by kernel_rfl) (by kernel_rfl) (by kernel_rfl) (fun _ _ _ h => h) rfl (fun w' _ => exField rfl (fieldPool1 g w')) B4.out ?_
    simp only [Act.put, List.setIfInBounds_toArray, List.set_cons_zero, List.set_cons_succ]
    refine takeV (i := 3) (d := 18) (v := .map (some gm)) rfl (by kernel_rfl) (by kernel_rfl) (by kernel_rfl) (fun _ _ _ h => h) rfl (fun w' h => exLoad rfl (loadPatMap g 1 w' gm (HC1.out w' h))) B4.out ?_
    simp only [Act.put, List.setIfInBounds_toArray, List.set_cons_zero, List.set_cons_succ]
    refine takeV (i := 4) (d := 19) (v := .pointer (some ⟨g1, 0, none⟩)) rfl (by kernel_rfl) (by kernel_rfl) (by kernel_rfl) (fun _ _ _ h => h) rfl (fun w' _ => exField rfl (fieldPat0 g1 w')) B4.out ?_
    simp only [Act.put, List.setIfInBounds_toArray, List.set_cons_zero, List.set_cons_succ]
    refine takeV (i := 5) (d := 20) (v := .agg (encP p.1).toArray) rfl (by kernel_rfl) (by kernel_rfl) (by kernel_rfl) (fun _ _ _ h => h) rfl (fun w' h => exMid rfl (rangeAt_below R0.out h g1l.out) underPid rfl infoPid) B4.out ?_
    simp only [Act.put, List.setIfInBounds_toArray, List.set_cons_zero, List.set_cons_succ]
    refine takeV (i := 6) (d := 21) (v := .tuple #[.agg r.toArray, .bool ok]) rfl (by kernel_rfl) (by kernel_rfl) (by kernel_rfl) (fun _ _ _ h => h) rfl (fun w' h => exLook rfl rfl (HL.out w' h)) B4.out ?_
    simp only [Act.put, List.setIfInBounds_toArray, List.set_cons_zero, List.set_cons_succ]
    refine takeV (i := 7) (d := 14) (v := .tuple #[.agg r.toArray, .bool ok]) rfl (by kernel_rfl) (by kernel_rfl) (by kernel_rfl) (fun _ _ _ h => h) rfl (fun _ _ => exMove (v := .tuple #[.agg r.toArray, .bool ok]) rfl) B4.out ?_
    simp only [Act.put, List.setIfInBounds_toArray, List.set_cons_zero, List.set_cons_succ]
    refine takeV (i := 8) (d := 22) (v := .agg r.toArray) rfl (by kernel_rfl) (by kernel_rfl) (by kernel_rfl) (fun _ _ _ h => h) rfl (fun _ _ => exExtract (v := .agg r.toArray) rfl rfl) B4.out ?_
    simp only [Act.put, List.setIfInBounds_toArray, List.set_cons_zero, List.set_cons_succ]
    refine takeV (i := 9) (d := 23) (v := .bool ok) rfl (by kernel_rfl) (by kernel_rfl) (by kernel_rfl) (fun _ _ _ h => h) rfl (fun _ _ => exExtract (v := .bool ok) rfl rfl) B4.out ?_
    simp only [Act.put, List.setIfInBounds_toArray, List.set_cons_zero, List.set_cons_succ]
    refine wpAnyH_all (rs := [10]) (by kernel_rfl) (by simp) ?_
    intro i hi
    simp only [List.mem_cons, List.not_mem_nil, or_false] at hi
    subst hi
    refine wpOp_of rfl rfl (wp_alloced (allocPat _) ?_)
    refine ⟨ext_trans B4.out (below_new _ _), ?_⟩
    simp only [Act.put, List.setIfInBounds_toArray, List.set_cons_zero, List.set_cons_succ]
    have K_1 : Hid (Blk (w4.alloc (.cells #[.int .u8 0, .int .u16 0, .slice none 0 0, .slice none 0 0] 37)) w4.heap.size 37 #[.int .u8 0, .int .u16 0, .slice none 0 0, .slice none 0 0]) := Blk.new _ _ _
    have h_2 : Below w4.heap.size w4 (w4.alloc (.cells #[.int .u8 0, .int .u16 0, .slice none 0 0, .slice none 0 0] 37)) := below_new _ _
    have gz_4 : Hid (w3.heap.size ≤ w4.heap.size) := B4.out.size
    generalize (w4.alloc (.cells #[.int .u8 0, .int .u16 0, .slice none 0 0, .slice none 0 0] 37)) = w_3 at *
    have B_6 := Lib.hid (ext_trans B4.out h_2)
    clear B4
    clear h_2
    generalize w4.heap.size = g_5 at *
    refine wpAnyH_all (rs := [11]) (by kernel_rfl) (by simp) ?_
    intro i hi
    simp only [List.mem_cons, List.not_mem_nil, or_false] at hi
    subst hi
    refine wpOp_of rfl rfl (wp_stored (cs := r.toArray) rfl rfl K_1.out hsz.out hold.out hone.out ?_)
    refine ⟨below_setRow B_6.out gz_4.out _, ?_⟩
    have K_7 := Lib.hid (K_1.out.row r.toArray)
    have B_8 := Lib.hid (below_setRow B_6.out gz_4.out r.toArray)
    clear B_6 K_1
    refine takeV (i := 12) (d := 6) (v := .bool ok) rfl (by kernel_rfl) (by kernel_rfl) (by kernel_rfl) (fun _ _ _ h => h) rfl (fun _ _ => exAssign (v := .bool ok) rfl) B_8.out ?_
    simp only [Act.put, List.setIfInBounds_toArray, List.set_cons_zero, List.set_cons_succ]
    refine wpAnyH_done (by kernel_rfl) ?_ _
    have KO := K_7
    have B4 := B_8
    clear B_8 K_7
    generalize (w_3.setRow g_5 r.toArray) = w4 at *
    have HP := Lib.hid (HP.out.ext B4.out)
    have KP := Lib.hid (KP.out.ext B4.out)
    have K1 := Lib.hid (K1.out.ext B4.out)
    have PA := Lib.hid (PA.out.ext B4.out)
    have B5 := Lib.hid (B3.out.trans (B4.out.mono B3.out.size))
    clear HL HC1 hold hone R0 g1l
    rcases hcase.out with ⟨f1, e1⟩ | ⟨q, f1, e1, pq⟩
    · obtain rfl := e1
      have FN := Lib.hid f1
      clear f1 hcase KO hsz B3 B4
      go_upto_region 8 with fail
      have HLN := Lib.hid (HP.out.lenAt KP.out 3)
      have gml : Hid (gm < w4.heap.size) := HP.out.lt gm fgm.out
      have HB : Hid (∀ w', Below w4.heap.size w4 w' → w'.heap[gm]? = w4.heap[gm]?) := fun w' h => h.block gm gml.out
      have HC1 : Hid (∀ w', Below w4.heap.size w4 w' → w'.cell? ⟨g, 1, none⟩ = some (.map (some gm))) := fun w' h => (KP.out.ext h).cell 1
      have HC0 : Hid (∀ w', Below w4.heap.size w4 w' → w'.cell? ⟨g, 0, none⟩ = some (.int .i64 room)) := fun w' h => (KP.out.ext h).cell 0
      by_cases hrm : room ≤ (L.length : Int)
      · have N := Lib.hid (polE_11 hg.out FN.out hrm)
        have GQ : ∀ u : World, (binOp .geq 3 (.int .i64 (L.length : Int)) (.int .i64 room)).run Tryz.prog u = .ok (.bool true) u := fun u => by rw [geqI, decide_eq_true hrm]
        clear hrm
        refine wp_region_held (S := fun w' => Below w4.heap.size w4 w') mixedS ?_
        change wpAnyH _ _ _ _ _ _ _ _ w4.drew
        have B6 : Hid (Below w4.heap.size w4 w4.drew) := (Below.refl _ _).drew
        generalize w4.drew = w6 at B6 ⊢
        simp only [List.size_toArray, List.length_cons, List.length_nil]
        refine takeV (i := 0) (d := 34) (v := .pointer (some ⟨g, 0, none⟩)) rfl (by kernel_rfl) (by kernel_rfl) (by kernel_rfl) (fun _ _ _ h => h) rfl (fun _ _ => exMove (v := .pointer (some ⟨g, 0, none⟩)) rfl) B6.out ?_
        simp only [Act.put, List.setIfInBounds_toArray, List.set_cons_zero, List.set_cons_succ]
        refine takeV (i := 1) (d := 35) (v := .pointer (some ⟨g, 0, none⟩)) rfl (by kernel_rfl) (by kernel_rfl) (by kernel_rfl) (fun _ _ _ h => h) rfl (fun _ _ => exNil rfl) B6.out ?_
        simp only [Act.put, List.setIfInBounds_toArray, List.set_cons_zero, List.set_cons_succ]
        refine takeV (i := 2) (d := 36) (v := .pointer (some ⟨g, 1, none⟩)) rfl (by kernel_rfl) (by kernel_rfl) (by kernel_rfl) (fun _ _ _ h => h) rfl (fun w' _ => exField rfl (fieldPool1 g w')) B6.out ?_
        simp only [Act.put, List.setIfInBounds_toArray, List.set_cons_zero, List.set_cons_succ]
        refine takeV (i := 3) (d := 37) (v := .map (some gm)) rfl (by kernel_rfl) (by kernel_rfl) (by kernel_rfl) (fun _ _ _ h => h) rfl (fun w' h => exLoad rfl (loadPatMap g 1 w' gm (HC1.out w' h))) B6.out ?_
        simp only [Act.put, List.setIfInBounds_toArray, List.set_cons_zero, List.set_cons_succ]
        refine takeV (i := 4) (d := 38) (v := .int .i64 (L.length : Int)) rfl (by kernel_rfl) (by kernel_rfl) (by kernel_rfl) (fun _ _ _ h => h) rfl (fun w' h => exLenMap rfl (HLN.out w' (HB.out w' h))) B6.out ?_
        simp only [Act.put, List.setIfInBounds_toArray, List.set_cons_zero, List.set_cons_succ]
        refine takeV (i := 5) (d := 39) (v := .pointer (some ⟨g, 0, none⟩)) rfl (by kernel_rfl) (by kernel_rfl) (by kernel_rfl) (fun _ _ _ h => h) rfl (fun _ _ => exMove (v := .pointer (some ⟨g, 0, none⟩)) rfl) B6.out ?_
        simp only [Act.put, List.setIfInBounds_toArray, List.set_cons_zero, List.set_cons_succ]
        refine takeV (i := 6) (d := 40) (v := .pointer (some ⟨g, 0, none⟩)) rfl (by kernel_rfl) (by kernel_rfl) (by kernel_rfl) (fun _ _ _ h => h) rfl (fun _ _ => exNil rfl) B6.out ?_
        simp only [Act.put, List.setIfInBounds_toArray, List.set_cons_zero, List.set_cons_succ]
        refine takeV (i := 7) (d := 41) (v := .pointer (some ⟨g, 0, none⟩)) rfl (by kernel_rfl) (by kernel_rfl) (by kernel_rfl) (fun _ _ _ h => h) rfl (fun w' _ => exField rfl (fieldPool0 g w')) B6.out ?_
        simp only [Act.put, List.setIfInBounds_toArray, List.set_cons_zero, List.set_cons_succ]
        refine takeV (i := 8) (d := 42) (v := .int .i64 room) rfl (by kernel_rfl) (by kernel_rfl) (by kernel_rfl) (fun _ _ _ h => h) rfl (fun w' h => exLoad rfl (loadIntC g 0 w' room (HC0.out w' h))) B6.out ?_
        simp only [Act.put, List.setIfInBounds_toArray, List.set_cons_zero, List.set_cons_succ]
        refine takeV (i := 9) (d := 43) (v := .bool true) rfl (by kernel_rfl) (by kernel_rfl) (by kernel_rfl) (fun _ _ _ h => h) rfl (fun w' _ => exBin rfl rfl (by rfl) (GQ w')) B6.out ?_
        simp only [Act.put, List.setIfInBounds_toArray, List.set_cons_zero, List.set_cons_succ]
        refine takeV (i := 10) (d := 33) (v := .bool true) rfl (by kernel_rfl) (by kernel_rfl) (by kernel_rfl) (fun _ _ _ h => h) rfl (fun _ _ => exAssign (v := .bool true) rfl) B6.out ?_
        simp only [Act.put, List.setIfInBounds_toArray, List.set_cons_zero, List.set_cons_succ]
        refine wpAnyH_done (by kernel_rfl) ?_ _
        have B7 := Lib.hid (B5.out.trans (B6.out.mono B5.out.size))
        clear HLN HB HC1 HC0 GQ
        go_wp2
        go_ret
        exact putPlRet_no HP0.out B7.out N.out (by decide)
      · have N := Lib.hid (polE_0 hg.out FN.out hrm)
        have GQ : ∀ u : World, (binOp .geq 3 (.int .i64 (L.length : Int)) (.int .i64 room)).run Tryz.prog u = .ok (.bool false) u := fun u => by rw [geqI, decide_eq_false hrm]
        have hL32 : Hid (L.length < 32) := by rw [Hid]; omega
        clear hrm
        refine wp_region_held (S := fun w' => Below w4.heap.size w4 w') mixedS ?_
        change wpAnyH _ _ _ _ _ _ _ _ w4.drew
        have B6 : Hid (Below w4.heap.size w4 w4.drew) := (Below.refl _ _).drew
        generalize w4.drew = w6 at B6 ⊢
        simp only [List.size_toArray, List.length_cons, List.length_nil]
        refine takeV (i := 0) (d := 34) (v := .pointer (some ⟨g, 0, none⟩)) rfl (by kernel_rfl) (by kernel_rfl) (by kernel_rfl) (fun _ _ _ h => h) rfl (fun _ _ => exMove (v := .pointer (some ⟨g, 0, none⟩)) rfl) B6.out ?_
        simp only [Act.put, List.setIfInBounds_toArray, List.set_cons_zero, List.set_cons_succ]
        refine takeV (i := 1) (d := 35) (v := .pointer (some ⟨g, 0, none⟩)) rfl (by kernel_rfl) (by kernel_rfl) (by kernel_rfl) (fun _ _ _ h => h) rfl (fun _ _ => exNil rfl) B6.out ?_
        simp only [Act.put, List.setIfInBounds_toArray, List.set_cons_zero, List.set_cons_succ]
        refine takeV (i := 2) (d := 36) (v := .pointer (some ⟨g, 1, none⟩)) rfl (by kernel_rfl) (by kernel_rfl) (by kernel_rfl) (fun _ _ _ h => h) rfl (fun w' _ => exField rfl (fieldPool1 g w')) B6.out ?_
        simp only [Act.put, List.setIfInBounds_toArray, List.set_cons_zero, List.set_cons_succ]
        refine takeV (i := 3) (d := 37) (v := .map (some gm)) rfl (by kernel_rfl) (by kernel_rfl) (by kernel_rfl) (fun _ _ _ h => h) rfl (fun w' h => exLoad rfl (loadPatMap g 1 w' gm (HC1.out w' h))) B6.out ?_
        simp only [Act.put, List.setIfInBounds_toArray, List.set_cons_zero, List.set_cons_succ]
        refine takeV (i := 4) (d := 38) (v := .int .i64 (L.length : Int)) rfl (by kernel_rfl) (by kernel_rfl) (by kernel_rfl) (fun _ _ _ h => h) rfl (fun w' h => exLenMap rfl (HLN.out w' (HB.out w' h))) B6.out ?_
        simp only [Act.put, List.setIfInBounds_toArray, List.set_cons_zero, List.set_cons_succ]
        refine takeV (i := 5) (d := 39) (v := .pointer (some ⟨g, 0, none⟩)) rfl (by kernel_rfl) (by kernel_rfl) (by kernel_rfl) (fun _ _ _ h => h) rfl (fun _ _ => exMove (v := .pointer (some ⟨g, 0, none⟩)) rfl) B6.out ?_
        simp only [Act.put, List.setIfInBounds_toArray, List.set_cons_zero, List.set_cons_succ]
        refine takeV (i := 6) (d := 40) (v := .pointer (some ⟨g, 0, none⟩)) rfl (by kernel_rfl) (by kernel_rfl) (by kernel_rfl) (fun _ _ _ h => h) rfl (fun _ _ => exNil rfl) B6.out ?_
        simp only [Act.put, List.setIfInBounds_toArray, List.set_cons_zero, List.set_cons_succ]
        refine takeV (i := 7) (d := 41) (v := .pointer (some ⟨g, 0, none⟩)) rfl (by kernel_rfl) (by kernel_rfl) (by kernel_rfl) (fun _ _ _ h => h) rfl (fun w' _ => exField rfl (fieldPool0 g w')) B6.out ?_
        simp only [Act.put, List.setIfInBounds_toArray, List.set_cons_zero, List.set_cons_succ]
        refine takeV (i := 8) (d := 42) (v := .int .i64 room) rfl (by kernel_rfl) (by kernel_rfl) (by kernel_rfl) (fun _ _ _ h => h) rfl (fun w' h => exLoad rfl (loadIntC g 0 w' room (HC0.out w' h))) B6.out ?_
        simp only [Act.put, List.setIfInBounds_toArray, List.set_cons_zero, List.set_cons_succ]
        refine takeV (i := 9) (d := 43) (v := .bool false) rfl (by kernel_rfl) (by kernel_rfl) (by kernel_rfl) (fun _ _ _ h => h) rfl (fun w' _ => exBin rfl rfl (by rfl) (GQ w')) B6.out ?_
        simp only [Act.put, List.setIfInBounds_toArray, List.set_cons_zero, List.set_cons_succ]
        refine takeV (i := 10) (d := 33) (v := .bool false) rfl (by kernel_rfl) (by kernel_rfl) (by kernel_rfl) (fun _ _ _ h => h) rfl (fun _ _ => exAssign (v := .bool false) rfl) B6.out ?_
        simp only [Act.put, List.setIfInBounds_toArray, List.set_cons_zero, List.set_cons_succ]
        refine wpAnyH_done (by kernel_rfl) ?_ _
        have B7 := Lib.hid (B5.out.trans (B6.out.mono B5.out.size))
        have HP := Lib.hid (HP.out.ext B6.out)
        have KP := Lib.hid (KP.out.ext B6.out)
        have K1 := Lib.hid (K1.out.ext B6.out)
        have PA := Lib.hid (PA.out.ext B6.out)
        clear HLN HB HC1 HC0 GQ B5 B6 gml
        go_upto_region 10 with fail
        have hcC : ∀ args u, (callFunc 44 args).run Tryz.prog u = .ok (.enter 44 args) u := enters_of Tryz.func44 (by kernel_rfl) rfl
        have D8 := (Below.refl w6.heap.size w6).drew
        have HP := Lib.hid (HP.out.ext D8)
        have KP := Lib.hid (KP.out.ext D8)
        have K1 := Lib.hid (K1.out.ext D8)
        have PA := Lib.hid (PA.out.ext D8)
        have B8 := Lib.hid (B7.out.trans (D8.mono B7.out.size))
        refine wp_region_held (S := fun w' => Kept (fun k => k = gm) w6.drew w') mixedS ?_
        change wpAnyH _ _ _ _ _ _ _ _ w6.drew
        clear D8 B7
        have B9 : Hid (Kept (fun k => k = gm) w6.drew w6.drew) := Kept.refl _ _
        generalize w6.drew = w8 at *
        have R0 := Lib.hid (patC_pid K1.out)
        have RW := Lib.hid (blk_pat K1.out)
        have HC1 : Hid (∀ w', Kept (fun k => k = gm) w8 w' → w'.cell? ⟨g, 1, none⟩ = some (.map (some gm))) := fun w' h => (h.blk KP.out hne.out).cell 1
        have HR0 : Hid (∀ w', Kept (fun k => k = gm) w8 w' → w'.rangeAt g1 0 (encP p.1)) := fun w' h => patC_pid (h.blk K1.out hne1.out)
        have HRW : Hid (∀ w', Kept (fun k => k = gm) w8 w' → w'.rangeAt g1 0 (patC p.1 A p.2.1.length c A' p.2.2.length c')) := fun w' h => blk_pat (h.blk K1.out hne1.out)
        have hFw8 : Hid (∀ k, F k → k < w8.heap.size) := HP.out.lt
        clear R0 RW K1
        simp only [List.size_toArray, List.length_cons, List.length_nil]
        refine takeV (i := 0) (d := 44) (v := .pointer (some ⟨g, 0, none⟩)) rfl (by kernel_rfl) (by kernel_rfl) (by kernel_rfl) (fun _ _ _ h => h) rfl (fun _ _ => exMove (v := .pointer (some ⟨g, 0, none⟩)) rfl) B9.out ?_
        simp only [Act.put, List.setIfInBounds_toArray, List.set_cons_zero, List.set_cons_succ]
        refine takeV (i := 1) (d := 45) (v := .pointer (some ⟨g, 0, none⟩)) rfl (by kernel_rfl) (by kernel_rfl) (by kernel_rfl) (fun _ _ _ h => h) rfl (fun _ _ => exNil rfl) B9.out ?_
        simp only [Act.put, List.setIfInBounds_toArray, List.set_cons_zero, List.set_cons_succ]
        refine takeV (i := 2) (d := 46) (v := .pointer (some ⟨g, 1, none⟩)) rfl (by kernel_rfl) (by kernel_rfl) (by kernel_rfl) (fun _ _ _ h => h) rfl (fun w' _ => exField rfl (fieldPool1 g w')) B9.out ?_
        simp only [Act.put, List.setIfInBounds_toArray, List.set_cons_zero, List.set_cons_succ]
        refine takeV (i := 3) (d := 47) (v := .map (some gm)) rfl (by kernel_rfl) (by kernel_rfl) (by kernel_rfl) (fun _ _ _ h => h) rfl (fun w' h => exLoad rfl (loadPatMap g 1 w' gm (HC1.out w' h))) B9.out ?_
        simp only [Act.put, List.setIfInBounds_toArray, List.set_cons_zero, List.set_cons_succ]
        refine takeV (i := 4) (d := 48) (v := .pointer (some ⟨g1, 0, none⟩)) rfl (by kernel_rfl) (by kernel_rfl) (by kernel_rfl) (fun _ _ _ h => h) rfl (fun w' _ => exField rfl (fieldPat0 g1 w')) B9.out ?_
        simp only [Act.put, List.setIfInBounds_toArray, List.set_cons_zero, List.set_cons_succ]
        refine takeV (i := 5) (d := 49) (v := .agg (encP p.1).toArray) rfl (by kernel_rfl) (by kernel_rfl) (by kernel_rfl) (fun _ _ _ h => h) rfl (fun w' h => exMid rfl (HR0.out w' h) underPid rfl infoPid) B9.out ?_
        simp only [Act.put, List.setIfInBounds_toArray, List.set_cons_zero, List.set_cons_succ]
        refine takeV (i := 6) (d := 50) (v := .agg (patC p.1 A p.2.1.length c A' p.2.2.length c').toArray) rfl (by kernel_rfl) (by kernel_rfl) (by kernel_rfl) (fun _ _ _ h => h) rfl (fun w' h => exMid rfl (HRW.out w' h) underPat rfl infoPat) B9.out ?_
        simp only [Act.put, List.setIfInBounds_toArray, List.set_cons_zero, List.set_cons_succ]
        refine wpAnyH_all (rs := [7]) (by kernel_rfl) (by simp) ?_
        intro i hi
        simp only [List.mem_cons, List.not_mem_nil, or_false] at hi
        subst hi
        refine wpOp_of rfl rfl (wp_called (args := #[.agg (patC p.1 A p.2.1.length c A' p.2.2.length c').toArray]) hcC (by simp only [List.map_toArray, List.map_cons, List.map_nil]; rfl) (copy18_any p w8 _ PA.out HQ.out.1 HQ.out.2) ?_)
        rintro e w9 ⟨A3, c3, A4, c4, rfl, o1, o2, b9⟩
        have PN := Lib.hid (PatIn.of_copy o1 o2 PA.out.oks PA.out.len1 PA.out.len2)
        have HP := Lib.hid (HP.out.ext b9)
        have KP := Lib.hid (KP.out.ext b9)
        have B10 := Lib.hid (B9.out.then b9)
        have hB8 : Hid (w.heap.size ≤ w8.heap.size) := B8.out.size
        have B11 := Lib.hid (B8.out.trans (b9.mono B8.out.size))
        refine ⟨_, rfl, B10.out, ?_⟩
        simp only [Act.put, List.setIfInBounds_toArray, List.set_cons_zero, List.set_cons_succ]
        clear o1 o2 b9 B9 PA
        refine wpAnyH_all (rs := [8]) (by kernel_rfl) (by simp) ?_
        intro i hi
        simp only [List.mem_cons, List.not_mem_nil, or_false] at hi
        subst hi
        obtain ⟨o, hrun, hp, kep⟩ := HP.out.putted KP.out PN.out hFw8.out FN.out hg.out hL32.out
        refine wpOp_of rfl rfl (wp_mapputted rfl rfl rfl hrun ?_)
        refine ⟨Kept.setBlock (F := fun k => k = gm) B10.out (.inl rfl) o, ?_⟩
        have HD := Lib.hid hp
        have KF := Lib.hid ((Kept.of_below (F := F) B11.out).trans kep fun x e => .inl e)
        clear hp kep hrun HP KP PN B10 B11 B8
        generalize Go.ChangeMaps.setBlock w9 gm o = w10 at *
        refine wpAnyH_done (by kernel_rfl) ?_ _
        go_wp2
        go_ret
        exact ⟨by rw [N.out]; rfl, KF.out, fun k => F k ∨ w8.heap.size ≤ k ∧ k < w9.heap.size, by unfold polL; rw [if_pos N.out]; exact HD.out, fun k e => e.elim .inl fun e => .inr (Nat.le_trans hB8.out e.1)⟩
    · obtain rfl := e1
      have PQ := Lib.hid (pq.ext B4.out).at_
      have HS := Lib.hid (psame q p w4 _ _ PQ.out PA.out)
      clear hcase pq B3 B4
      by_cases e : q = p
      · have N := Lib.hid (polE_7 (room := room) hg.out f1 e)
        rw [decide_eq_true e] at HS
        clear f1 e PQ
        go_wp2_with (first
          | (refine wpList_load_rowG (by rfl) 37 _ (by rfl) g1 (by rfl) _ _ _ _ K1.out underPat rfl infoPat ?_)
          | (refine wpList_load_rowG (by rfl) 37 _ (by rfl) g_5 (by rfl) _ _ _ _ KO.out underPat rfl hsz.out ?_))
        refine HS.out.mono ?_
        rintro e w6 ⟨rfl, b6⟩
        have B7 := Lib.hid (B5.out.trans (b6.mono B5.out.size))
        clear b6 HS
        go_wp2
        go_ret
        exact putPlRet_no HP0.out B7.out N.out (by decide)
      · have N := Lib.hid (polE_8 (room := room) hg.out f1 e)
        rw [decide_eq_false e] at HS
        clear f1 e PQ
        go_wp2_with (first
          | (refine wpList_load_rowG (by rfl) 37 _ (by rfl) g1 (by rfl) _ _ _ _ K1.out underPat rfl infoPat ?_)
          | (refine wpList_load_rowG (by rfl) 37 _ (by rfl) g_5 (by rfl) _ _ _ _ KO.out underPat rfl hsz.out ?_))
        refine HS.out.mono ?_
        rintro e w6 ⟨rfl, b6⟩
        have B7 := Lib.hid (B5.out.trans (b6.mono B5.out.size))
        clear b6 HS
        go_wp2
        go_ret
        exact putPlRet_no HP0.out B7.out N.out (by decide)
end Go.Proofs.YtnhbbggpgieipaaGreat

/- What is ready of a pool: walked. -/
namespace Go.Proofs.YtnhbbggpgieipaaGreat
open Go.RowKit

theorem Kept.setRow {F : Nat → Prop} {a w : World} (h : Kept F a w) {g : Nat} (hp : F g ∨ a.heap.size ≤ g) (cs : Array Value) : Kept F a (w.setRow g cs) :=
  ⟨h.os, h.tape, h.output, by simpa [World.setRow] using h.size, fun k hk hn => (setRow_other w g k cs (by rintro rfl; exact hp.elim hn (fun e => by omega))).trans (h.block k hk hn)⟩
def zeroCs : List Value := [.int .u8 0, .int .u16 0, .slice none 0 0, .slice none 0 0]
theorem PoolAt.look2 {w : World} {F : Nat → Prop} {g : Nat} {room : Int} {L : List PatV} (h : PoolAt w F g room L) {p : PatV} (hp : p ∈ L) :
    ∃ gm r, Blk w g 81 #[.int .i64 room, .map (some gm)] ∧ F gm ∧ PatIn w F r p ∧
      ∀ w', w'.heap[gm]? = w.heap[gm]? → (Instr.lookup 79 (.map (some gm)) (.agg (encP p.1).toArray) false).run Tryz.prog w' = .ok (.agg r.toArray) w' := by
  obtain ⟨hlt, hself, hrise, hgood, hfew, gm, E, M, D, kB, kF, kne, kM, kP, kE, kD⟩ := h
  obtain ⟨r, hr, hpi⟩ := kE.has (kP.mem_iff.2 hp)
  obtain ⟨kl, hkl⟩ := kKeyP p.1
  obtain ⟨v, hg, hl⟩ := kM.look kLawI kMapP kZeroPat hkl
  have e : v = .agg r.toArray := GetL.one kM.apart hg (.inr hr)
  subst e
  exact ⟨gm, r, kB, kF, hpi.mono (fun k e => (kD k e).1), hl⟩
/-- what is ready is handed back, with lists of its own -/
def RetReady (w : World) (v : List Int) (L : List PatV) (e : Ending) (w' : World) : Prop :=
  ∃ r, e = .returned (.tuple #[.agg r.toArray, .bool (readyL v L).isSome]) ∧ PatIn w' (fun k => w.heap.size ≤ k ∧ k < w'.heap.size) r ((readyL v L).getD zeroPat) ∧ Below w.heap.size w w'
theorem fitK_snoc {v : List Int} {L : List PatV} {k : Nat} {p : PatV} (h : L[k]? = some p) (hk : ∀ q ∈ L.take k, fitB v q = false) (hp : fitB v p = false) : ∀ q ∈ L.take (k + 1), fitB v q = false := by
  intro q hq
  rw [List.take_add_one, h] at hq
  rcases List.mem_append.1 hq with hq | hq
  · exact hk q hq
  · have : q = p := by simpa using hq
    rw [this]; exact hp
set_option maxRecDepth 100000 in
set_option maxHeartbeats 4000000 in
theorem readyPl_any {w : World} {F : Nat → Prop} {g : Nat} {room : Int} {L : List PatV} (hP : PoolAt w F g room L) (v : List Int) (hv : VecOk v) :
    Calls Tryz.prog 15 #[.pointer (some ⟨g, 0, none⟩), .agg (vecA v)] w (RetReady w v L) := by
  have B0 : Hid (Below w.heap.size w ((w.alloc (.cells (vecA v) 39)).alloc (.cells #[.int .u8 0, .int .u16 0, .slice none 0 0, .slice none 0 0] 37))) := ((Below.refl _ _).alloc (Nat.le_refl _) _).alloc (by simp) _
  have K2 : Hid (Blk ((w.alloc (.cells (vecA v) 39)).alloc (.cells #[.int .u8 0, .int .u16 0, .slice none 0 0, .slice none 0 0] 37)) (w.heap.size + 1) 37 #[.int .u8 0, .int .u16 0, .slice none 0 0, .slice none 0 0]) := Blk.newAt (by simp) _ _
  have KV : Hid (Blk ((w.alloc (.cells (vecA v) 39)).alloc (.cells #[.int .u8 0, .int .u16 0, .slice none 0 0, .slice none 0 0] 37)) w.heap.size 39 (vecA v)) := (Blk.new _ _ _).alloc _
  have hgr : Hid (w.heap.size ≤ w.heap.size + 1) := Nat.le_succ _
  have HP : Hid (PoolAt ((w.alloc (.cells (vecA v) 39)).alloc (.cells #[.int .u8 0, .int .u16 0, .slice none 0 0, .slice none 0 0] 37)) F g room L) := hP.stay ⟨B0.out.size, fun k hk _ => B0.out.block k hk⟩
  have hfew := hP.few
  have HV := Lib.hid hv
  have hFr : Hid (∀ k, F k → k < w.heap.size) := hP.lt
  clear hP hv
  go_enter Tryz.func15, Tryz.ntmps15
  go_upto_region 1 with fail
  generalize ((w.alloc (.cells (vecA v) 39)).alloc (.cells #[.int .u8 0, .int .u16 0, .slice none 0 0, .slice none 0 0] 37)) = w2 at *
  generalize w.heap.size + 1 = gr at *
  obtain ⟨gv, hgv⟩ : ∃ gv, gv = w.heap.size := ⟨_, rfl⟩
  rw [← hgv] at KV ⊢
  replace hgv := Lib.hid hgv
  have HI := Lib.hid (ids_any HP.out)
  go_wp2_with fail
  refine HI.out.mono ?_
  rintro e w3 ⟨s, rfl, o1, b3⟩
  obtain ⟨A, c, rfl, _, ps⟩ := PidsAt.of_own o1 (by simp [idsV])
  have PS := Lib.hid ps
  have B3 := Lib.hid (B0.out.trans (b3.mono B0.out.size))
  have K3 := Lib.hid (K2.out.ext b3)
  have KV := Lib.hid (KV.out.ext b3)
  have HP := Lib.hid (HP.out.ext b3)
  clear o1 b3 ps HI K2 B0
  have BS := Lib.hid (Below.refl w3.heap.size w3)
  go_wp2_with fail
  go_loopw [11] (fun i wr => ∃ k : Nat, k ≤ L.length ∧ i = .int .i64 k ∧ Hid (∀ q ∈ L.take k, fitB v q = false) ∧ Hid (Below w3.heap.size w3 wr)) (fun i _ => L.length - (intOf i).toNat)
  case atStart => exact ⟨0, by omega, rfl, by simp [Hid], BS.out⟩
  case round =>
    clear BS
    obtain ⟨k, hk, rfl, T, B⟩ := hrel
    have hk0 : (0 : Int) ≤ (k : Int) := by omega
    have K4 := Lib.hid (K3.out.ext B.out)
    by_cases hlt : k < L.length
    · have hlk : (k : Int) < (L.length : Int) := by omega
      obtain ⟨b, o, x, rfl, hb, hx, R⟩ := PS.out.at_ hlt
      have hp0 : L[k]? = some L[k] := List.getElem?_eq_getElem hlt
      generalize L[k] = p at hp0
      obtain rfl : x = p.1 := by
        rw [idsV, List.getElem?_map, hp0] at hx; exact (Option.some.inj hx).symm
      have R := Lib.hid (rangeAt_below R B.out hb)
      have M3 : Hid (Below wr.heap.size wr ((wr.alloc (.cells #[.int .u8 0, .int .u16 0] 33)).setRow wr.heap.size (encP p.1).toArray)) := below_setRow ((Below.refl _ _).alloc (Nat.le_refl _) _) (Nat.le_refl _) _
      have KX : Hid (Blk ((wr.alloc (.cells #[.int .u8 0, .int .u16 0] 33)).setRow wr.heap.size (encP p.1).toArray) wr.heap.size 33 (encP p.1).toArray) := (Blk.new _ _ _).row _
      have i1 : (Tryz.prog.info? 33).map (·.size) = some (encP p.1).toArray.size := infoPid
      have i2 : (encP p.1).toArray.all (·.oneCell') = true := by simp [encP, Value.oneCell']
      have B4 := Lib.hid (B.out.trans (M3.out.mono B.out.size))
      have HP4 := Lib.hid (HP.out.ext B4.out)
      have KV4 := Lib.hid (KV.out.ext B4.out)
      have K5 := Lib.hid (K4.out.ext M3.out)
      have GL := Lib.hid (patB_len (HP.out.good p (List.mem_of_getElem? hp0)))
      have hmem := Lib.hid (List.mem_of_getElem? hp0)
      have hgx : Hid (wr.heap.size ≠ gr) := by have := K4.out.lt; rw [Hid]; omega
      clear hx B M3 K4
      go_upto_region 4 with (first
        | (refine wpList_load_mid rfl 33 _ (by rfl) b (o + k * 2) (by rfl) _ _ R.out underPid rfl infoPid ?_)
        | (refine wpList_alloced (allocPI _) ?_)
        | (refine wpList_store_row rfl 33 _ _ (by rfl) wr.heap.size (encP p.1).toArray (by rfl) (by rfl) _ _ (Blk.new _ _ _) i1 rfl i2 ?_))
      generalize hW : ((wr.alloc (.cells #[.int .u8 0, .int .u16 0] 33)).setRow wr.heap.size (encP p.1).toArray) = w4 at *
      generalize wr.heap.size = gx at *
      clear hW i1 i2 R
      simp only [Act.put, List.setIfInBounds_toArray, List.set_cons_zero, List.set_cons_succ]
      obtain ⟨gm, r, kb, fgm, pin, hl⟩ := HP4.out.look2 hmem.out
      have hgm : gm < w4.heap.size := HP4.out.lt gm fgm
      have hgr1 : Hid (gm ≠ gr) := by have := hFr.out gm fgm; have := hgr.out; rw [Hid]; omega
      have hgg : Hid (g ≠ gr) := by have := hFr.out g HP4.out.self; have := hgr.out; rw [Hid]; omega
      have KP := Lib.hid kb
      have RX := Lib.hid KX.out.range
      have gxl : Hid (gx < w4.heap.size) := KX.out.lt
      have RV := Lib.hid (blk_vec KV4.out)
      have gvl : Hid (gv < w4.heap.size) := KV4.out.lt
      have q1 : ∀ z : Ext w4, z.w.cell? ⟨g, 1, none⟩ = some (.map (some gm)) := fun z => (KP.out.ext z.h).cell 1
      have HL : Hid (∀ w', w'.heap[gm]? = w4.heap[gm]? → (Instr.lookup 79 (.map (some gm)) (.agg (encP p.1).toArray) false).run Tryz.prog w' = .ok (.agg r.toArray) w') := hl
      have HLE : Hid (∀ w', (∃ z : Ext w4, w' = z.w) → (Instr.lookup 79 (.map (some gm)) (.agg (encP p.1).toArray) false).run Tryz.prog w' = .ok (.agg r.toArray) w') := by
        rintro _ ⟨z, rfl⟩; exact hl _ (z.h.block gm hgm)
      have PIN := Lib.hid pin
      have HF : Hid (∀ z : Ext w4, Calls Tryz.prog 48 #[.agg (v.map (Value.int .u16)).toArray, .agg r.toArray] z.w (RetB z.w (.bool (fitB v p)))) := fun z => fits_any v HV.out p z.w r (PIN.out.ext z.h).at_ (by have := GL.out.1; omega)
      clear hl pin kb hmem
      cases hf : fitB v p
      · rw [hf] at HF
        have N := Lib.hid (fitK_snoc hp0 T.out hf)
        clear hf hp0 T HL PIN
        refine wp_region_ext mixedS (by kernel_rfl) ?_
        repeat (first
          | (refine wpQuiet_load_mid (rangeAt_ext RV.out gvl.out) under64 rfl (info64' HV.out) rfl rfl ?_; simp only [List.set_cons_succ, List.set_cons_zero])
          | (refine wpQuiet_load_mid (rangeAt_ext RX.out gxl.out) underPid rfl infoPid rfl rfl ?_; simp only [List.set_cons_succ, List.set_cons_zero])
          | (refine wpQuiet_look HLE.out rfl rfl rfl ?_; simp only [List.set_cons_succ, List.set_cons_zero])
          | go_big_quiet_step ((go_at_call 48; exact ext_call (HF.out _))))
        refine wpQuiet_nil ?_
        rintro _ ⟨z, rfl⟩
        have B5 := Lib.hid (B4.out.trans (z.h.mono B4.out.size))
        generalize z.w = w5 at *
        clear q1 RX RV HLE HF B4
        go_wp2_with fail
        go_roundw
        case rel => exact ⟨k + 1, by omega, by go_num, N.out, B5.out⟩
        case measure => simp [intOf]; omega
      · rw [hf] at HF
        have N := Lib.hid (readyL_at hp0 T.out hf)
        clear hf hp0 T
        refine wp_region_ext mixedS (by kernel_rfl) ?_
        repeat (first
          | (refine wpQuiet_load_mid (rangeAt_ext RV.out gvl.out) under64 rfl (info64' HV.out) rfl rfl ?_; simp only [List.set_cons_succ, List.set_cons_zero])
          | (refine wpQuiet_load_mid (rangeAt_ext RX.out gxl.out) underPid rfl infoPid rfl rfl ?_; simp only [List.set_cons_succ, List.set_cons_zero])
          | (refine wpQuiet_look HLE.out rfl rfl rfl ?_; simp only [List.set_cons_succ, List.set_cons_zero])
          | go_big_quiet_step ((go_at_call 48; exact ext_call (HF.out _))))
        refine wpQuiet_nil ?_
        rintro _ ⟨z, rfl⟩
        have B5 := Lib.hid (B4.out.trans (z.h.mono B4.out.size))
        have hz5 := z.h
        have K5 := Lib.hid (K5.out.ext hz5)
        have KX := Lib.hid (KX.out.ext hz5)
        have KP := Lib.hid (KP.out.ext hz5)
        have PIN := Lib.hid (PIN.out.ext hz5)
        have HP5 := Lib.hid (HP4.out.ext hz5)
        have HB5 : Hid (z.w.heap[gm]? = w4.heap[gm]?) := hz5.block gm hgm
        have hgm5 : gm < z.w.heap.size := Nat.lt_of_lt_of_le hgm hz5.size
        clear q1 RX RV HLE HF B4 hz5 HP4 KV4
        generalize z.w = w5 at *
        have B5 := Lib.hid (B3.out.trans (B5.out.mono B3.out.size))
        go_upto_region 5 with fail
        have D6 := (Below.refl w5.heap.size w5).drew
        have K5 := Lib.hid (K5.out.ext D6)
        have KX := Lib.hid (KX.out.ext D6)
        have KP := Lib.hid (KP.out.ext D6)
        have PIN := Lib.hid (PIN.out.ext D6)
        have B6 := Lib.hid (B5.out.trans (D6.mono B5.out.size))
        have HB6 : Hid (w5.drew.heap[gm]? = w4.heap[gm]?) := HB5.out
        have hgm6 : Hid (gm < w5.drew.heap.size) := hgm5
        have hgl8 : Hid (gr < w5.drew.heap.size) := K5.out.lt
        refine wp_region_held (S := fun w' => Kept (fun k => k = gr) w5.drew w') mixedS ?_
        change wpAnyH _ _ _ _ _ _ _ _ w5.drew
        clear D6 B5 HB5 hgm5
        have B9 : Hid (Kept (fun k => k = gr) w5.drew w5.drew) := Kept.refl _ _
        generalize w5.drew = w8 at *
        have hcC : ∀ args u, (callFunc 44 args).run Tryz.prog u = .ok (.enter 44 args) u := enters_of Tryz.func44 (by kernel_rfl) rfl
        have HC1 : Hid (∀ w', Kept (fun k => k = gr) w8 w' → w'.cell? ⟨g, 1, none⟩ = some (.map (some gm))) := fun w' h => (h.blk KP.out hgg.out).cell 1
        have HRX : Hid (∀ w', Kept (fun k => k = gr) w8 w' → w'.rangeAt gx 0 (encP p.1)) := fun w' h => (h.blk KX.out hgx.out).range
        have HL6 : Hid (∀ w', Kept (fun k => k = gr) w8 w' → (Instr.lookup 79 (.map (some gm)) (.agg (encP p.1).toArray) false).run Tryz.prog w' = .ok (.agg r.toArray) w') := fun w' h => HL.out w' ((h.block gm hgm6.out hgr1.out).trans HB6.out)
        simp only [List.size_toArray, List.length_cons, List.length_nil]
        refine takeV (i := 0) (d := 23) (v := .pointer (some ⟨g, 0, none⟩)) rfl (by kernel_rfl) (by kernel_rfl) (by kernel_rfl) (fun _ _ _ h => h) rfl (fun _ _ => exMove (v := .pointer (some ⟨g, 0, none⟩)) rfl) B9.out ?_
        simp only [Act.put, List.setIfInBounds_toArray, List.set_cons_zero, List.set_cons_succ]
        refine takeV (i := 1) (d := 24) (v := .pointer (some ⟨g, 0, none⟩)) rfl (by kernel_rfl) (by kernel_rfl) (by kernel_rfl) (fun _ _ _ h => h) rfl (fun _ _ => exNil rfl) B9.out ?_
        simp only [Act.put, List.setIfInBounds_toArray, List.set_cons_zero, List.set_cons_succ]
        refine takeV (i := 2) (d := 25) (v := .pointer (some ⟨g, 1, none⟩)) rfl (by kernel_rfl) (by kernel_rfl) (by kernel_rfl) (fun _ _ _ h => h) rfl (fun w' _ => exField rfl (fieldPool1 g w')) B9.out ?_
        simp only [Act.put, List.setIfInBounds_toArray, List.set_cons_zero, List.set_cons_succ]
        refine takeV (i := 3) (d := 26) (v := .map (some gm)) rfl (by kernel_rfl) (by kernel_rfl) (by kernel_rfl) (fun _ _ _ h => h) rfl (fun w' h => exLoad rfl (loadPatMap g 1 w' gm (HC1.out w' h))) B9.out ?_
        simp only [Act.put, List.setIfInBounds_toArray, List.set_cons_zero, List.set_cons_succ]
        refine takeV (i := 4) (d := 27) (v := .agg (encP p.1).toArray) rfl (by kernel_rfl) (by kernel_rfl) (by kernel_rfl) (fun _ _ _ h => h) rfl (fun w' h => exMid rfl (HRX.out w' h) underPid rfl infoPid) B9.out ?_
        simp only [Act.put, List.setIfInBounds_toArray, List.set_cons_zero, List.set_cons_succ]
        refine takeV (i := 5) (d := 28) (v := .agg r.toArray) rfl (by kernel_rfl) (by kernel_rfl) (by kernel_rfl) (fun _ _ _ h => h) rfl (fun w' h => exLook rfl rfl (HL6.out w' h)) B9.out ?_
        simp only [Act.put, List.setIfInBounds_toArray, List.set_cons_zero, List.set_cons_succ]
        refine wpAnyH_all (rs := [6]) (by kernel_rfl) (by simp) ?_
        intro i hi
        simp only [List.mem_cons, List.not_mem_nil, or_false] at hi
        subst hi
        refine wpOp_of rfl rfl (wp_called (args := #[.agg r.toArray]) hcC (by simp only [List.map_toArray, List.map_cons, List.map_nil]; rfl) (copy18_any p w8 _ PIN.out.at_ (by have := GL.out.1; omega) (by have := GL.out.2; omega)) ?_)
        rintro e w9 ⟨A3, c3, A4, c4, rfl, o1, o2, b9⟩
        have PN := Lib.hid (PatIn.of_copy o1 o2 PIN.out.at_.oks PIN.out.len1 PIN.out.len2)
        have K9 := Lib.hid (K5.out.ext b9)
        have B10 := Lib.hid (B9.out.then b9)
        have B11 := Lib.hid (B6.out.trans (b9.mono B6.out.size))
        refine ⟨_, rfl, B10.out, ?_⟩
        simp only [Act.put, List.setIfInBounds_toArray, List.set_cons_zero, List.set_cons_succ]
        clear o1 o2 b9 B9
        refine wpAnyH_all (rs := [7]) (by kernel_rfl) (by simp) ?_
        intro i hi
        simp only [List.mem_cons, List.not_mem_nil, or_false] at hi
        subst hi
        refine wpOp_of rfl rfl (wp_stored (cs := (patC p.1 A3 p.2.1.length c3 A4 p.2.2.length c4).toArray) rfl rfl K9.out infoPat rfl patC_one ?_)
        refine ⟨Kept.setRow B10.out (.inl rfl) _, ?_⟩
        have KR := Lib.hid (K9.out.row (patC p.1 A3 p.2.1.length c3 A4 p.2.2.length c4).toArray)
        have BE := Lib.hid (below_setRow B11.out hgr.out (patC p.1 A3 p.2.1.length c3 A4 p.2.2.length c4).toArray)
        have PN : Hid (PatIn (w9.setRow gr (patC p.1 A3 p.2.1.length c3 A4 p.2.2.length c4).toArray) (fun k => w.heap.size ≤ k ∧ k < (w9.setRow gr (patC p.1 A3 p.2.1.length c3 A4 p.2.2.length c4).toArray).heap.size) _ p) := (PN.out.stay ⟨by simp, fun k _ hg => setRow_other _ _ _ _ (by have := hg.1; have := hgl8.out; omega)⟩).mono fun k e => ⟨Nat.le_trans B6.out.size e.1, by simpa using e.2⟩
        have B12 := Lib.hid (Kept.setRow (F := fun k => k = gr) B10.out (.inl rfl) (patC p.1 A3 p.2.1.length c3 A4 p.2.2.length c4).toArray)
        clear B10 B11
        generalize (w9.setRow gr (patC p.1 A3 p.2.1.length c3 A4 p.2.2.length c4).toArray) = w10 at *
        refine takeV (i := 8) (d := 5) (v := .bool true) rfl (by kernel_rfl) (by kernel_rfl) (by kernel_rfl) (fun _ _ _ h => h) rfl (fun _ _ => exAssign (v := .bool true) rfl) B12.out ?_
        simp only [Act.put, List.setIfInBounds_toArray, List.set_cons_zero, List.set_cons_succ]
        refine wpAnyH_done (by kernel_rfl) ?_ _
        go_wp2_with fail
        refine bodyPost_ret (results_row_tmp rfl _ _ gr _ (patC p.1 A3 p.2.1.length c3 A4 p.2.2.length c4).toArray _ rfl KR.out underPat rfl infoPat) rfl ?_
        refine ⟨_, by rw [N.out]; rfl, ?_, BE.out⟩
        rw [N.out]
        exact PN.out
    · have hlk : ¬ ((k : Int) < (L.length : Int)) := by omega
      rw [List.take_of_length_le (by omega)] at T
      have N := Lib.hid (readyL_none T.out)
      have B5 := Lib.hid (B3.out.trans (B.out.mono B3.out.size))
      clear T
      go_wp2_with (first
        | (refine wpList_built (buildPatZ _) (by rfl) ?_)
        | (refine wpList_store_row rfl 37 _ _ (by rfl) gr #[.int .u8 0, .int .u16 0, .slice none 0 0, .slice none 0 0] (by rfl) (by rfl) _ _ K4.out infoPat rfl zeroC_one ?_))
      refine bodyPost_ret (results_row_tmp rfl _ _ gr _ #[.int .u8 0, .int .u16 0, .slice none 0 0, .slice none 0 0] _ rfl (K4.out.row _) underPat rfl infoPat) rfl ?_
      refine ⟨zeroCs, by rw [N.out]; rfl, ?_, below_setRow B5.out hgr.out _⟩
      rw [N.out]
      exact zeroCells_in _ _
end Go.Proofs.YtnhbbggpgieipaaGreat
