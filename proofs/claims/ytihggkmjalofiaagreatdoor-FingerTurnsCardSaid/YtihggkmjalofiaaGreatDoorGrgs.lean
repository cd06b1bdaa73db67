/- Texts of general use, one behind another. -/
import Derived.Test.YtihggkmjalofiaaGreatDoorGre
import Derived.Test.YtihggkmjalofiaaGreatDoorPats
import Derived.Test.YtihggkmjalofiaaGreatDoorLists
import Derived.Test.YtihggkmjalofiaaGreatDoorIdxw

/- A graph: a vertex of the graph, or of a patch itself; whether what an operation names is there: walked. -/
namespace Go.Proofs.YtihggkmjalofiaaGreatDoor
open Go.RowKit
open Go.ChangeMaps (setBlock)

def lookX (L : List PatV) (p : PatV) (v : VidV) : VertV × Bool :=
  if v.1 = p.1 then (match p.2.2[v.2.val]? with | some o => if makesO o = true then (madeX p v.2.val o, true) else (zeroVert, false) | none => (zeroVert, false))
  else (vertD L v, (vertV L v).isSome)
theorem lookX_raw {L : List PatV} {p : PatV} (hn : ∀ q ∈ L, q.1 ≠ p.1) (v : VidV) :
    (rawV (L ++ [p]) v = none ∧ (lookX L p v).2 = false) ∨ ∃ r, rawV (L ++ [p]) v = some r ∧ (lookX L p v).2 = true ∧ (lookX L p v).1.2.1 = r.1 ∧ (lookX L p v).1.2.2.1 = r.2.1 := by
  unfold lookX
  rw [rawV_snoc]
  by_cases h : v.1 = p.1
  · rw [if_pos h, rawV_none (fun q hq e => hn q hq (e.trans h))]
    unfold rawP
    rw [if_pos h.symm]
    cases ho : p.2.2[v.2.val]? with
    | none => exact .inl ⟨rfl, rfl⟩
    | some o =>
      simp only
      by_cases hm : makesO o = true
      · rw [if_pos hm, if_pos hm]
        refine .inr ⟨_, rfl, rfl, rfl, ?_⟩
        unfold madeX rawO
        simp only
        rw [vidOf_at h]
      · rw [if_neg hm, if_neg hm]
        exact .inl ⟨rfl, rfl⟩
  · rw [if_neg h]
    have hp : rawP p v = none := by unfold rawP; rw [if_neg (fun e => h e.symm)]
    rw [hp]
    cases hr : rawV L v with
    | none => left; unfold vertV; rw [hr]; exact ⟨rfl, rfl⟩
    | some r =>
      right
      refine ⟨r, rfl, ?_⟩
      unfold vertD vertV
      rw [hr]
      exact ⟨rfl, rfl, rfl⟩
theorem lookX_far {L : List PatV} {p : PatV} {v : VidV} (h : v.1 ≠ p.1) : lookX L p v = (vertD L v, (vertV L v).isSome) := by unfold lookX; rw [if_neg h]
theorem lookX_own {L : List PatV} {p : PatV} {v : VidV} (h : v.1 = p.1) {o : OpV} (ho : p.2.2[v.2.val]? = some o) (hm : makesO o = true) : lookX L p v = (madeX p v.2.val o, true) := by unfold lookX; rw [if_pos h, ho]; simp only; rw [if_pos hm]
theorem lookX_not {L : List PatV} {p : PatV} {v : VidV} (h : v.1 = p.1) {o : OpV} (ho : p.2.2[v.2.val]? = some o) (hm : makesO o = false) : lookX L p v = (zeroVert, false) := by unfold lookX; rw [if_pos h, ho]; simp only; rw [if_neg (by rw [hm]; decide)]
theorem lookX_out {L : List PatV} {p : PatV} {v : VidV} (h : v.1 = p.1) (ho : p.2.2.length ≤ v.2.val) : lookX L p v = (zeroVert, false) := by unfold lookX; rw [if_pos h, List.getElem?_eq_none ho]
theorem buildX0 (w : World) : (Instr.build 134 #[]).run Tryz.prog w = .ok (.agg (encX zeroVert).toArray) w := by kernel_rfl
set_option maxRecDepth 100000 in
set_option maxHeartbeats 4000000 in
theorem look20_any {w : World} {F : Nat → Prop} {g : Nat} {L : List PatV} (hP : GraphM w F g L) (p : PatV) (cs : List Value) (hp : PatAt w cs p) (v : VidV) :
    Calls Tryz.prog 228 #[.pointer (some ⟨g, 0, none⟩), .agg cs.toArray, .agg (encV v).toArray] w (RetVert w (lookX L p v).1 (lookX L p v).2) := by
  obtain ⟨⟨A, c, A', c', rfl, P1, O1⟩, m1, m2⟩ := hp
  have hp := Lib.hid (show PatAt w _ p from ⟨⟨A, c, A', c', rfl, P1, O1⟩, m1, m2⟩)
  unfold maxLen at m2
  obtain ⟨PC, hPC⟩ : ∃ PC, PC = (patC p.1 A p.2.1.length c A' p.2.2.length c').toArray := ⟨_, rfl⟩
  rw [← hPC]
  have K0 : Hid (Blk (((w.alloc (.cells PC 31)).alloc (.cells (encV v).toArray 120)).alloc (.cells zeroX 134)) w.heap.size 31 (patC p.1 A p.2.1.length c A' p.2.2.length c').toArray) := by rw [← hPC]; exact ((Blk.new _ _ _).alloc _).alloc _
  have KV : Hid (Blk (((w.alloc (.cells PC 31)).alloc (.cells (encV v).toArray 120)).alloc (.cells zeroX 134)) (w.heap.size + 1) 120 (encV v).toArray) := (Blk.newAt (by simp) _ _).alloc _
  have KR : Hid (Blk (((w.alloc (.cells PC 31)).alloc (.cells (encV v).toArray 120)).alloc (.cells zeroX 134)) (w.heap.size + 1 + 1) 134 zeroX) := Blk.newAt (by simp) _ _
  have B0 : Hid (Below w.heap.size w (((w.alloc (.cells PC 31)).alloc (.cells (encV v).toArray 120)).alloc (.cells zeroX 134))) := (((Below.refl _ _).alloc (Nat.le_refl _) _).alloc (by simp) _).alloc (by simp; omega) _
  have hgr : Hid (w.heap.size ≤ w.heap.size + 1 + 1) := by rw [Hid]; omega
  have HP := Lib.hid (hP.ext B0.out)
  have OP := Lib.hid (O1.ext B0.out)
  have HPA := Lib.hid (hp.out.ext B0.out)
  clear O1 hP P1 hp
  replace hPC := Lib.hid hPC
  go_enter Tryz.func228, Tryz.ntmps228
  go_upto_region 1 with (refine wpList_alloced (allocVert _) ?_)
  generalize (((w.alloc (.cells PC 31)).alloc (.cells (encV v).toArray 120)).alloc (.cells zeroX 134)) = w1 at *
  generalize w.heap.size + 1 + 1 = gr at *
  generalize w.heap.size + 1 = gv at *
  obtain ⟨g0, hg0⟩ : ∃ g0, g0 = w.heap.size := ⟨_, rfl⟩
  rw [← hg0] at K0 ⊢
  replace hg0 := Lib.hid hg0
  have RP := Lib.hid (patC_pid K0.out)
  have RV := Lib.hid (blk_pat KV.out)
  have RVp : Hid (w1.rangeAt gv 0 (encP v.1)) := fun j u hj =>
    match j, hj with
    | 0, hj => RV.out 0 u hj
    | 1, hj => RV.out 1 u hj
    | j + 2, hj => by simp [encP] at hj
  have y3 : w1.cell? ⟨g0, 3, none⟩ = some (.slice A' p.2.2.length c') := K0.out.cell 3
  have yn : w1.cell? ⟨gv, 2, none⟩ = some (.int .u8 ((v.2.val : Nat) : Int)) := KV.out.cell 2
  have NEQ := fun u => neqP v.1 p.1 u
  by_cases hv : v.1 = p.1
  · have NEQ' : ∀ u : World, (binOp .neq 27 (.agg (encP v.1).toArray) (.agg (encP p.1).toArray)).run Tryz.prog u = .ok (.bool false) u := fun u => by have := NEQ u; rw [decide_eq_true hv] at this; exact this
    clear NEQ
    obtain ⟨n, hn⟩ : ∃ n, n = v.2.val := ⟨_, rfl⟩
    have hn256 : n < 256 := by rw [hn]; exact v.2.isLt
    rw [← hn] at yn
    have hn0 : (0 : Int) ≤ (n : Int) := by omega
    have hnw : IntKind.i64.wrap (n : Int) = (n : Int) := by rw [IntKind.wrap_i64]; omega
    by_cases hlt : n < p.2.2.length
    · have hlk : (n : Int) < (p.2.2.length : Int) := by omega
      have hle : ¬ ((p.2.2.length : Int) ≤ (n : Int)) := by omega
      obtain ⟨b, oo, o, rfl, hb, hx, R, _⟩ := OP.out.at_ hlt
      have R := Lib.hid R
      have t0 : w1.cell? ⟨b, oo + n * 8, none⟩ = some (.int .u8 ((o.1.val : Nat) : Int)) := R.out 0 _ rfl
      have HM := Lib.hid (makes_any ((o.1.val : Nat) : Int) w1 ⟨by omega, by have := o.1.isLt; omega⟩)
      rw [makesO_eq] at HM
      rw [hn] at hx
      cases hm : makesO o
      · rw [hm] at HM
        have E := Lib.hid (lookX_not (L := L) hv hx hm)
        replace hv := Lib.hid hv
        replace hn := Lib.hid hn
        clear hx hm R
        go_upto_region 3 with (first
          | (refine wpList_load_mid rfl 27 _ (by rfl) gv 0 (by rfl) _ _ RVp.out underPid rfl infoPid ?_)
          | (refine wpList_load_mid rfl 27 _ (by rfl) g0 0 (by rfl) _ _ RP.out underPid rfl infoPid ?_))
        go_wp2_with fail
        refine HM.out.mono ?_
        rintro e w2 ⟨rfl, rfl⟩
        go_wp2_with (first
          | (refine wpList_built (buildX0 _) (by rfl) ?_)
          | (refine wpList_store_row rfl 134 _ _ (by rfl) gr (encX zeroVert).toArray (by rfl) (by rfl) _ _ KR.out infoVert rfl (encX_all _) ?_))
        refine bodyPost_ret (results_row_tmp rfl _ _ gr _ (encX zeroVert).toArray _ rfl (KR.out.row _) underVert rfl infoVert) rfl ?_
        rw [E.out]
        exact ⟨rfl, below_setRow B0.out hgr.out _⟩
      · rw [hm] at HM
        have E := Lib.hid (lookX_own (L := L) hv hx hm)
        rw [← hn] at hx E
        have HMD := Lib.hid (made20_any p n o hx w1 _ HPA.out)
        replace hv := Lib.hid hv
        replace hn := Lib.hid hn
        clear hx hm R
        go_upto_region 3 with (first
          | (refine wpList_load_mid rfl 27 _ (by rfl) gv 0 (by rfl) _ _ RVp.out underPid rfl infoPid ?_)
          | (refine wpList_load_mid rfl 27 _ (by rfl) g0 0 (by rfl) _ _ RP.out underPid rfl infoPid ?_))
        go_wp2_with fail
        refine HM.out.mono ?_
        rintro e w2 ⟨rfl, rfl⟩
        go_wp2_with (first
          | (refine wpList_load_row rfl 31 _ (by rfl) g0 (by rfl) _ _ _ _ K0.out underPat rfl infoPat ?_))
        refine HMD.out.mono ?_
        rintro e w3 ⟨rfl, b3⟩
        have KR3 := Lib.hid (KR.out.ext b3)
        have B3 := Lib.hid (B0.out.trans (b3.mono B0.out.size))
        clear b3 K0 KV KR B0 HP OP HPA RP RV RVp y3 yn t0 HM HMD
        go_wp2_with (refine wpList_store_row rfl 134 _ _ (by rfl) gr (encX (madeX p n o)).toArray (by rfl) (by rfl) _ _ KR3.out infoVert rfl (encX_all _) ?_)
        refine bodyPost_ret (results_row_tmp rfl _ _ gr _ (encX (madeX p n o)).toArray _ rfl (KR3.out.row _) underVert rfl infoVert) rfl ?_
        rw [E.out]
        exact ⟨rfl, below_setRow B3.out hgr.out _⟩
    · have hle : (p.2.2.length : Int) ≤ (n : Int) := by omega
      have E := Lib.hid (lookX_out (L := L) hv (by omega))
      replace hv := Lib.hid hv
      replace hn := Lib.hid hn
      go_upto_region 3 with (first
        | (refine wpList_load_mid rfl 27 _ (by rfl) gv 0 (by rfl) _ _ RVp.out underPid rfl infoPid ?_)
        | (refine wpList_load_mid rfl 27 _ (by rfl) g0 0 (by rfl) _ _ RP.out underPid rfl infoPid ?_))
      go_upto_region 4 with fail
      go_wp2_with (first
        | (refine wpList_built (buildX0 _) (by rfl) ?_)
        | (refine wpList_store_row rfl 134 _ _ (by rfl) gr (encX zeroVert).toArray (by rfl) (by rfl) _ _ KR.out infoVert rfl (encX_all _) ?_))
      refine bodyPost_ret (results_row_tmp rfl _ _ gr _ (encX zeroVert).toArray _ rfl (KR.out.row _) underVert rfl infoVert) rfl ?_
      rw [E.out]
      exact ⟨rfl, below_setRow B0.out hgr.out _⟩
  · have NEQ' : ∀ u : World, (binOp .neq 27 (.agg (encP v.1).toArray) (.agg (encP p.1).toArray)).run Tryz.prog u = .ok (.bool true) u := fun u => by have := NEQ u; rw [decide_eq_false hv] at this; exact this
    have E := Lib.hid (lookX_far (L := L) hv)
    replace hv := Lib.hid hv
    have HV := Lib.hid (vert20_any HP.out v)
    clear NEQ
    go_wp2_with (first
      | (refine wpList_load_mid rfl 27 _ (by rfl) gv 0 (by rfl) _ _ RVp.out underPid rfl infoPid ?_)
      | (refine wpList_load_mid rfl 27 _ (by rfl) g0 0 (by rfl) _ _ RP.out underPid rfl infoPid ?_)
      | (refine wpList_load_row rfl 120 _ (by rfl) gv (by rfl) _ _ _ _ KV.out underVid rfl infoVid ?_))
    refine HV.out.mono ?_
    rintro e w3 ⟨rfl, b3⟩
    have KR3 := Lib.hid (KR.out.ext b3)
    have B3 := Lib.hid (B0.out.trans (b3.mono B0.out.size))
    clear b3 K0 KV KR B0 HP OP HPA RP RV RVp y3 yn HV
    generalize vertD L v = x at *
    generalize (vertV L v).isSome = ok at *
    go_wp2_with (refine wpList_store_row rfl 134 _ _ (by rfl) gr (encX x).toArray (by rfl) (by rfl) _ _ KR3.out infoVert rfl (encX_all _) ?_)
    refine bodyPost_ret (results_row_tmp rfl _ _ gr _ (encX x).toArray _ rfl (KR3.out.row _) underVert rfl infoVert) rfl ?_
    rw [E.out]
    exact ⟨rfl, below_setRow B3.out hgr.out _⟩
end Go.Proofs.YtihggkmjalofiaaGreatDoor

/- A graph: whether what an operation names is there, and of the kinds that it takes: walked. -/
namespace Go.Proofs.YtihggkmjalofiaaGreatDoor
open Go.RowKit

theorem kindIs_of {f : VidV → Option RawV} {v : VidV} {r : RawV} (h : f v = some r) (k : Nat) : kindIs f v k = decide (r.1.val = k) := by unfold kindIs; rw [h]
theorem kindIs_none {f : VidV → Option RawV} {v : VidV} (h : f v = none) (k : Nat) : kindIs f v k = false := by unfold kindIs; rw [h]
theorem refB_23 {f : VidV → Option RawV} {o : OpV} (h : o.1.val = 2 ∨ o.1.val = 3) : refB f o = kindIs f o.2.1 1 := by unfold refB; rw [if_pos h]
theorem refB_5 {f : VidV → Option RawV} {o : OpV} (h : o.1.val = 5) : refB f o = (f o.2.1).isSome := by unfold refB; rw [if_neg (by omega), if_pos h]
theorem refB_4 {f : VidV → Option RawV} {o : OpV} (h : o.1.val = 4) : refB f o = (kindIs f o.2.1 3 && (kindIs f o.2.2.1 3 && decide (fileF f o.2.1 = fileF f o.2.2.1))) := by unfold refB; rw [if_neg (by omega), if_neg (by omega), if_pos h]
theorem refB_1 {f : VidV → Option RawV} {o : OpV} (h : ¬ (o.1.val = 2 ∨ o.1.val = 3 ∨ o.1.val = 4 ∨ o.1.val = 5)) : refB f o = true := by unfold refB; rw [if_neg (by omega), if_neg (by omega), if_neg (by omega)]
set_option maxRecDepth 100000 in
set_option maxHeartbeats 8000000 in
theorem refs20_any {w : World} {F : Nat → Prop} {g : Nat} {L : List PatV} (hP : GraphM w F g L) (p : PatV) (hn : ∀ q ∈ L, q.1 ≠ p.1) (cs : List Value) (hp : PatAt w cs p) (o : OpV) :
    Calls Tryz.prog 145 #[.pointer (some ⟨g, 0, none⟩), .agg cs.toArray, .agg (encO o).toArray] w (RetB w (.bool (refB (rawV (L ++ [p])) o))) := by
  have hp0 := Lib.hid hp
  obtain ⟨⟨A, c, A', c', rfl, _, _⟩, _, _⟩ := hp
  obtain ⟨PC, hPC⟩ : ∃ PC, PC = (patC p.1 A p.2.1.length c A' p.2.2.length c').toArray := ⟨_, rfl⟩
  have HPA0 : Hid (∀ w', Below w.heap.size w w' → PatAt w' (patC p.1 A p.2.1.length c A' p.2.2.length c') p) := fun w' h => hp0.out.ext h
  have hPs : Hid (PC.size = 4) := by rw [hPC]; rfl
  have HLK : Hid (∀ (w' : World) (v : VidV), Below w.heap.size w w' → Calls Tryz.prog 228 #[.pointer (some ⟨g, 0, none⟩), .agg PC, .agg (encV v).toArray] w' (RetVert w' (lookX L p v).1 (lookX L p v).2)) := fun w' v h => by
    rw [hPC]; exact look20_any (hP.ext h) p _ (hp0.out.ext h) v
  rw [← hPC]
  have K4 : Hid (Blk ((w.alloc (.cells PC 31)).alloc (.cells (encO o).toArray 122)) w.heap.size 31 PC) := (Blk.new _ _ _).alloc _
  have K5 : Hid (Blk ((w.alloc (.cells PC 31)).alloc (.cells (encO o).toArray 122)) (w.heap.size + 1) 122 (encO o).toArray) := Blk.newAt (by simp) _ _
  have B0 : Hid (Below w.heap.size w ((w.alloc (.cells PC 31)).alloc (.cells (encO o).toArray 122))) := ((Below.refl _ _).alloc (Nat.le_refl _) _).alloc (by simp) _
  clear hPC hp0 HPA0 hP
  go_enter Tryz.func145, Tryz.ntmps145
  go_upto_region 1 with fail
  generalize ((w.alloc (.cells PC 31)).alloc (.cells (encO o).toArray 122)) = w1 at *
  generalize w.heap.size + 1 = g5 at *
  obtain ⟨g4, hg4⟩ : ∃ g4, g4 = w.heap.size := ⟨_, rfl⟩
  rw [← hg4] at K4 ⊢
  replace hg4 := Lib.hid hg4
  have RA := Lib.hid (opv_at (blk_pat K5.out))
  rw [Nat.zero_add] at RA
  have hX := lookX_raw hn o.2.1
  have HX := Lib.hid (HLK.out w1 o.2.1 B0.out)
  generalize hx : (lookX L p o.2.1).1 = x at hX HX
  generalize hok : (lookX L p o.2.1).2 = ok at hX HX
  clear hx hok
  go_wp2_with (first
    | (refine wpList_load_row rfl 31 _ (by rfl) g4 (by rfl) _ _ _ _ K4.out underPat rfl (by rw [hPs.out]; exact infoPat) ?_)
    | (refine wpList_load_mid rfl 120 _ (by rfl) g5 1 (by rfl) _ _ RA.out underVid rfl infoVid ?_))
  refine HX.out.mono ?_
  rintro e w2 ⟨rfl, b2⟩
  have KZ : Hid (Blk (w2.alloc (.cells zeroX 134)) w2.heap.size 134 zeroX) := Blk.new _ _ _
  have K7 : Hid (Blk ((w2.alloc (.cells zeroX 134)).setRow w2.heap.size (encX x).toArray) w2.heap.size 134 (encX x).toArray) := KZ.out.row _
  have BN : Hid (Below w2.heap.size w2 ((w2.alloc (.cells zeroX 134)).setRow w2.heap.size (encX x).toArray)) := below_setRow (below_new w2 _) (Nat.le_refl _) _
  have B2 := Lib.hid (B0.out.trans (b2.mono B0.out.size))
  have B3 := Lib.hid (B2.out.trans (BN.out.mono B2.out.size))
  have K4 := Lib.hid ((K4.out.ext b2).ext BN.out)
  have K5 := Lib.hid ((K5.out.ext b2).ext BN.out)
  clear RA HX B0 b2 B2
  go_upto_region 2 with (first
    | (refine wpList_alloced (allocVert _) ?_)
    | (refine wpList_store_row rfl 134 _ _ (by rfl) w2.heap.size (encX x).toArray (by rfl) (by rfl) _ _ KZ.out infoVert rfl (encX_all _) ?_))
  generalize ((w2.alloc (.cells zeroX 134)).setRow w2.heap.size (encX x).toArray) = w3 at *
  generalize w2.heap.size = g7 at *
  clear KZ BN
  have yk : w3.cell? ⟨g5, 0, none⟩ = some (.int .u8 ((o.1.val : Nat) : Int)) := K5.out.cell 0
  have xk : w3.cell? ⟨g7, 3, none⟩ = some (.int .u8 ((x.2.1.val : Nat) : Int)) := K7.out.cell 3
  by_cases c23 : o.1.val = 2 ∨ o.1.val = 3
  · have E := Lib.hid (refB_23 (f := rawV (L ++ [p])) c23)
    rcases c23 with c2 | c3
    · have za2 : (((o.1.val : Nat) : Int) == 2) = true := by rw [beq_iff_eq]; omega
      have za3 : (((o.1.val : Nat) : Int) == 3) = false := by rw [beq_eq_false_iff_ne]; omega
      have za4 : (((o.1.val : Nat) : Int) == 4) = false := by rw [beq_eq_false_iff_ne]; omega
      have za5 : (((o.1.val : Nat) : Int) == 5) = false := by rw [beq_eq_false_iff_ne]; omega
      replace c2 := Lib.hid c2
      rcases hX with ⟨hr, rfl⟩ | ⟨r, hr, rfl, hk, _⟩
      · have E2 := Lib.hid (E.out.trans (kindIs_none hr 1))
        clear hr
        go_wp2
        go_ret
        exact ⟨ret_bool E2.out.symm, B3.out⟩
      · have E2 := Lib.hid (E.out.trans (kindIs_of hr 1))
        rw [← hk] at E2
        clear hr hk
        by_cases h1 : x.2.1.val = 1
        · rw [decide_eq_true h1] at E2
          have q1 : (((x.2.1.val : Nat) : Int) == 1) = true := by rw [beq_iff_eq]; omega
          replace h1 := Lib.hid h1
          go_wp2
          go_ret
          exact ⟨ret_bool E2.out.symm, B3.out⟩
        · rw [decide_eq_false h1] at E2
          have q1 : (((x.2.1.val : Nat) : Int) == 1) = false := by rw [beq_eq_false_iff_ne]; omega
          replace h1 := Lib.hid h1
          go_wp2
          go_ret
          exact ⟨ret_bool E2.out.symm, B3.out⟩
    · have za2 : (((o.1.val : Nat) : Int) == 2) = false := by rw [beq_eq_false_iff_ne]; omega
      have za3 : (((o.1.val : Nat) : Int) == 3) = true := by rw [beq_iff_eq]; omega
      have za4 : (((o.1.val : Nat) : Int) == 4) = false := by rw [beq_eq_false_iff_ne]; omega
      have za5 : (((o.1.val : Nat) : Int) == 5) = false := by rw [beq_eq_false_iff_ne]; omega
      replace c3 := Lib.hid c3
      rcases hX with ⟨hr, rfl⟩ | ⟨r, hr, rfl, hk, _⟩
      · have E2 := Lib.hid (E.out.trans (kindIs_none hr 1))
        clear hr
        go_wp2
        go_ret
        exact ⟨ret_bool E2.out.symm, B3.out⟩
      · have E2 := Lib.hid (E.out.trans (kindIs_of hr 1))
        rw [← hk] at E2
        clear hr hk
        by_cases h1 : x.2.1.val = 1
        · rw [decide_eq_true h1] at E2
          have q1 : (((x.2.1.val : Nat) : Int) == 1) = true := by rw [beq_iff_eq]; omega
          replace h1 := Lib.hid h1
          go_wp2
          go_ret
          exact ⟨ret_bool E2.out.symm, B3.out⟩
        · rw [decide_eq_false h1] at E2
          have q1 : (((x.2.1.val : Nat) : Int) == 1) = false := by rw [beq_eq_false_iff_ne]; omega
          replace h1 := Lib.hid h1
          go_wp2
          go_ret
          exact ⟨ret_bool E2.out.symm, B3.out⟩
  · by_cases c5 : o.1.val = 5
    · have E := Lib.hid (refB_5 (f := rawV (L ++ [p])) c5)
      have za2 : (((o.1.val : Nat) : Int) == 2) = false := by rw [beq_eq_false_iff_ne]; omega
      have za3 : (((o.1.val : Nat) : Int) == 3) = false := by rw [beq_eq_false_iff_ne]; omega
      have za4 : (((o.1.val : Nat) : Int) == 4) = false := by rw [beq_eq_false_iff_ne]; omega
      have za5 : (((o.1.val : Nat) : Int) == 5) = true := by rw [beq_iff_eq]; omega
      replace c5 := Lib.hid c5
      rcases hX with ⟨hr, rfl⟩ | ⟨r, hr, rfl, hk, _⟩
      · have E2 : Hid (refB (rawV (L ++ [p])) o = false) := by rw [Hid, E.out, hr]; rfl
        clear hr
        go_wp2
        go_ret
        exact ⟨ret_bool E2.out.symm, B3.out⟩
      · have E2 : Hid (refB (rawV (L ++ [p])) o = true) := by rw [Hid, E.out, hr]; rfl
        clear hr hk
        go_wp2
        go_ret
        exact ⟨ret_bool E2.out.symm, B3.out⟩
    · by_cases c4 : o.1.val = 4
      · have E := Lib.hid (refB_4 (f := rawV (L ++ [p])) c4)
        have za2 : (((o.1.val : Nat) : Int) == 2) = false := by rw [beq_eq_false_iff_ne]; omega
        have za3 : (((o.1.val : Nat) : Int) == 3) = false := by rw [beq_eq_false_iff_ne]; omega
        have za4 : (((o.1.val : Nat) : Int) == 4) = true := by rw [beq_iff_eq]; omega
        have za5 : (((o.1.val : Nat) : Int) == 5) = false := by rw [beq_eq_false_iff_ne]; omega
        replace c4 := Lib.hid c4
        have RT := Lib.hid (opv_to (blk_pat K5.out))
        rw [Nat.zero_add] at RT
        have hY := lookX_raw hn o.2.2.1
        have HY := Lib.hid (HLK.out w3 o.2.2.1 B3.out)
        generalize hy : (lookX L p o.2.2.1).1 = y at hY HY
        generalize hok : (lookX L p o.2.2.1).2 = is at hY HY
        clear hy hok
        go_wp2_with (first
          | (refine wpList_load_row rfl 31 _ (by rfl) g4 (by rfl) _ _ _ _ K4.out underPat rfl (by rw [hPs.out]; exact infoPat) ?_)
          | (refine wpList_load_mid rfl 120 _ (by rfl) g5 4 (by rfl) _ _ RT.out underVid rfl infoVid ?_))
        refine HY.out.mono ?_
        rintro e w4 ⟨rfl, b4⟩
        have KZ : Hid (Blk (w4.alloc (.cells zeroX 134)) w4.heap.size 134 zeroX) := Blk.new _ _ _
        have K9 : Hid (Blk ((w4.alloc (.cells zeroX 134)).setRow w4.heap.size (encX y).toArray) w4.heap.size 134 (encX y).toArray) := KZ.out.row _
        have BN : Hid (Below w4.heap.size w4 ((w4.alloc (.cells zeroX 134)).setRow w4.heap.size (encX y).toArray)) := below_setRow (below_new w4 _) (Nat.le_refl _) _
        have B4 := Lib.hid (B3.out.trans (b4.mono B3.out.size))
        have B5 := Lib.hid (B4.out.trans (BN.out.mono B4.out.size))
        have K7 := Lib.hid ((K7.out.ext b4).ext BN.out)
        clear RT HY B3 b4 B4 yk xk K4 K5 HLK
        go_upto_region 10 with (first
          | (refine wpList_alloced (allocVert _) ?_)
          | (refine wpList_store_row rfl 134 _ _ (by rfl) w4.heap.size (encX y).toArray (by rfl) (by rfl) _ _ KZ.out infoVert rfl (encX_all _) ?_))
        generalize ((w4.alloc (.cells zeroX 134)).setRow w4.heap.size (encX y).toArray) = w5 at *
        generalize w4.heap.size = g9 at *
        clear KZ BN
        have xk : w5.cell? ⟨g7, 3, none⟩ = some (.int .u8 ((x.2.1.val : Nat) : Int)) := K7.out.cell 3
        have yk : w5.cell? ⟨g9, 3, none⟩ = some (.int .u8 ((y.2.1.val : Nat) : Int)) := K9.out.cell 3
        have RX := Lib.hid (vx_file (blk_pat K7.out))
        have RY := Lib.hid (vx_file (blk_pat K9.out))
        rw [Nat.zero_add] at RX RY
        rcases hX with ⟨hr, rfl⟩ | ⟨r, hr, rfl, hk, hf⟩
        · have E2 : Hid (refB (rawV (L ++ [p])) o = false) := by rw [Hid, E.out, kindIs_none hr]; rfl
          clear hr hY
          go_wp2
          go_ret
          exact ⟨ret_bool E2.out.symm, B5.out⟩
        · rcases hY with ⟨hs, rfl⟩ | ⟨s, hs, rfl, hk2, hf2⟩
          · have E2 : Hid (refB (rawV (L ++ [p])) o = false) := by rw [Hid, E.out, kindIs_none hs, Bool.false_and, Bool.and_false]
            clear hr hs hk hf
            go_wp2
            go_ret
            exact ⟨ret_bool E2.out.symm, B5.out⟩
          · have E2 : Hid (refB (rawV (L ++ [p])) o = (decide (x.2.1.val = 3) && (decide (y.2.1.val = 3) && decide (x.2.2.1 = y.2.2.1)))) := by rw [Hid, E.out, kindIs_of hr, kindIs_of hs, fileF_of hr, fileF_of hs, hk, hk2, hf, hf2]
            clear hr hs hk hf hk2 hf2
            by_cases h1 : x.2.1.val = 3
            · have q1 : (((x.2.1.val : Nat) : Int) == 3) = true := by rw [beq_iff_eq]; omega
              rw [decide_eq_true h1, Bool.true_and] at E2
              replace h1 := Lib.hid h1
              by_cases h2 : y.2.1.val = 3
              · have q2 : (((y.2.1.val : Nat) : Int) == 3) = true := by rw [beq_iff_eq]; omega
                rw [decide_eq_true h2, Bool.true_and] at E2
                replace h2 := Lib.hid h2
                have EQ := fun u => eqlV x.2.2.1 y.2.2.1 u
                go_wp2_with (first
                  | (refine wpList_load_midG (by kernel_rfl) 120 _ (by rfl) g7 4 (by rfl) _ _ RX.out underVid rfl infoVid ?_)
                  | (refine wpList_load_midG (by kernel_rfl) 120 _ (by rfl) g9 4 (by rfl) _ _ RY.out underVid rfl infoVid ?_))
                go_ret
                exact ⟨ret_bool E2.out.symm, B5.out⟩
              · have q2 : (((y.2.1.val : Nat) : Int) == 3) = false := by rw [beq_eq_false_iff_ne]; omega
                rw [decide_eq_false h2, Bool.false_and] at E2
                replace h2 := Lib.hid h2
                go_wp2
                go_ret
                exact ⟨ret_bool E2.out.symm, B5.out⟩
            · have q1 : (((x.2.1.val : Nat) : Int) == 3) = false := by rw [beq_eq_false_iff_ne]; omega
              rw [decide_eq_false h1, Bool.false_and] at E2
              replace h1 := Lib.hid h1
              go_wp2
              go_ret
              exact ⟨ret_bool E2.out.symm, B5.out⟩
      · have E := Lib.hid (refB_1 (f := rawV (L ++ [p])) (o := o) (by omega))
        have za2 : (((o.1.val : Nat) : Int) == 2) = false := by rw [beq_eq_false_iff_ne]; omega
        have za3 : (((o.1.val : Nat) : Int) == 3) = false := by rw [beq_eq_false_iff_ne]; omega
        have za4 : (((o.1.val : Nat) : Int) == 4) = false := by rw [beq_eq_false_iff_ne]; omega
        have za5 : (((o.1.val : Nat) : Int) == 5) = false := by rw [beq_eq_false_iff_ne]; omega
        go_wp2
        go_ret
        exact ⟨ret_bool E.out.symm, B3.out⟩
end Go.Proofs.YtihggkmjalofiaaGreatDoor

/- A graph: whether a patch can be applied: walked. -/
namespace Go.Proofs.YtihggkmjalofiaaGreatDoor
open Go.RowKit

theorem grE_1 {L : List PatV} {p : PatV} (h : patB p = false) : grE L p = 1 := by unfold grE; rw [h]; rfl
theorem grE_7 {L : List PatV} {p : PatV} (h : patB p = true) (e : hasP (vecL L) p.1 = true) : grE L p = 7 := by unfold grE; rw [if_pos h, if_pos e]
theorem grE_9 {L : List PatV} {p : PatV} (h : patB p = true) (e : hasP (vecL L) p.1 = false) (f : nextB (vecL L) p.1 = false) : grE L p = 9 := by unfold grE; rw [if_pos h, e, f]; rfl
theorem grE_9d {L : List PatV} {p : PatV} (h : patB p = true) (e : hasP (vecL L) p.1 = false) (f : nextB (vecL L) p.1 = true) (d : p.2.1.all (hasP (vecL L)) = false) : grE L p = 9 := by unfold grE; rw [if_pos h, e, f, d]; rfl
theorem grE_10 {L : List PatV} {p : PatV} (h : patB p = true) (e : hasP (vecL L) p.1 = false) (f : nextB (vecL L) p.1 = true) (d : p.2.1.all (hasP (vecL L)) = true) (r : p.2.2.all (refB (rawV (L ++ [p]))) = false) : grE L p = 10 := by unfold grE; rw [if_pos h, e, f, d, r]; rfl
theorem grE_0 {L : List PatV} {p : PatV} (h : patB p = true) (e : hasP (vecL L) p.1 = false) (f : nextB (vecL L) p.1 = true) (d : p.2.1.all (hasP (vecL L)) = true) (r : p.2.2.all (refB (rawV (L ++ [p]))) = true) : grE L p = 0 := by unfold grE; rw [if_pos h, e, f, d, r]; rfl
theorem neqXYg (a b : Int) (d : PidV) (w : World) : (binOp .neq 27 (.agg #[.int .u8 a, .int .u16 b]) (.agg (encP d).toArray)).run Tryz.prog w = .ok (.bool (!(decide (a = ((d.1.val : Nat) : Int)) && decide (b = ((d.2.val : Nat) : Int))))) w := by
  unfold encP
  simp [go_sem]
  by_cases h1 : a = ((d.1.val : Nat) : Int)
  · by_cases h2 : b = ((d.2.val : Nat) : Int) <;> simp [h1, h2]
  · simp [h1]
set_option maxRecDepth 100000 in
set_option maxHeartbeats 8000000 in
theorem check20_any {w : World} {F : Nat → Prop} {g : Nat} {L : List PatV} (hI : GraphAt w F g L) (p : PatV) (cs : List Value) (hp : PatAt w cs p) :
    Calls Tryz.prog 65 #[.pointer (some ⟨g, 0, none⟩), .agg cs.toArray] w (RetB w (.int .i64 ((grE L p : Nat) : Int))) := by
  have hp0 := hp
  obtain ⟨⟨A, c, A', c', rfl, P1, O1⟩, m1, m2⟩ := hp0
  unfold maxLen at m1 m2
  have K0 : Hid (Blk (w.alloc (.cells (patC p.1 A p.2.1.length c A' p.2.2.length c').toArray 31)) w.heap.size 31 (patC p.1 A p.2.1.length c A' p.2.2.length c').toArray) := Blk.new _ _ _
  have B0 : Hid (Below w.heap.size w (w.alloc (.cells (patC p.1 A p.2.1.length c A' p.2.2.length c').toArray 31))) := below_new _ _
  have HI := Lib.hid (hI.ext B0.out)
  have HPA := Lib.hid (hp.ext B0.out)
  have HP1 := Lib.hid (P1.ext B0.out)
  have HO1 := Lib.hid (O1.ext B0.out)
  clear hI hp P1 O1
  go_enter Tryz.func65, Tryz.ntmps65
  go_upto_region 1 with fail
  generalize (w.alloc (.cells (patC p.1 A p.2.1.length c A' p.2.2.length c').toArray 31)) = w2 at *
  obtain ⟨g3, hg3⟩ : ∃ g3, g3 = w.heap.size := ⟨_, rfl⟩
  rw [← hg3] at K0 ⊢
  replace hg3 := Lib.hid hg3
  have HG := Lib.hid (good18_any p w2 _ HPA.out)
  have LDP : True := trivial
  cases hg : patB p
  · rw [hg] at HG
    have N := Lib.hid (grE_1 (L := L) hg)
    clear hg
    go_wp2_with (refine wpList_load_rowG (by rfl) 31 _ (by rfl) g3 (by rfl) _ _ _ _ K0.out underPat rfl infoPat ?_)
    refine HG.out.mono ?_
    rintro e w3 ⟨rfl, b3⟩
    have B3 := Lib.hid (B0.out.trans (b3.mono B0.out.size))
    clear b3 HG
    go_wp2
    go_ret
    exact ⟨by rw [N.out]; rfl, B3.out⟩
  rw [hg] at HG
  have hg := Lib.hid hg
  go_wp2_with (refine wpList_load_rowG (by rfl) 31 _ (by rfl) g3 (by rfl) _ _ _ _ K0.out underPat rfl infoPat ?_)
  refine HG.out.mono ?_
  rintro e w3 ⟨rfl, b3⟩
  have B3 := Lib.hid (B0.out.trans (b3.mono B0.out.size))
  have K3 := Lib.hid (K0.out.ext b3)
  have HI := Lib.hid (HI.out.ext b3)
  have HPA := Lib.hid (HPA.out.ext b3)
  have HP1 := Lib.hid (HP1.out.ext b3)
  have HO1 := Lib.hid (HO1.out.ext b3)
  clear b3 HG K0 B0 LDP
  obtain ⟨gm, ge, GC⟩ := HI.out.mem.cells
  have RV := Lib.hid GC.v
  have gl := Lib.hid GC.lt
  clear GC
  have RP := Lib.hid (patC_pid K3.out)
  have g3l : Hid (g3 < w3.heap.size) := K3.out.lt
  have HH : Hid (∀ (d : PidV) (u : World), Calls Tryz.prog 96 #[.agg ((vecL L).map (Value.int .u16)).toArray, .agg (encP d).toArray] u (RetB u (.bool (hasP (vecL L) d)))) := fun d u => has_any (vecL L) (vecL_ok L) d.1.val d.1.isLt ((d.2.val : Nat) : Int) u
  have HN : Hid (∀ u : World, Calls Tryz.prog 144 #[.agg ((vecL L).map (Value.int .u16)).toArray, .int .u8 ((p.1.1.val : Nat) : Int)] u (RetB u (.agg #[.int .u8 (nextV (vecL L) p.1.1.val).1, .int .u16 (nextV (vecL L) p.1.1.val).2]))) := fun u => next_any (vecL L) (vecL_ok L) p.1.1.val p.1.1.isLt u
  have HHp := Lib.hid (HH.out p.1)
  go_upto_region 3 with fail
  cases hh : hasP (vecL L) p.1
  · rw [hh] at HHp
    have hh := Lib.hid hh
    refine wp_region_ext mixedS (by kernel_rfl) ?_
    repeat (first
      | (refine wpQuiet_load_mid (rangeAt_ext RV.out gl.out) under64 rfl (info64' (vecL_ok L)) rfl rfl ?_; simp only [List.set_cons_succ, List.set_cons_zero])
      | (refine wpQuiet_load_mid (rangeAt_ext RP.out g3l.out) underPid rfl infoPid rfl rfl ?_; simp only [List.set_cons_succ, List.set_cons_zero])
      | go_big_quiet_step ((go_at_call 96; exact ext_call (HHp.out _))))
    refine wpQuiet_nil ?_
    rintro _ ⟨z, rfl⟩
    have B4 := Lib.hid (B3.out.trans (z.h.mono B3.out.size))
    have K4 := Lib.hid (K3.out.ext z.h)
    have HI := Lib.hid (HI.out.ext z.h)
    have HPA := Lib.hid (HPA.out.ext z.h)
    have HP1 := Lib.hid (HP1.out.ext z.h)
    have HO1 := Lib.hid (HO1.out.ext z.h)
    have RV := Lib.hid (rangeAt_below RV.out z.h gl.out)
    have RP := Lib.hid (rangeAt_below RP.out z.h g3l.out)
    have gl : Hid (g < z.w.heap.size) := Nat.lt_of_lt_of_le gl.out z.h.size
    have g3l : Hid (g3 < z.w.heap.size) := Nat.lt_of_lt_of_le g3l.out z.h.size
    generalize z.w = w4 at *
    clear B3 K3 HHp
    go_upto_region 5 with fail
    have q0 : ∀ z : Ext w4, z.w.cell? ⟨g3, 0, none⟩ = some (.int .u8 ((p.1.1.val : Nat) : Int)) := fun z => (K4.out.ext z.h).cell 0
    have NEQ := fun u => neqXYg (nextV (vecL L) p.1.1.val).1 (nextV (vecL L) p.1.1.val).2 p.1 u
    cases hb : nextB (vecL L) p.1
    · have N := Lib.hid (grE_9 hg.out hh.out hb)
      have NEQ' : ∀ u : World, (binOp .neq 27 (.agg #[.int .u8 (nextV (vecL L) p.1.1.val).1, .int .u16 (nextV (vecL L) p.1.1.val).2]) (.agg (encP p.1).toArray)).run Tryz.prog u = .ok (.bool true) u := fun u => by
        refine (NEQ u).trans ?_
        have : (decide ((nextV (vecL L) p.1.1.val).1 = ((p.1.1.val : Nat) : Int)) && decide ((nextV (vecL L) p.1.1.val).2 = ((p.1.2.val : Nat) : Int))) = false := hb
        rw [this]; rfl
      clear NEQ hb
      refine wp_region_ext mixedS (by kernel_rfl) ?_
      repeat (first
        | (refine wpQuiet_load_mid (rangeAt_ext RV.out gl.out) under64 rfl (info64' (vecL_ok L)) rfl rfl ?_; simp only [List.set_cons_succ, List.set_cons_zero])
        | (refine wpQuiet_load_mid (rangeAt_ext RP.out g3l.out) underPid rfl infoPid rfl rfl ?_; simp only [List.set_cons_succ, List.set_cons_zero])
        | go_big_quiet_step ((go_at_call 144; exact ext_call (HN.out _))))
      refine wpQuiet_nil ?_
      rintro _ ⟨z, rfl⟩
      have B5 := Lib.hid (B4.out.trans (z.h.mono B4.out.size))
      generalize z.w = w5 at *
      clear q0 NEQ'
      go_wp2
      go_ret
      exact ⟨by rw [N.out]; rfl, B5.out⟩
    · have NEQ' : ∀ u : World, (binOp .neq 27 (.agg #[.int .u8 (nextV (vecL L) p.1.1.val).1, .int .u16 (nextV (vecL L) p.1.1.val).2]) (.agg (encP p.1).toArray)).run Tryz.prog u = .ok (.bool false) u := fun u => by
        refine (NEQ u).trans ?_
        have : (decide ((nextV (vecL L) p.1.1.val).1 = ((p.1.1.val : Nat) : Int)) && decide ((nextV (vecL L) p.1.1.val).2 = ((p.1.2.val : Nat) : Int))) = true := hb
        rw [this]; rfl
      have hb := Lib.hid hb
      clear NEQ
      refine wp_region_ext mixedS (by kernel_rfl) ?_
      repeat (first
        | (refine wpQuiet_load_mid (rangeAt_ext RV.out gl.out) under64 rfl (info64' (vecL_ok L)) rfl rfl ?_; simp only [List.set_cons_succ, List.set_cons_zero])
        | (refine wpQuiet_load_mid (rangeAt_ext RP.out g3l.out) underPid rfl infoPid rfl rfl ?_; simp only [List.set_cons_succ, List.set_cons_zero])
        | go_big_quiet_step ((go_at_call 144; exact ext_call (HN.out _))))
      refine wpQuiet_nil ?_
      rintro _ ⟨z, rfl⟩
      have B5 := Lib.hid (B4.out.trans (z.h.mono B4.out.size))
      have K5 := Lib.hid (K4.out.ext z.h)
      have HI := Lib.hid (HI.out.ext z.h)
      have HPA := Lib.hid (HPA.out.ext z.h)
      have HP1 := Lib.hid (HP1.out.ext z.h)
      have HO1 := Lib.hid (HO1.out.ext z.h)
      have RV := Lib.hid (rangeAt_below RV.out z.h gl.out)
      have gl : Hid (g < z.w.heap.size) := Nat.lt_of_lt_of_le gl.out z.h.size
      generalize z.w = w5 at *
      clear q0 NEQ' B4 K4 RP HN g3l
      have y2 : w5.cell? ⟨g3, 2, none⟩ = some (.slice A p.2.1.length c) := K5.out.cell 2
      have BS := Lib.hid (Below.refl w5.heap.size w5)
      go_wp2_with fail
      go_loopw [40] (fun i wr => ∃ k : Nat, k ≤ p.2.1.length ∧ i = .int .i64 k ∧ Hid ((p.2.1.take k).all (hasP (vecL L)) = true) ∧ Hid (Below w5.heap.size w5 wr)) (fun i _ => p.2.1.length - (intOf i).toNat)
      case atStart => exact ⟨0, by omega, rfl, rfl, BS.out⟩
      case round =>
        clear BS
        obtain ⟨k, hk, rfl, TD, B⟩ := hrel
        have hk0 : (0 : Int) ≤ (k : Int) := by omega
        have BW := Lib.hid (B5.out.trans (B.out.mono B5.out.size))
        by_cases hlt : k < p.2.1.length
        · have hlk : (k : Int) < (p.2.1.length : Int) := by omega
          obtain ⟨b, o, d, rfl, hb', hx, R⟩ := (HP1.out.ext B.out).at_ hlt
          have R := Lib.hid R
          have KZ : Hid (Blk (wr.alloc (.cells #[.int .u8 0, .int .u16 0] 27)) wr.heap.size 27 #[.int .u8 0, .int .u16 0]) := Blk.new _ _ _
          have KD : Hid (Blk ((wr.alloc (.cells #[.int .u8 0, .int .u16 0] 27)).setRow wr.heap.size (encP d).toArray) wr.heap.size 27 (encP d).toArray) := KZ.out.row _
          have BN : Hid (Below wr.heap.size wr ((wr.alloc (.cells #[.int .u8 0, .int .u16 0] 27)).setRow wr.heap.size (encP d).toArray)) := below_setRow (below_new wr _) (Nat.le_refl _) _
          have B6 := Lib.hid (B.out.trans (BN.out.mono B.out.size))
          have hz1 : (encP d).toArray.all (·.oneCell') = true := by simp [encP, Value.oneCell']
          go_upto_region 10 with (first
            | (refine wpList_load_mid rfl 27 _ (by rfl) b (o + k * 2) (by rfl) _ _ R.out underPid rfl infoPid ?_)
            | (refine wpList_alloced (allocPI _) ?_)
            | (refine wpList_store_row rfl 27 _ _ (by rfl) wr.heap.size (encP d).toArray (by rfl) (by rfl) _ _ KZ.out infoPid rfl hz1 ?_))
          generalize ((wr.alloc (.cells #[.int .u8 0, .int .u16 0] 27)).setRow wr.heap.size (encP d).toArray) = w6 at *
          clear KZ BN R hz1
          generalize wr.heap.size = gd at *
          simp only [Act.put, List.setIfInBounds_toArray, List.set_cons_zero, List.set_cons_succ]
          have RD := Lib.hid (blk_pat KD.out)
          have gdl : Hid (gd < w6.heap.size) := KD.out.lt
          have RV6 := Lib.hid (rangeAt_below RV.out B6.out gl.out)
          have gl6 : Hid (g < w6.heap.size) := Nat.lt_of_lt_of_le gl.out B6.out.size
          have HHd := Lib.hid (HH.out d)
          cases hhd : hasP (vecL L) d
          · rw [hhd] at HHd
            have N := Lib.hid (grE_9d hg.out hh.out hb.out (allL_false hx hhd))
            clear hhd hx TD
            refine wp_region_ext mixedS (by kernel_rfl) ?_
            repeat (first
              | (refine wpQuiet_load_mid (rangeAt_ext RV6.out gl6.out) under64 rfl (info64' (vecL_ok L)) rfl rfl ?_; simp only [List.set_cons_succ, List.set_cons_zero])
              | (refine wpQuiet_load_mid (rangeAt_ext RD.out gdl.out) underPid rfl infoPid rfl rfl ?_; simp only [List.set_cons_succ, List.set_cons_zero])
              | go_big_quiet_step ((go_at_call 96; exact ext_call (HHd.out _))))
            refine wpQuiet_nil ?_
            rintro _ ⟨z, rfl⟩
            have B7 := Lib.hid (B5.out.trans ((B6.out.trans (z.h.mono B6.out.size)).mono B5.out.size))
            generalize z.w = w7 at *
            go_wp2
            go_ret
            exact ⟨by rw [N.out]; rfl, B7.out⟩
          · rw [hhd] at HHd
            have N := Lib.hid (allL_snoc hx TD.out hhd)
            clear hhd hx TD
            refine wp_region_ext mixedS (by kernel_rfl) ?_
            repeat (first
              | (refine wpQuiet_load_mid (rangeAt_ext RV6.out gl6.out) under64 rfl (info64' (vecL_ok L)) rfl rfl ?_; simp only [List.set_cons_succ, List.set_cons_zero])
              | (refine wpQuiet_load_mid (rangeAt_ext RD.out gdl.out) underPid rfl infoPid rfl rfl ?_; simp only [List.set_cons_succ, List.set_cons_zero])
              | go_big_quiet_step ((go_at_call 96; exact ext_call (HHd.out _))))
            refine wpQuiet_nil ?_
            rintro _ ⟨z, rfl⟩
            have B7 := Lib.hid (B6.out.trans (z.h.mono B6.out.size))
            generalize z.w = w7 at *
            clear RV6 gl6 RD gdl KD B6
            go_wp2_with fail
            go_roundw
            case rel => exact ⟨k + 1, by omega, by go_num, N.out, B7.out⟩
            case measure => simp [intOf]; omega
        · have hlk : ¬ (k : Int) < (p.2.1.length : Int) := by omega
          rw [List.take_of_length_le (by omega)] at TD
          have KR := Lib.hid (K5.out.ext B.out)
          have y3 : wr.cell? ⟨g3, 3, none⟩ = some (.slice A' p.2.2.length c') := KR.out.cell 3
          have HIr := Lib.hid (HI.out.ext B.out)
          have HPr := Lib.hid (HPA.out.ext B.out)
          have HOr := Lib.hid (HO1.out.ext B.out)
          have hnn := Lib.hid (HI.out.ok.hasnt hh.out)
          generalize wr = w8 at *
          clear HI HPA HP1 HO1 RV gl B K5 HH B5 y2
          have BS := Lib.hid (Below.refl w8.heap.size w8)
          go_wp2_with fail
          go_loopw [55] (fun i wr => ∃ k : Nat, k ≤ p.2.2.length ∧ i = .int .i64 k ∧ Hid ((p.2.2.take k).all (refB (rawV (L ++ [p]))) = true) ∧ Hid (Below w8.heap.size w8 wr)) (fun i _ => p.2.2.length - (intOf i).toNat)
          case atStart => exact ⟨0, by omega, rfl, rfl, BS.out⟩
          case round =>
            clear BS
            obtain ⟨j, hj, rfl, TR, B⟩ := hrel
            have hj0 : (0 : Int) ≤ (j : Int) := by omega
            by_cases hjt : j < p.2.2.length
            · have hjk : (j : Int) < (p.2.2.length : Int) := by omega
              obtain ⟨b, oo, o, rfl, hb', hx, R, _⟩ := (HOr.out.ext B.out).at_ hjt
              have R := Lib.hid R
              have KZ : Hid (Blk (wr.alloc (.cells #[.int .u8 0, .int .u8 0, .int .u16 0, .int .u8 0, .int .u8 0, .int .u16 0, .int .u8 0, .string ByteArray.empty] 122)) wr.heap.size 122 #[.int .u8 0, .int .u8 0, .int .u16 0, .int .u8 0, .int .u8 0, .int .u16 0, .int .u8 0, .string ByteArray.empty]) := Blk.new _ _ _
              have KO : Hid (Blk ((wr.alloc (.cells #[.int .u8 0, .int .u8 0, .int .u16 0, .int .u8 0, .int .u8 0, .int .u16 0, .int .u8 0, .string ByteArray.empty] 122)).setRow wr.heap.size (encO o).toArray) wr.heap.size 122 (encO o).toArray) := KZ.out.row _
              have BN : Hid (Below wr.heap.size wr ((wr.alloc (.cells #[.int .u8 0, .int .u8 0, .int .u16 0, .int .u8 0, .int .u8 0, .int .u16 0, .int .u8 0, .string ByteArray.empty] 122)).setRow wr.heap.size (encO o).toArray)) := below_setRow (below_new wr _) (Nat.le_refl _) _
              have B6 := Lib.hid (B.out.trans (BN.out.mono B.out.size))
              go_upto_region 16 with (first
                | (refine wpList_load_mid rfl 122 _ (by rfl) b (oo + j * 8) (by rfl) _ _ R.out underOp rfl infoOp ?_)
                | (refine wpList_alloced (allocOp _) ?_)
                | (refine wpList_store_row rfl 122 _ _ (by rfl) wr.heap.size (encO o).toArray (by rfl) (by rfl) _ _ KZ.out infoOp rfl (by simp [encO, Value.oneCell']) ?_))
              generalize ((wr.alloc (.cells #[.int .u8 0, .int .u8 0, .int .u16 0, .int .u8 0, .int .u8 0, .int .u16 0, .int .u8 0, .string ByteArray.empty] 122)).setRow wr.heap.size (encO o).toArray) = w9 at *
              clear KZ BN R
              generalize wr.heap.size = go at *
              have K9 := Lib.hid (KR.out.ext B6.out)
              have HR := Lib.hid (refs20_any (HIr.out.mem.ext B6.out) p hnn.out _ (HPr.out.ext B6.out) o)
              cases hr : refB (rawV (L ++ [p])) o
              · rw [hr] at HR
                have N := Lib.hid (grE_10 hg.out hh.out hb.out TD.out (allL_false hx hr))
                clear hr hx TR
                go_wp2_with (first
                  | (refine wpList_load_row rfl 31 _ (by rfl) g3 (by rfl) _ _ _ _ K9.out underPat rfl infoPat ?_)
                  | (refine wpList_load_row rfl 122 _ (by rfl) go (by rfl) _ _ _ _ KO.out underOp rfl infoOp ?_))
                refine HR.out.mono ?_
                rintro e w10 ⟨rfl, b10⟩
                have B10 := Lib.hid (BW.out.trans ((B6.out.trans (b10.mono B6.out.size)).mono BW.out.size))
                clear b10
                go_wp2
                go_ret
                exact ⟨by rw [N.out]; rfl, B10.out⟩
              · rw [hr] at HR
                have N := Lib.hid (allL_snoc hx TR.out hr)
                clear hr hx TR
                go_wp2_with (first
                  | (refine wpList_load_row rfl 31 _ (by rfl) g3 (by rfl) _ _ _ _ K9.out underPat rfl infoPat ?_)
                  | (refine wpList_load_row rfl 122 _ (by rfl) go (by rfl) _ _ _ _ KO.out underOp rfl infoOp ?_))
                refine HR.out.mono ?_
                rintro e w10 ⟨rfl, b10⟩
                have B10 := Lib.hid (B6.out.trans (b10.mono B6.out.size))
                clear b10 HR K9 KO B6 B
                go_wp2_with fail
                go_roundw
                case rel => exact ⟨j + 1, by omega, by go_num, N.out, B10.out⟩
                case measure => simp [intOf]; omega
            · have hjk : ¬ (j : Int) < (p.2.2.length : Int) := by omega
              rw [List.take_of_length_le (by omega)] at TR
              have N := Lib.hid (grE_0 hg.out hh.out hb.out TD.out TR.out)
              have BF := Lib.hid (BW.out.trans (B.out.mono BW.out.size))
              go_wp2
              go_ret
              exact ⟨by rw [N.out]; rfl, BF.out⟩
  · rw [hh] at HHp
    have N := Lib.hid (grE_7 hg.out hh)
    clear hh
    refine wp_region_ext mixedS (by kernel_rfl) ?_
    repeat (first
      | (refine wpQuiet_load_mid (rangeAt_ext RV.out gl.out) under64 rfl (info64' (vecL_ok L)) rfl rfl ?_; simp only [List.set_cons_succ, List.set_cons_zero])
      | (refine wpQuiet_load_mid (rangeAt_ext RP.out g3l.out) underPid rfl infoPid rfl rfl ?_; simp only [List.set_cons_succ, List.set_cons_zero])
      | go_big_quiet_step ((go_at_call 96; exact ext_call (HHp.out _))))
    refine wpQuiet_nil ?_
    rintro _ ⟨z, rfl⟩
    have B4 := Lib.hid (B3.out.trans (z.h.mono B3.out.size))
    generalize z.w = w4 at *
    go_wp2
    go_ret
    exact ⟨by rw [N.out]; rfl, B4.out⟩
end Go.Proofs.YtihggkmjalofiaaGreatDoor

/- A value in a quiet walk; a map written in a region that draws its order. No program in sight but as a variable. -/
namespace Go.Proofs.YtihggkmjalofiaaGreatDoor
open Go.RowKit

theorem wp_mapputted {P : Program} {Q : Exit → Act → World → Prop} {K : Act → World → Prop} {a : Act} {w w' : World} {d : Option Tmp} {ty t : TypeId} {pos : String} {after : Array Edge} {gd : Option (Nat × Bool)} {m x y : Operand} {mv kv v : Value} (hm : a.eval m = mv) (hx : a.eval x = kv) (hy : a.eval y = v) (hr : (Instr.mapUpdate t mv kv v).run P w = .ok () w')
    (h : K (a.put d undef) w') : Oper.wp P ⟨d, .mapUpdate t m x y, ty, pos, after, gd⟩ a w K Q := by
  unfold Oper.wp execOp
  simp only [hm, hx, hy, Sem.run_bind, hr, Result.andThen_ok, Sem.run_pure]
  exact h
end Go.Proofs.YtihggkmjalofiaaGreatDoor
