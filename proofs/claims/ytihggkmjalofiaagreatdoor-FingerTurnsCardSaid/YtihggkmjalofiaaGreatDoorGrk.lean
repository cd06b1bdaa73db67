/- A graph: the vertices, and the steps, of which something holds: walked. -/
import Derived.Test.YtihggkmjalofiaaGreatDoorGrj
import Derived.Test.YtihggkmjalofiaaGreatDoorMrc
namespace Go.Proofs.YtihggkmjalofiaaGreatDoor
open Go.RowKit
open Go.ChangeMaps (setBlock)

theorem own_ne_iter {P : Program} {kt : TypeId} {w : World} {base size n : Nat} {e : TypeId} {v : Value} {xs : List Value} {b r k : Nat} {l todo : List (Value × Value)} (h : w.ownsRow base e size v n xs) (hm : RangeIs P kt w b r l todo) (hk : v.ownBlock = some k) : k ≠ r := by
  rintro rfl
  obtain ⟨cur, hh⟩ := own_type h hk
  obtain ⟨es, clock, since, seen, c0, _, _, _, _, hr, _⟩ := hm
  rw [hh] at hr; cases hr
section
variable {α : Type} {key : α → Int} {pr : α → Value × Value} {id : α → Value}
theorem perm_rise (inj : ∀ x y : α, key x = key y → id x = id y) (hpr : ∀ x, (pr x).1 = id x) {E : List (Value × Value)} {ds d : List α} {q : α → Bool} (hap : E.Pairwise fun a b => a.1 ≠ b.1) (hp : (ds.map pr).Perm E) (hd : d.Perm (ds.filter q)) (hs : d.Pairwise fun a b => key a ≤ key b) : RiseK key d := by
  have h1 : (ds.map pr).Pairwise fun a b => a.1 ≠ b.1 := (hp.pairwise_iff fun h => h.symm).2 hap
  rw [List.pairwise_map] at h1
  have h2 : ds.Pairwise fun a b => id a ≠ id b := h1.imp fun {a b} h => by rw [← hpr, ← hpr]; exact h
  have h3 : (ds.filter q).Pairwise fun a b => id a ≠ id b := h2.sublist List.filter_sublist
  have h4 : d.Pairwise fun a b => id a ≠ id b := (hd.pairwise_iff fun h => h.symm).2 h3
  exact (hs.and h4).imp fun {a b} h => by
    have : key a ≠ key b := fun e => h.2 (inj a b e)
    omega
end
def prX (x : VertV) : Value × Value := (.agg (encV x.1).toArray, .agg (encX x).toArray)
theorem ents_X {L : List PatV} {E : List (Value × Value)} (hE : VertsM L E) : ∀ pr ∈ E, ∃ x, pr = prX x := by
  intro pr hpr
  obtain ⟨v, x, hv, rfl⟩ := (hE pr).1 hpr
  exact ⟨x, by rw [prX, vertV_id hv]⟩
theorem prX_mem {L : List PatV} {E : List (Value × Value)} (hE : VertsM L E) (z : VertV) : prX z ∈ E ↔ vertV L z.1 = some z := by
  rw [hE]
  constructor
  · rintro ⟨v, x, hv, e⟩
    have e1 : Value.agg (encV z.1).toArray = .agg (encV v).toArray := congrArg Prod.fst e
    have e2 : Value.agg (encX z).toArray = .agg (encX x).toArray := congrArg Prod.snd e
    obtain rfl := encVa_inj e1
    have e3 : encX z = encX x := by
      have := congrArg (fun v => match v with | .agg a => a.toList | _ => []) e2
      exact this
    rw [encX_inj e3] at hv ⊢
    exact hv
  · intro h
    exact ⟨z.1, z, h, rfl⟩
theorem prX_inj {x y : VertV} (h : prX x = prX y) : x = y := by
  have e2 : Value.agg (encX x).toArray = .agg (encX y).toArray := congrArg Prod.snd h
  refine encX_inj ?_
  have := congrArg (fun v => match v with | .agg a => a.toList | _ => []) e2
  exact this
theorem some_end {L : List PatV} {E : List (Value × Value)} {ds d : List VertV} {q : VertV → Bool} (hG : GrOk L) (hE : VertsM L E) (hap : E.Pairwise fun a b => a.1 ≠ b.1) (hp : (ds.map prX).Perm E) (hd : d.Perm (ds.filter q)) (hs : d.Pairwise fun a b => keyX a ≤ keyX b) : d = (vertsL L).filter q := by
  refine rise_eqX (perm_rise (id := fun x : VertV => .agg (encV x.1).toArray) (fun x y h => by rw [keyV_inj _ _ h]) (fun x => rfl) hap hp hd hs) (hG.verts_rise.sublist List.filter_sublist) fun z => ?_
  rw [hd.mem_iff, List.mem_filter, List.mem_filter, hG.verts, ← prX_mem hE, ← hp.mem_iff, List.mem_map]
  constructor
  · rintro ⟨h1, h2⟩; exact ⟨⟨z, h1, rfl⟩, h2⟩
  · rintro ⟨⟨x, h1, e⟩, h2⟩
    obtain rfl := prX_inj e
    exact ⟨h1, h2⟩
def prE (L : List PatV) (e : EdgeV) : Value × Value := (.agg (encE e).toArray, .agg (encV (fileV L e.1)).toArray)
theorem ents_E {L : List PatV} {E : List (Value × Value)} (hE : EdgesM L E) : ∀ pr ∈ E, ∃ x, pr = prE L x := by
  intro pr hpr
  obtain ⟨e, _, rfl⟩ := (hE pr).1 hpr
  exact ⟨e, rfl⟩
theorem prE_inj {L : List PatV} {x y : EdgeV} (h : prE L x = prE L y) : x = y := by
  have e2 : Value.agg (encE x).toArray = .agg (encE y).toArray := congrArg Prod.fst h
  exact encEa_inj e2
theorem prE_mem {L : List PatV} {E : List (Value × Value)} (hE : EdgesM L E) (z : EdgeV) : prE L z ∈ E ↔ z ∈ edgesL L := by
  rw [hE]
  unfold edgesL
  rw [setK_mem keyE_inj]
  constructor
  · rintro ⟨e, he, h⟩
    have e2 : Value.agg (encE z).toArray = .agg (encE e).toArray := congrArg Prod.fst h
    rw [encEa_inj e2]; exact he
  · intro h; exact ⟨z, h, rfl⟩
theorem steps_end {L : List PatV} {E : List (Value × Value)} {ds d : List EdgeV} {q : EdgeV → Bool} (hE : EdgesM L E) (hap : E.Pairwise fun a b => a.1 ≠ b.1) (hp : (ds.map (prE L)).Perm E) (hd : d.Perm (ds.filter q)) (hs : d.Pairwise fun a b => keyE a ≤ keyE b) : d = (edgesL L).filter q := by
  refine rise_eq (perm_rise (id := fun x : EdgeV => .agg (encE x).toArray) (fun x y h => by rw [keyE_inj _ _ h]) (fun x => rfl) hap hp hd hs) ((setK_rise keyE_inj _).sublist List.filter_sublist) fun z => ?_
  rw [hd.mem_iff, List.mem_filter, List.mem_filter, ← prE_mem hE, ← hp.mem_iff, List.mem_map]
  constructor
  · rintro ⟨h1, h2⟩; exact ⟨⟨z, h1, rfl⟩, h2⟩
  · rintro ⟨⟨x, h1, e⟩, h2⟩
    obtain rfl := prE_inj e
    exact ⟨h1, h2⟩
theorem filt_snoc_t {α : Type} {q : α → Bool} {ds : List α} {x : α} (h : q x = true) : (ds ++ [x]).filter q = ds.filter q ++ [x] := by rw [List.filter_append]; simp [h]
theorem filt_snoc_f {α : Type} {q : α → Bool} {ds : List α} {x : α} (h : q x = false) : (ds ++ [x]).filter q = ds.filter q := by rw [List.filter_append]; simp [h]
theorem allocEdge (w : World) : (Instr.alloc 137 true (.tuple #[])).run Tryz.prog w = .ok (.pointer (some ⟨w.heap.size, 0, none⟩)) (w.alloc (.cells (encE (vid0, vid0)).toArray 137)) := by kernel_rfl
theorem allocVidZ (w : World) : (Instr.alloc 120 true (.tuple #[])).run Tryz.prog w = .ok (.pointer (some ⟨w.heap.size, 0, none⟩)) (w.alloc (.cells (encV vid0).toArray 120)) := by kernel_rfl
theorem encE_all (e : EdgeV) : (encE e).toArray.all (·.oneCell') = true := by simp [encE, Value.oneCell']
theorem encV_all (e : VidV) : (encV e).toArray.all (·.oneCell') = true := by simp [encV, Value.oneCell']
set_option maxRecDepth 100000 in
set_option maxHeartbeats 4000000 in
theorem some20_any {w : World} {F : Nat → Prop} {g : Nat} {L : List PatV} (hI : GraphAt w F g L) (hfew : L.length ≤ 400) (q : VertV → Bool) (f : FuncId) (hF : ∀ args w, (callFunc f args).run Tryz.prog w = .ok (.enter f args) w) (caps : Array Value)
    (HC : ∀ (x : VertV) (wr : World), Below w.heap.size w wr → Calls Tryz.prog f (#[.agg (encX x).toArray] ++ caps) wr (RetB wr (.bool (q x)))) :
    Calls Tryz.prog 147 #[.pointer (some ⟨g, 0, none⟩), .func (.func f) #[] caps] w (OwnedRet w 134 9 ((vertsL L).filter q).length (((vertsL L).filter q).flatMap encX)) := by
  obtain ⟨gm, ge, GC⟩ := hI.mem.cells
  obtain ⟨E, kM, kE, hlen⟩ := GC.map
  have hE8 : E.length ≤ 80000 := by have := hI.ok.opsN; omega
  have KM := Lib.hid kM
  have hgm := Lib.hid kM.lt
  have HK := Lib.hid (ents_X kE)
  have HEND := Lib.hid (fun ds d hp hd hs => some_end (L := L) hI.ok (ds := ds) (d := d) (q := q) kE kM.apart hp hd hs)
  have y1 : w.cell? ⟨g, 64, none⟩ = some (.map (some gm)) := GC.m ⟨w, Below.refl _ _⟩
  have HC := Lib.hid HC
  clear GC kM kE hI
  go_enter Tryz.func147, Tryz.ntmps147
  go_wp2_with (at_range; refine wpList_rangeIs rfl _ 126 rfl _ kMapVert (by rfl) KM.out ?_; intro ob R1)
  go_frame
  have B2 := Lib.hid (below_new w ob)
  have R2 := Lib.hid R1
  clear R1 y1
  generalize w.alloc ob = w2 at *
  generalize hrr : w.heap.size = r at R2 ⊢
  replace hrr := Lib.hid hrr
  have hrw : Hid (w.heap.size ≤ r) := by have := hrr.out; rw [Hid]; omega
  go_loopw [5] (fun v wr => ∃ (ds : List VertV) (todo : List (Value × Value)), Hid (wr.ownsRow w.heap.size 134 9 v (ds.filter q).length ((ds.filter q).flatMap encX)) ∧ Hid (RangeIs Tryz.prog 120 wr gm r E todo) ∧ Hid ((ds.map prX ++ todo).Perm E) ∧ Hid (Below w.heap.size w wr)) (fun _ wr => wr.rangeLeft gm r)
  case atStart => exact ⟨[], E, World.ownsRow_nil _ _ _ _, R2.out, List.Perm.refl _, B2.out⟩
  case round =>
    clear R2 B2
    obtain ⟨ds, todo, OW, R, PM, B⟩ := hrel
    have hlk := PM.out.length_eq
    rw [List.length_append, List.length_map] at hlk
    have hfl := List.length_filter_le q ds
    go_wp2_with (at_next; refine wpList_nextIs rfl _ rfl (by rfl) R.out ?_ ?_)
    · intro h0
      subst h0
      have hpe : Hid ((ds.map prX).Perm E) := by have := PM.out; rw [List.append_nil] at this; exact this
      have HS := Lib.hid (sortX (ds.filter q) wr w.heap.size _ _ rfl (by omega) OW.out)
      obtain ⟨A9, c9, rfl, _, _⟩ := Sl.of_own OW.out
      clear OW R PM
      generalize (ds.filter q).length = nf at *
      go_wp2_with fail
      refine HS.out.mono ?_
      rintro e w5 ⟨rfl, b5, d, dp, dr, o5⟩
      have e1 := HEND.out ds d hpe.out dp dr
      have B5 := Lib.hid (B.out.trans b5)
      have O5 : Hid (w5.ownsRow w.heap.size 134 9 (.slice A9 nf c9) ((vertsL L).filter q).length (((vertsL L).filter q).flatMap encX)) := by
        have hl := o5.1
        rw [flatMap_len encX d (fun x _ => encX_len x)] at hl
        have : nf = d.length := Nat.eq_of_mul_eq_mul_right (by decide : 0 < 9) hl.symm
        rw [Hid, ← e1, ← this]; exact o5
      clear dp dr o5 b5 HS hpe e1
      go_wp2
      go_ret
      exact ⟨_, rfl, O5.out, B5.out⟩
    · intro pk pv todo' w3 hp hpl hR3 hB hoth hsz hen
      obtain ⟨x, hx⟩ := HK.out _ hpl
      have hx1 : pk = .agg (encV x.1).toArray := congrArg Prod.fst hx
      have hx2 : pv = .agg (encX x).toArray := congrArg Prod.snd hx
      subst hx1 hx2
      have O3 : Hid (w3.ownsRow w.heap.size 134 9 _ (ds.filter q).length ((ds.filter q).flatMap encX)) := own_keepF OW.out fun k e => hoth k (own_ne_iter OW.out R.out e)
      have B3 := Lib.hid (B.out.trans (hB w.heap.size hrw.out))
      have hpl2 := hp.length_eq
      simp only [List.length_cons] at hpl2
      have P3 : Hid (((ds ++ [x]).map prX ++ todo').Perm E) := by
        refine List.Perm.trans ?_ PM.out
        rw [List.map_append, List.append_assoc]
        exact (hp.symm.append_left _)
      have R3 := Lib.hid hR3
      have hml : Hid (wr.rangeLeft gm r = todo.length) := R.out.left_eq
      have hlt2 : Hid (todo'.length < todo.length) := by rw [Hid]; omega
      clear hp hR3 hpl hB hoth hsz OW R B PM hx hpl2
      have KZ : Hid (Blk (w3.alloc (.cells zeroX 134)) w3.heap.size 134 zeroX) := Blk.new _ _ _
      have KX : Hid (Blk ((w3.alloc (.cells zeroX 134)).setRow w3.heap.size (encX x).toArray) w3.heap.size 134 (encX x).toArray) := KZ.out.row _
      have BN : Hid (Below w3.heap.size w3 ((w3.alloc (.cells zeroX 134)).setRow w3.heap.size (encX x).toArray)) := below_setRow (below_new w3 _) (Nat.le_refl _) _
      have O4 := Lib.hid (own_ext O3.out BN.out)
      have R4 := Lib.hid (R3.out.keep (BN.out.block gm R3.out.map.lt) (BN.out.block r R3.out.lt))
      have B4 := Lib.hid (B3.out.trans (BN.out.mono B3.out.size))
      go_upto_region 7 with (first
        | (refine wpList_alloced (allocVert _) ?_)
        | (refine wpList_store_row rfl 134 _ _ (by rfl) w3.heap.size (encX x).toArray (by rfl) (by rfl) _ _ KZ.out infoVert rfl (encX_all _) ?_))
      generalize ((w3.alloc (.cells zeroX 134)).setRow w3.heap.size (encX x).toArray) = w4 at *
      clear KZ BN O3 R3 B3 hen
      generalize w3.heap.size = gx at *
      have KQ := Lib.hid KX.out
      have HQ := Lib.hid (HC.out x w4 B4.out)
      have hfd := (List.length_filter_le q ds)
      cases hq : q x
      · rw [hq] at HQ
        have EF := Lib.hid (filt_snoc_f (q := q) (ds := ds) (x := x) hq)
        go_wp2_with (first
          | (refine wpList_load_row rfl 134 _ (by rfl) gx (by rfl) _ _ _ _ KQ.out underVert rfl infoVert ?_)
          | ((with_reducible refine wpList_calledV hF ?_ ?_ HQ.out ?_); rfl; rfl; rintro e w5 ⟨rfl, b5⟩; refine ⟨_, rfl, ?_⟩; simp only [Act.put, List.setIfInBounds_toArray, List.set_cons_zero, List.set_cons_succ]))
        have O5 := Lib.hid (own_ext O4.out b5)
        have R5 := Lib.hid (R4.out.keep (b5.block gm R4.out.map.lt) (b5.block r R4.out.lt))
        have B5 := Lib.hid (B4.out.trans (b5.mono B4.out.size))
        have hme : Hid (w5.rangeLeft gm r < wr.rangeLeft gm r) := by rw [Hid, R5.out.left_eq, hml.out]; exact hlt2.out
        clear b5 O4 R4 B4 KQ HQ hml hlt2 KX
        go_roundw
        case rel => exact ⟨ds ++ [x], todo', by rw [EF.out]; exact O5.out, R5.out, P3.out, B5.out⟩
        case measure => exact hme.out
      · rw [hq] at HQ
        have EF := Lib.hid (filt_snoc_t (q := q) (ds := ds) (x := x) hq)
        go_upto_region 8 with (first
          | (refine wpList_load_row rfl 134 _ (by rfl) gx (by rfl) _ _ _ _ KQ.out underVert rfl infoVert ?_)
          | ((with_reducible refine wpList_calledV hF ?_ ?_ HQ.out ?_); rfl; rfl; rintro e w5 ⟨rfl, b5⟩; refine ⟨_, rfl, ?_⟩; simp only [Act.put, List.setIfInBounds_toArray, List.set_cons_zero, List.set_cons_succ]))
        have O5 := Lib.hid (own_ext O4.out b5)
        have R5 := Lib.hid (R4.out.keep (b5.block gm R4.out.map.lt) (b5.block r R4.out.lt))
        have B5 := Lib.hid (B4.out.trans (b5.mono B4.out.size))
        have KX5 := Lib.hid (KX.out.ext b5)
        clear b5 O4 R4 B4 KQ HQ KX
        have hbs := B5.out.size
        obtain ⟨nf, hnf⟩ : ∃ nf, nf = (ds.filter q).length := ⟨_, rfl⟩
        rw [← hnf] at O5 hfd
        replace hnf := Lib.hid hnf
        go_wp2_with (first
          | (refine wpList_load_row rfl 134 _ (by rfl) gx (by rfl) _ _ _ _ KX5.out underVert rfl infoVert ?_)
          | (refine wpList_lit1 vertSl (encX_len x) (by omega) (by rfl) ?_)
          | (at_builtin; refine wpList_pushF vertSl O5.out (encX x) (encX_len x) (encX_one x) hbs (by omega) (by unfold maxLen; omega) (by rfl) (by rfl) (by rfl) ?_; intro v1 w6 own1 kp hv1))
        have O6 : Hid (w6.ownsRow w.heap.size 134 9 v1 ((ds ++ [x]).filter q).length (((ds ++ [x]).filter q).flatMap encX)) := by
          rw [Hid, EF.out, List.length_append, List.flatMap_append, ← hnf.out]; simpa using own1
        have R6 : Hid (RangeIs Tryz.prog 120 w6 gm r E todo') := R5.out.keep (kp.block gm R5.out.map.lt fun e => own_ne_map O5.out R5.out.map e rfl) (kp.block r R5.out.lt fun e => own_ne_iter O5.out R5.out e rfl)
        have B6 := Lib.hid (B5.out.trans (kp.below (fun k e => (O5.out.lt k e).1) B5.out.size))
        have hme : Hid (w6.rangeLeft gm r < wr.rangeLeft gm r) := by rw [Hid, R6.out.left_eq, hml.out]; exact hlt2.out
        clear own1 kp hv1 O5 B5 R5 KX5 hml hlt2
        go_roundw
        case rel => exact ⟨ds ++ [x], todo', O6.out, R6.out, P3.out, B6.out⟩
        case measure => exact hme.out
set_option maxRecDepth 100000 in
set_option maxHeartbeats 4000000 in
theorem steps20_any {w : World} {F : Nat → Prop} {g : Nat} {L : List PatV} (hI : GraphAt w F g L) (hfew : L.length ≤ 400) (q : VidV → Bool) (f : FuncId) (hF : ∀ args w, (callFunc f args).run Tryz.prog w = .ok (.enter f args) w) (caps : Array Value)
    (HC : ∀ (x : VidV) (wr : World), Below w.heap.size w wr → Calls Tryz.prog f (#[.agg (encV x).toArray] ++ caps) wr (RetB wr (.bool (q x)))) :
    Calls Tryz.prog 149 #[.pointer (some ⟨g, 0, none⟩), .func (.func f) #[] caps] w (OwnedRet w 137 6 ((edgesL L).filter (fun e => q (fileV L e.1))).length (((edgesL L).filter (fun e => q (fileV L e.1))).flatMap encE)) := by
  obtain ⟨gm, ge, GC⟩ := hI.mem.cells
  obtain ⟨E, kM, kE, hlen⟩ := GC.emap
  have hE8 : E.length ≤ 80000 := by have := hI.ok.opsN; omega
  have KM := Lib.hid kM
  have hgm := Lib.hid kM.lt
  have HK := Lib.hid (ents_E kE)
  have HEND := Lib.hid (fun ds d hp hd hs => steps_end (L := L) (ds := ds) (d := d) (q := (fun e => q (fileV L e.1))) kE kM.apart hp hd hs)
  have y1 : w.cell? ⟨g, 65, none⟩ = some (.map (some ge)) := GC.e ⟨w, Below.refl _ _⟩
  have HC := Lib.hid HC
  clear GC kM kE hI
  go_enter Tryz.func149, Tryz.ntmps149
  go_wp2_with (at_range; refine wpList_rangeIs rfl _ 127 rfl _ kMapEdge (by rfl) KM.out ?_; intro ob R1)
  go_frame
  have B2 := Lib.hid (below_new w ob)
  have R2 := Lib.hid R1
  clear R1 y1
  generalize w.alloc ob = w2 at *
  generalize hrr : w.heap.size = r at R2 ⊢
  replace hrr := Lib.hid hrr
  have hrw : Hid (w.heap.size ≤ r) := by have := hrr.out; rw [Hid]; omega
  go_loopw [5] (fun v wr => ∃ (ds : List EdgeV) (todo : List (Value × Value)), Hid (wr.ownsRow w.heap.size 137 6 v (ds.filter (fun e => q (fileV L e.1))).length ((ds.filter (fun e => q (fileV L e.1))).flatMap encE)) ∧ Hid (RangeIs Tryz.prog 137 wr ge r E todo) ∧ Hid ((ds.map (prE L) ++ todo).Perm E) ∧ Hid (Below w.heap.size w wr)) (fun _ wr => wr.rangeLeft ge r)
  case atStart => exact ⟨[], E, World.ownsRow_nil _ _ _ _, R2.out, List.Perm.refl _, B2.out⟩
  case round =>
    clear R2 B2
    obtain ⟨ds, todo, OW, R, PM, B⟩ := hrel
    have hlk := PM.out.length_eq
    rw [List.length_append, List.length_map] at hlk
    have hfl := List.length_filter_le (fun e => q (fileV L e.1)) ds
    go_wp2_with (at_next; refine wpList_nextIs rfl _ rfl (by rfl) R.out ?_ ?_)
    · intro h0
      subst h0
      have hpe : Hid ((ds.map (prE L)).Perm E) := by have := PM.out; rw [List.append_nil] at this; exact this
      have HS := Lib.hid (sortE (ds.filter (fun e => q (fileV L e.1))) wr w.heap.size _ _ rfl (by omega) OW.out)
      obtain ⟨A9, c9, rfl, _, _⟩ := Sl.of_own OW.out
      clear OW R PM
      generalize (ds.filter (fun e => q (fileV L e.1))).length = nf at *
      go_wp2_with fail
      refine HS.out.mono ?_
      rintro e w5 ⟨rfl, b5, d, dp, dr, o5⟩
      have e1 := HEND.out ds d hpe.out dp dr
      have B5 := Lib.hid (B.out.trans b5)
      have O5 : Hid (w5.ownsRow w.heap.size 137 6 (.slice A9 nf c9) ((edgesL L).filter (fun e => q (fileV L e.1))).length (((edgesL L).filter (fun e => q (fileV L e.1))).flatMap encE)) := by
        have hl := o5.1
        rw [flatMap_len encE d (fun x _ => encE_len x)] at hl
        have : nf = d.length := Nat.eq_of_mul_eq_mul_right (by decide : 0 < 6) hl.symm
        rw [Hid, ← e1, ← this]; exact o5
      clear dp dr o5 b5 HS hpe e1
      go_wp2
      go_ret
      exact ⟨_, rfl, O5.out, B5.out⟩
    · intro pk pv todo' w3 hp hpl hR3 hB hoth hsz hen
      obtain ⟨x, hx⟩ := HK.out _ hpl
      have hx1 : pk = .agg (encE x).toArray := congrArg Prod.fst hx
      have hx2 : pv = .agg (encV (fileV L x.1)).toArray := congrArg Prod.snd hx
      subst hx1 hx2
      have O3 : Hid (w3.ownsRow w.heap.size 137 6 _ (ds.filter (fun e => q (fileV L e.1))).length ((ds.filter (fun e => q (fileV L e.1))).flatMap encE)) := own_keepF OW.out fun k e => hoth k (own_ne_iter OW.out R.out e)
      have B3 := Lib.hid (B.out.trans (hB w.heap.size hrw.out))
      have hpl2 := hp.length_eq
      simp only [List.length_cons] at hpl2
      have P3 : Hid (((ds ++ [x]).map (prE L) ++ todo').Perm E) := by
        refine List.Perm.trans ?_ PM.out
        rw [List.map_append, List.append_assoc]
        exact (hp.symm.append_left _)
      have R3 := Lib.hid hR3
      have hml : Hid (wr.rangeLeft ge r = todo.length) := R.out.left_eq
      have hlt2 : Hid (todo'.length < todo.length) := by rw [Hid]; omega
      clear hp hR3 hpl hB hoth hsz OW R B PM hx hpl2
      obtain ⟨fx, hfx⟩ : ∃ fx, fx = fileV L x.1 := ⟨_, rfl⟩
      rw [← hfx] at hen
      have KZ : Hid (Blk ((w3.alloc (.cells (encE (vid0, vid0)).toArray 137)).alloc (.cells (encV vid0).toArray 120)) w3.heap.size 137 (encE (vid0, vid0)).toArray) := (Blk.new _ _ _).alloc _
      have KY : Hid (Blk (((w3.alloc (.cells (encE (vid0, vid0)).toArray 137)).alloc (.cells (encV vid0).toArray 120)).setRow w3.heap.size (encE x).toArray) (w3.heap.size + 1) 120 (encV vid0).toArray) := (Blk.newAt (by simp) _ _).rowFar (by omega) _
      have KX : Hid (Blk ((((w3.alloc (.cells (encE (vid0, vid0)).toArray 137)).alloc (.cells (encV vid0).toArray 120)).setRow w3.heap.size (encE x).toArray).setRow (w3.heap.size + 1) (encV fx).toArray) w3.heap.size 137 (encE x).toArray) := (KZ.out.row _).rowFar (by omega) _
      have KQ : Hid (Blk ((((w3.alloc (.cells (encE (vid0, vid0)).toArray 137)).alloc (.cells (encV vid0).toArray 120)).setRow w3.heap.size (encE x).toArray).setRow (w3.heap.size + 1) (encV fx).toArray) (w3.heap.size + 1) 120 (encV fx).toArray) := KY.out.row _
      have BN : Hid (Below w3.heap.size w3 ((((w3.alloc (.cells (encE (vid0, vid0)).toArray 137)).alloc (.cells (encV vid0).toArray 120)).setRow w3.heap.size (encE x).toArray).setRow (w3.heap.size + 1) (encV fx).toArray)) := below_setRow (below_setRow (((Below.refl _ _).alloc (Nat.le_refl _) _).alloc (by simp) _) (Nat.le_refl _) _) (Nat.le_succ _) _
      have O4 := Lib.hid (own_ext O3.out BN.out)
      have R4 := Lib.hid (R3.out.keep (BN.out.block ge R3.out.map.lt) (BN.out.block r R3.out.lt))
      have B4 := Lib.hid (B3.out.trans (BN.out.mono B3.out.size))
      have hs3 : (w3.alloc (.cells (encE (vid0, vid0)).toArray 137)).heap.size = w3.heap.size + 1 := by simp
      replace hfx := Lib.hid hfx
      go_upto_region 7 with (first
        | (refine wpList_alloced (allocEdge _) ?_)
        | (refine wpList_alloced (allocVidZ _) ?_; rw [hs3])
        | (refine wpList_store_row rfl 137 _ _ (by rfl) w3.heap.size (encE x).toArray (by rfl) (by rfl) _ _ KZ.out infoEdge rfl (encE_all _) ?_)
        | (refine wpList_store_row rfl 120 _ _ (by rfl) (w3.heap.size + 1) (encV fx).toArray (by rfl) (by rfl) _ _ KY.out infoVid rfl (encV_all _) ?_))
      generalize ((((w3.alloc (.cells (encE (vid0, vid0)).toArray 137)).alloc (.cells (encV vid0).toArray 120)).setRow w3.heap.size (encE x).toArray).setRow (w3.heap.size + 1) (encV fx).toArray) = w4 at *
      clear KZ KY BN O3 R3 B3 hen hs3
      generalize w3.heap.size + 1 = gq at *
      generalize w3.heap.size = gx at *
      rw [hfx.out] at KQ ⊢
      have HQ := Lib.hid (HC.out (fileV L x.1) w4 B4.out)
      have hfd := (List.length_filter_le (fun e => q (fileV L e.1)) ds)
      cases hq : q (fileV L x.1)
      · rw [hq] at HQ
        have EF := Lib.hid (filt_snoc_f (q := (fun e => q (fileV L e.1))) (ds := ds) (x := x) hq)
        go_wp2_with (first
          | (refine wpList_load_row rfl 120 _ (by rfl) gq (by rfl) _ _ _ _ KQ.out underVid rfl infoVid ?_)
          | ((with_reducible refine wpList_calledV hF ?_ ?_ HQ.out ?_); rfl; rfl; rintro e w5 ⟨rfl, b5⟩; refine ⟨_, rfl, ?_⟩; simp only [Act.put, List.setIfInBounds_toArray, List.set_cons_zero, List.set_cons_succ]))
        have O5 := Lib.hid (own_ext O4.out b5)
        have R5 := Lib.hid (R4.out.keep (b5.block ge R4.out.map.lt) (b5.block r R4.out.lt))
        have B5 := Lib.hid (B4.out.trans (b5.mono B4.out.size))
        have hme : Hid (w5.rangeLeft ge r < wr.rangeLeft ge r) := by rw [Hid, R5.out.left_eq, hml.out]; exact hlt2.out
        clear b5 O4 R4 B4 KQ HQ hml hlt2 KX
        go_roundw
        case rel => exact ⟨ds ++ [x], todo', by rw [EF.out]; exact O5.out, R5.out, P3.out, B5.out⟩
        case measure => exact hme.out
      · rw [hq] at HQ
        have EF := Lib.hid (filt_snoc_t (q := (fun e => q (fileV L e.1))) (ds := ds) (x := x) hq)
        go_upto_region 8 with (first
          | (refine wpList_load_row rfl 120 _ (by rfl) gq (by rfl) _ _ _ _ KQ.out underVid rfl infoVid ?_)
          | ((with_reducible refine wpList_calledV hF ?_ ?_ HQ.out ?_); rfl; rfl; rintro e w5 ⟨rfl, b5⟩; refine ⟨_, rfl, ?_⟩; simp only [Act.put, List.setIfInBounds_toArray, List.set_cons_zero, List.set_cons_succ]))
        have O5 := Lib.hid (own_ext O4.out b5)
        have R5 := Lib.hid (R4.out.keep (b5.block ge R4.out.map.lt) (b5.block r R4.out.lt))
        have B5 := Lib.hid (B4.out.trans (b5.mono B4.out.size))
        have KX5 := Lib.hid (KX.out.ext b5)
        clear b5 O4 R4 B4 KQ HQ KX
        have hbs := B5.out.size
        obtain ⟨nf, hnf⟩ : ∃ nf, nf = (ds.filter (fun e => q (fileV L e.1))).length := ⟨_, rfl⟩
        rw [← hnf] at O5 hfd
        replace hnf := Lib.hid hnf
        go_wp2_with (first
          | (refine wpList_load_row rfl 137 _ (by rfl) gx (by rfl) _ _ _ _ KX5.out underEdge rfl infoEdge ?_)
          | (refine wpList_lit1 edgeSl (encE_len x) (by omega) (by rfl) ?_)
          | (at_builtin; refine wpList_pushF edgeSl O5.out (encE x) (encE_len x) (encE_one x) hbs (by omega) (by unfold maxLen; omega) (by rfl) (by rfl) (by rfl) ?_; intro v1 w6 own1 kp hv1))
        have O6 : Hid (w6.ownsRow w.heap.size 137 6 v1 ((ds ++ [x]).filter (fun e => q (fileV L e.1))).length (((ds ++ [x]).filter (fun e => q (fileV L e.1))).flatMap encE)) := by
          rw [Hid, EF.out, List.length_append, List.flatMap_append, ← hnf.out]; simpa using own1
        have R6 : Hid (RangeIs Tryz.prog 137 w6 ge r E todo') := R5.out.keep (kp.block ge R5.out.map.lt fun e => own_ne_map O5.out R5.out.map e rfl) (kp.block r R5.out.lt fun e => own_ne_iter O5.out R5.out e rfl)
        have B6 := Lib.hid (B5.out.trans (kp.below (fun k e => (O5.out.lt k e).1) B5.out.size))
        have hme : Hid (w6.rangeLeft ge r < wr.rangeLeft ge r) := by rw [Hid, R6.out.left_eq, hml.out]; exact hlt2.out
        clear own1 kp hv1 O5 B5 R5 KX5 hml hlt2
        go_roundw
        case rel => exact ⟨ds ++ [x], todo', O6.out, R6.out, P3.out, B6.out⟩
        case measure => exact hme.out
end Go.Proofs.YtihggkmjalofiaaGreatDoor
