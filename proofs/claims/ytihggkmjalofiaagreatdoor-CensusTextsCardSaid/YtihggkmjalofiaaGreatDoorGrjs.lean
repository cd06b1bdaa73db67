/- Texts of general use, one behind another. -/
import Derived.Test.YtihggkmjalofiaaGreatDoorGre
import Derived.Test.YtihggkmjalofiaaGreatDoorVids
import Derived.Test.YtihggkmjalofiaaGreatDoorSort
import Derived.Test.YtihggkmjalofiaaGreatDoorMrc
import Derived.Test.YtihggkmjalofiaaGreatDoorKinds

/- A graph's vertices and steps: the comparisons of the sorts, the library's sorts at them: walked. -/
namespace Go.Proofs.YtihggkmjalofiaaGreatDoor
open Go.RowKit Go.Sort

theorem encX_vid (x : VertV) : ∀ (j : Nat) (v : Value), (encV x.1)[j]? = some v → (encX x).toArray[0 + j]? = some v
 | 0, _, h => h
 | 1, _, h => h
 | 2, _, h => h
 | j + 3, _, h => by simp [encV] at h
set_option maxRecDepth 100000 in
set_option maxHeartbeats 1000000 in
theorem someCmpG (x y : VertV) (w : World) : Calls Tryz.prog 230 #[.agg (encX x).toArray, .agg (encX y).toArray] w (RetG w (.int .i64 (signV (keyX x) (keyX y)))) := by
 have HC := Lib.hid (fun w0 => vcmpG x.1 y.1 w0)
 have B0 : Hid (Grew w ((w.alloc (.cells (encX x).toArray 134)).alloc (.cells (encX y).toArray 134))) := ((Grew.refl _).alloc _).alloc _
 have K1 : Hid (Blk ((w.alloc (.cells (encX x).toArray 134)).alloc (.cells (encX y).toArray 134)) w.heap.size 134 (encX x).toArray) := (Blk.new _ _ _).alloc _
 have K2 : Hid (Blk ((w.alloc (.cells (encX x).toArray 134)).alloc (.cells (encX y).toArray 134)) (w.heap.size + 1) 134 (encX y).toArray) := Blk.newAt (by simp) _ _
 have R1 := Lib.hid (blk_sub K1.out (encX_vid x))
 have R2 := Lib.hid (blk_sub K2.out (encX_vid y))
 have E : Hid (signV (keyX x) (keyX y) = signV (keyV x.1) (keyV y.1)) := rfl
 rw [E.out]
 clear E K1 K2
 generalize signV (keyV x.1) (keyV y.1) = sg at *
 go_enter Tryz.func230, Tryz.ntmps230
 go_wp2_with (first | (refine wpList_load_mid rfl 120 _ rfl _ _ (by rfl) _ _ R1.out underVid rfl infoVid ?_) | (refine wpList_load_mid rfl 120 _ rfl _ _ (by rfl) _ _ R2.out underVid rfl infoVid ?_))
 refine (HC.out _).mono ?_
 rintro e w1 ⟨rfl, b1⟩
 have B1 := Lib.hid (B0.out.trans b1)
 clear b1
 go_wp2
 go_ret
 exact ⟨rfl, B1.out⟩
theorem cmpLaysX (blk off size : Nat) (w : World) : CmpLays Tryz.prog 230 #[] encX 9 (fun x y => signV (keyX x) (keyX y)) blk off size w :=
 fun _ _ _ _ x y => (someCmpG x y _).mono fun _ _ ⟨he, hg⟩ => ⟨he, hg.grow⟩
theorem isAggX (w : World) : (isAgg 134).run Tryz.prog w = .ok true w := by kernel_rfl
theorem sizeX (w : World) : (Go.sizeOf 134).run Tryz.prog w = .ok 9 w := by kernel_rfl
instance : Inhabited VertV := ⟨zeroVert⟩
instance : Inhabited EdgeV := ⟨(vid0, vid0)⟩
theorem sortX (l : List VertV) (w : World) (base n : Nat) (v : Value) (hn : l.length = n) (hm : n ≤ 100000) (h : w.ownsRow base 134 9 v n (l.flatMap encX)) :
  Calls Tryz.prog 229 #[v, .func (.func 230) #[] #[]] w fun e w' => e = .returned (.tuple #[]) ∧ Below base w w' ∧
   ∃ d : List VertV, d.Perm l ∧ (d.Pairwise fun a b => keyX a ≤ keyX b) ∧ w'.ownsRow base 134 9 v n (d.flatMap encX) := by
 rcases h.2 with ⟨rfl, hx⟩ | ⟨g, cap, cur, rfl, hg, hh, hnc, hrest⟩
 ·subst hx
  have hl : l = [] := List.length_eq_zero_iff.1 hn
  subst hl
  refine (AnyF.slices_SortFunc_none Tryz.sortVert none 0 _ w).mono ?_
  rintro e w' ⟨rfl, rfl⟩
  exact ⟨rfl, Below.refl _ _, [], List.Perm.refl _, List.Pairwise.nil, h⟩
 ·have eg : ∀ args w, (callFunc 230 args).run Tryz.prog w = .ok (.enter 230 args) w := enters_of Tryz.func230 (by kernel_rfl) rfl
  have hblk := (h.lt g rfl).2
  have hcon := AnyQ.slices_SortFunc Tryz.sortVert 9 isAggX sizeX encX encX_len encX_one (fun x y => signV (keyX x) (keyX y)) (swo_sign keyX) 230 #[] g 0 cap l.toArray w eg (cmpLaysX g 0 l.toArray.size w) (own_holds encX_len h hn) hblk (by simp only [List.size_toArray]; omega)
  rw [show l.toArray.size = n by simp [hn]] at hcon
  refine Calls.mono hcon ?_
  rintro e w' ⟨rfl, d', m, os, hp, hs, rfl⟩
  obtain ⟨d, rfl⟩ : ∃ d : List VertV, d' = d.toArray := ⟨d'.toList, by simp⟩
  have hp' : PermIn 0 l.toArray.size l.toArray d.toArray := by rw [show l.toArray.size = n by simp [hn]]; exact hp
  obtain ⟨p1, p2⟩ := perm_of_in hp'
  have hs' : SortedIn (ltOf fun x y : VertV => signV (keyX x) (keyX y)) 0 d.length d.toArray := by rw [show d.length = n by omega]; exact hs
  obtain ⟨o1, o2⟩ := own_sorted encX_len h d (by omega) m os
  exact ⟨rfl, o2, d, p1, pair_of_sorted (ltOf_sign keyX) hs', o1⟩
end Go.Proofs.YtihggkmjalofiaaGreatDoor

/- A graph: the vertices, and the steps, of which something holds: walked. -/
namespace Go.Proofs.YtihggkmjalofiaaGreatDoor
open Go.RowKit
open Go.ChangeMaps (setBlock)

theorem own_ne_iter {P : Program} {kt : TypeId} {w : World} {base size n : Nat} {e : TypeId} {v : Value} {xs : List Value} {b r k : Nat} {l todo : List (Value × Value)} (h : w.ownsRow base e size v n xs) (hm : RangeIs P kt w b r l todo) (hk : v.ownBlock = some k) : k ≠ r := by
 rintro rfl
 obtain ⟨cur, hh⟩ := own_type h hk
 obtain ⟨es, clock, since, seen, c0, _, _, _, _, hr, _⟩ := hm
 rw [hh] at hr; cases hr
section
variable {α : Type} {key : α → Int} {pr : α → Value × Value} {id : α → Value}
theorem perm_rise (inj : ∀ x y : α, key x = key y → id x = id y) (hpr : ∀ x, (pr x).1 = id x) {E : List (Value × Value)} {ds d : List α} {q : α → Bool} (hap : E.Pairwise fun a b => a.1 ≠ b.1) (hp : (ds.map pr).Perm E) (hd : d.Perm (ds.filter q)) (hs : d.Pairwise fun a b => key a ≤ key b) : RiseK key d := by
 have h1 : (ds.map pr).Pairwise fun a b => a.1 ≠ b.1 := (hp.pairwise_iff fun h => h.symm).2 hap
 rw [List.pairwise_map] at h1
 have h2 : ds.Pairwise fun a b => id a ≠ id b := h1.imp fun {a b} h => by rw [← hpr, ← hpr]; exact h
 have h3 : (ds.filter q).Pairwise fun a b => id a ≠ id b := h2.sublist List.filter_sublist
 have h4 : d.Pairwise fun a b => id a ≠ id b := (hd.pairwise_iff fun h => h.symm).2 h3
 exact (hs.and h4).imp fun {a b} h => by
  have : key a ≠ key b := fun e => h.2 (inj a b e)
  omega
end
def prX (x : VertV) : Value × Value := (.agg (encV x.1).toArray, .agg (encX x).toArray)
theorem ents_X {L : List PatV} {E : List (Value × Value)} (hE : VertsM L E) : ∀ pr ∈ E, ∃ x, pr = prX x := by
 intro pr hpr
 obtain ⟨v, x, hv, rfl⟩ := (hE pr).1 hpr
 exact ⟨x, by rw [prX, vertV_id hv]⟩
theorem prX_mem {L : List PatV} {E : List (Value × Value)} (hE : VertsM L E) (z : VertV) : prX z ∈ E ↔ vertV L z.1 = some z := by
 rw [hE]
 constructor
 ·rintro ⟨v, x, hv, e⟩
  have e1 : Value.agg (encV z.1).toArray = .agg (encV v).toArray := congrArg Prod.fst e
  have e2 : Value.agg (encX z).toArray = .agg (encX x).toArray := congrArg Prod.snd e
  obtain rfl := encVa_inj e1
  have e3 : encX z = encX x := by
   have := congrArg (fun v => match v with | .agg a => a.toList | _ => []) e2
   exact this
  rw [encX_inj e3] at hv ⊢
  exact hv
 ·intro h
  exact ⟨z.1, z, h, rfl⟩
theorem prX_inj {x y : VertV} (h : prX x = prX y) : x = y := by
 have e2 : Value.agg (encX x).toArray = .agg (encX y).toArray := congrArg Prod.snd h
 refine encX_inj ?_
 have := congrArg (fun v => match v with | .agg a => a.toList | _ => []) e2
 exact this
theorem some_end {L : List PatV} {E : List (Value × Value)} {ds d : List VertV} {q : VertV → Bool} (hG : GrOk L) (hE : VertsM L E) (hap : E.Pairwise fun a b => a.1 ≠ b.1) (hp : (ds.map prX).Perm E) (hd : d.Perm (ds.filter q)) (hs : d.Pairwise fun a b => keyX a ≤ keyX b) : d = (vertsL L).filter q := by
 refine rise_eqX (perm_rise (id := fun x : VertV => .agg (encV x.1).toArray) (fun x y h => by rw [keyV_inj _ _ h]) (fun x => rfl) hap hp hd hs) (hG.verts_rise.sublist List.filter_sublist) fun z => ?_
 rw [hd.mem_iff, List.mem_filter, List.mem_filter, hG.verts, ← prX_mem hE, ← hp.mem_iff, List.mem_map]
 constructor
 ·rintro ⟨h1, h2⟩; exact ⟨⟨z, h1, rfl⟩, h2⟩
 ·rintro ⟨⟨x, h1, e⟩, h2⟩
  obtain rfl := prX_inj e
  exact ⟨h1, h2⟩
theorem filt_snoc_t {α : Type} {q : α → Bool} {ds : List α} {x : α} (h : q x = true) : (ds ++ [x]).filter q = ds.filter q ++ [x] := by rw [List.filter_append]; simp [h]
theorem filt_snoc_f {α : Type} {q : α → Bool} {ds : List α} {x : α} (h : q x = false) : (ds ++ [x]).filter q = ds.filter q := by rw [List.filter_append]; simp [h]
set_option maxRecDepth 100000 in
set_option maxHeartbeats 4000000 in
theorem some20_any {w : World} {F : Nat → Prop} {g : Nat} {L : List PatV} (hI : GraphAt w F g L) (hfew : L.length ≤ 400) (q : VertV → Bool) (f : FuncId) (hF : ∀ args w, (callFunc f args).run Tryz.prog w = .ok (.enter f args) w) (caps : Array Value)
  (HC : ∀ (x : VertV) (wr : World), Below w.heap.size w wr → Calls Tryz.prog f (#[.agg (encX x).toArray] ++ caps) wr (RetB wr (.bool (q x)))) :
  Calls Tryz.prog 147 #[.pointer (some ⟨g, 0, none⟩), .func (.func f) #[] caps] w (OwnedRet w 134 9 ((vertsL L).filter q).length (((vertsL L).filter q).flatMap encX)) := by
 obtain ⟨gm, ge, GC⟩ := hI.mem.cells
 obtain ⟨E, kM, kE, hlen⟩ := GC.map
 have hE8 : E.length ≤ 80000 := by have := hI.ok.opsN; omega
 have KM := Lib.hid kM
 have hgm := Lib.hid kM.lt
 have HK := Lib.hid (ents_X kE)
 have HEND := Lib.hid (fun ds d hp hd hs => some_end (L := L) hI.ok (ds := ds) (d := d) (q := q) kE kM.apart hp hd hs)
 have y1 : w.cell? ⟨g, 64, none⟩ = some (.map (some gm)) := GC.m ⟨w, Below.refl _ _⟩
 have HC := Lib.hid HC
 clear GC kM kE hI
 go_enter Tryz.func147, Tryz.ntmps147
 go_wp2_with (at_range; refine wpList_rangeIs rfl _ 126 rfl _ kMapVert (by rfl) KM.out ?_; intro ob R1)
 go_frame
 have B2 := Lib.hid (below_new w ob)
 have R2 := Lib.hid R1
 clear R1 y1
 generalize w.alloc ob = w2 at *
 generalize hrr : w.heap.size = r at R2 ⊢
 replace hrr := Lib.hid hrr
 have hrw : Hid (w.heap.size ≤ r) := by have := hrr.out; rw [Hid]; omega
 go_loopw [5] (fun v wr => ∃ (ds : List VertV) (todo : List (Value × Value)), Hid (wr.ownsRow w.heap.size 134 9 v (ds.filter q).length ((ds.filter q).flatMap encX)) ∧ Hid (RangeIs Tryz.prog 120 wr gm r E todo) ∧ Hid ((ds.map prX ++ todo).Perm E) ∧ Hid (Below w.heap.size w wr)) (fun _ wr => wr.rangeLeft gm r)
 case atStart => exact ⟨[], E, World.ownsRow_nil _ _ _ _, R2.out, List.Perm.refl _, B2.out⟩
 case round =>
  clear R2 B2
  obtain ⟨ds, todo, OW, R, PM, B⟩ := hrel
  have hlk := PM.out.length_eq
  rw [List.length_append, List.length_map] at hlk
  have hfl := List.length_filter_le q ds
  go_wp2_with (at_next; refine wpList_nextIs rfl _ rfl (by rfl) R.out ?_ ?_)
  ·intro h0
   subst h0
   have hpe : Hid ((ds.map prX).Perm E) := by have := PM.out; rw [List.append_nil] at this; exact this
   have HS := Lib.hid (sortX (ds.filter q) wr w.heap.size _ _ rfl (by omega) OW.out)
   obtain ⟨A9, c9, rfl, _, _⟩ := Sl.of_own OW.out
   clear OW R PM
   generalize (ds.filter q).length = nf at *
   go_wp2_with fail
   refine HS.out.mono ?_
   rintro e w5 ⟨rfl, b5, d, dp, dr, o5⟩
   have e1 := HEND.out ds d hpe.out dp dr
   have B5 := Lib.hid (B.out.trans b5)
   have O5 : Hid (w5.ownsRow w.heap.size 134 9 (.slice A9 nf c9) ((vertsL L).filter q).length (((vertsL L).filter q).flatMap encX)) := by
    have hl := o5.1
    rw [flatMap_len encX d (fun x _ => encX_len x)] at hl
    have : nf = d.length := Nat.eq_of_mul_eq_mul_right (by decide : 0 < 9) hl.symm
    rw [Hid, ← e1, ← this]; exact o5
   clear dp dr o5 b5 HS hpe e1
   go_wp2
   go_ret
   exact ⟨_, rfl, O5.out, B5.out⟩
  ·intro pk pv todo' w3 hp hpl hR3 hB hoth hsz hen
   obtain ⟨x, hx⟩ := HK.out _ hpl
   have hx1 : pk = .agg (encV x.1).toArray := congrArg Prod.fst hx
   have hx2 : pv = .agg (encX x).toArray := congrArg Prod.snd hx
   subst hx1 hx2
   have O3 : Hid (w3.ownsRow w.heap.size 134 9 _ (ds.filter q).length ((ds.filter q).flatMap encX)) := own_keepF OW.out fun k e => hoth k (own_ne_iter OW.out R.out e)
   have B3 := Lib.hid (B.out.trans (hB w.heap.size hrw.out))
   have hpl2 := hp.length_eq
   simp only [List.length_cons] at hpl2
   have P3 : Hid (((ds ++ [x]).map prX ++ todo').Perm E) := by
    refine List.Perm.trans ?_ PM.out
    rw [List.map_append, List.append_assoc]
    exact (hp.symm.append_left _)
   have R3 := Lib.hid hR3
   have hml : Hid (wr.rangeLeft gm r = todo.length) := R.out.left_eq
   have hlt2 : Hid (todo'.length < todo.length) := by rw [Hid]; omega
   clear hp hR3 hpl hB hoth hsz OW R B PM hx hpl2
   have KZ : Hid (Blk (w3.alloc (.cells zeroX 134)) w3.heap.size 134 zeroX) := Blk.new _ _ _
   have KX : Hid (Blk ((w3.alloc (.cells zeroX 134)).setRow w3.heap.size (encX x).toArray) w3.heap.size 134 (encX x).toArray) := KZ.out.row _
   have BN : Hid (Below w3.heap.size w3 ((w3.alloc (.cells zeroX 134)).setRow w3.heap.size (encX x).toArray)) := below_setRow (below_new w3 _) (Nat.le_refl _) _
   have O4 := Lib.hid (own_ext O3.out BN.out)
   have R4 := Lib.hid (R3.out.keep (BN.out.block gm R3.out.map.lt) (BN.out.block r R3.out.lt))
   have B4 := Lib.hid (B3.out.trans (BN.out.mono B3.out.size))
   go_upto_region 7 with (first
    | (refine wpList_alloced (allocVert _) ?_)
    | (refine wpList_store_row rfl 134 _ _ (by rfl) w3.heap.size (encX x).toArray (by rfl) (by rfl) _ _ KZ.out infoVert rfl (encX_all _) ?_))
   generalize ((w3.alloc (.cells zeroX 134)).setRow w3.heap.size (encX x).toArray) = w4 at *
   clear KZ BN O3 R3 B3 hen
   generalize w3.heap.size = gx at *
   have KQ := Lib.hid KX.out
   have HQ := Lib.hid (HC.out x w4 B4.out)
   have hfd := (List.length_filter_le q ds)
   cases hq : q x
   ·rw [hq] at HQ
    have EF := Lib.hid (filt_snoc_f (q := q) (ds := ds) (x := x) hq)
    go_wp2_with (first
     | (refine wpList_load_row rfl 134 _ (by rfl) gx (by rfl) _ _ _ _ KQ.out underVert rfl infoVert ?_)
     | ((with_reducible refine wpList_calledV hF ?_ ?_ HQ.out ?_); rfl; rfl; rintro e w5 ⟨rfl, b5⟩; refine ⟨_, rfl, ?_⟩; simp only [Act.put, List.setIfInBounds_toArray, List.set_cons_zero, List.set_cons_succ]))
    have O5 := Lib.hid (own_ext O4.out b5)
    have R5 := Lib.hid (R4.out.keep (b5.block gm R4.out.map.lt) (b5.block r R4.out.lt))
    have B5 := Lib.hid (B4.out.trans (b5.mono B4.out.size))
    have hme : Hid (w5.rangeLeft gm r < wr.rangeLeft gm r) := by rw [Hid, R5.out.left_eq, hml.out]; exact hlt2.out
    clear b5 O4 R4 B4 KQ HQ hml hlt2 KX
    go_roundw
    case rel => exact ⟨ds ++ [x], todo', by rw [EF.out]; exact O5.out, R5.out, P3.out, B5.out⟩
    case measure => exact hme.out
   ·rw [hq] at HQ
    have EF := Lib.hid (filt_snoc_t (q := q) (ds := ds) (x := x) hq)
    go_upto_region 8 with (first
     | (refine wpList_load_row rfl 134 _ (by rfl) gx (by rfl) _ _ _ _ KQ.out underVert rfl infoVert ?_)
     | ((with_reducible refine wpList_calledV hF ?_ ?_ HQ.out ?_); rfl; rfl; rintro e w5 ⟨rfl, b5⟩; refine ⟨_, rfl, ?_⟩; simp only [Act.put, List.setIfInBounds_toArray, List.set_cons_zero, List.set_cons_succ]))
    have O5 := Lib.hid (own_ext O4.out b5)
    have R5 := Lib.hid (R4.out.keep (b5.block gm R4.out.map.lt) (b5.block r R4.out.lt))
    have B5 := Lib.hid (B4.out.trans (b5.mono B4.out.size))
    have KX5 := Lib.hid (KX.out.ext b5)
    clear b5 O4 R4 B4 KQ HQ KX
    have hbs := B5.out.size
    obtain ⟨nf, hnf⟩ : ∃ nf, nf = (ds.filter q).length := ⟨_, rfl⟩
    rw [← hnf] at O5 hfd
    replace hnf := Lib.hid hnf
    go_wp2_with (first
     | (refine wpList_load_row rfl 134 _ (by rfl) gx (by rfl) _ _ _ _ KX5.out underVert rfl infoVert ?_)
     | (refine wpList_lit1 vertSl (encX_len x) (by omega) (by rfl) ?_)
     | (at_builtin; refine wpList_pushF vertSl O5.out (encX x) (encX_len x) (encX_one x) hbs (by omega) (by unfold maxLen; omega) (by rfl) (by rfl) (by rfl) ?_; intro v1 w6 own1 kp hv1))
    have O6 : Hid (w6.ownsRow w.heap.size 134 9 v1 ((ds ++ [x]).filter q).length (((ds ++ [x]).filter q).flatMap encX)) := by
     rw [Hid, EF.out, List.length_append, List.flatMap_append, ← hnf.out]; simpa using own1
    have R6 : Hid (RangeIs Tryz.prog 120 w6 gm r E todo') := R5.out.keep (kp.block gm R5.out.map.lt fun e => own_ne_map O5.out R5.out.map e rfl) (kp.block r R5.out.lt fun e => own_ne_iter O5.out R5.out e rfl)
    have B6 := Lib.hid (B5.out.trans (kp.below (fun k e => (O5.out.lt k e).1) B5.out.size))
    have hme : Hid (w6.rangeLeft gm r < wr.rangeLeft gm r) := by rw [Hid, R6.out.left_eq, hml.out]; exact hlt2.out
    clear own1 kp hv1 O5 B5 R5 KX5 hml hlt2
    go_roundw
    case rel => exact ⟨ds ++ [x], todo', O6.out, R6.out, P3.out, B6.out⟩
    case measure => exact hme.out
end Go.Proofs.YtihggkmjalofiaaGreatDoor

/- A graph: all vertices, those of a file, all files; all steps, those of a file: walked. -/
namespace Go.Proofs.YtihggkmjalofiaaGreatDoor
open Go.RowKit

set_option maxRecDepth 100000 in
set_option maxHeartbeats 1000000 in
theorem verts1_any (x : VertV) (w : World) : Calls Tryz.prog 148 #[.agg (encX x).toArray] w (RetB w (.bool true)) := by
 have B0 : Hid (Below w.heap.size w (w.alloc (.cells (encX x).toArray 134))) := below_new _ _
 go_enter Tryz.func148, Tryz.ntmps148
 go_wp2
 go_ret
 exact ⟨rfl, B0.out⟩
section
variable {w : World} {F : Nat → Prop} {g : Nat} {L : List PatV}
set_option maxRecDepth 100000 in
set_option maxHeartbeats 1000000 in
theorem verts20_any (hI : GraphAt w F g L) (hfew : L.length ≤ 400) : Calls Tryz.prog 71 #[.pointer (some ⟨g, 0, none⟩)] w (OwnedRet w 134 9 (vertsL L).length ((vertsL L).flatMap encX)) := by
 have HS := some20_any hI hfew (fun _ => true) 148 (enters_of Tryz.func148 (by kernel_rfl) rfl) #[] fun x wr _ => verts1_any x wr
 have e : (vertsL L).filter (fun _ => true) = vertsL L := List.filter_eq_self.2 fun _ _ => rfl
 rw [e] at HS
 have HS := Lib.hid HS
 clear hI
 go_enter Tryz.func71, Tryz.ntmps71
 go_wp2_with fail
 refine HS.out.mono ?_
 rintro e w2 ⟨v, rfl, o, b⟩
 have O := Lib.hid o
 have B := Lib.hid b
 clear o b HS
 go_wp2
 go_ret
 exact ⟨_, rfl, O.out, B.out⟩
theorem vertsL_few (hG : GrOk L) (hfew : L.length ≤ 400) : (vertsL L).length ≤ 80000 := by
 have h1 : (vertsL L).length ≤ (idsOf L).length := by unfold vertsL idsL; rw [List.length_map]; exact setK_len _
 have h2 : (idsOf L).length ≤ opsN L := by
  unfold idsOf opsN
  have : ∀ M : List PatV, (M.flatMap idsP).length ≤ (M.map fun p => p.2.2.length).sum := by
   intro M
   induction M with
   | nil => simp
   | cons p M ih =>
    rw [List.flatMap_cons, List.length_append, List.map_cons, List.sum_cons]
    have : (idsP p).length ≤ p.2.2.length := by
     unfold idsP
     refine Nat.le_trans (List.length_filterMap_le _ _) ?_
     rw [List.length_range]
     exact Nat.le_refl _
    omega
  exact this L
 have := hG.opsN
 omega
end
end Go.Proofs.YtihggkmjalofiaaGreatDoor

/- Two graphs that hold the same are the same: graph.Same, walked for that case. -/
namespace Go.Proofs.YtihggkmjalofiaaGreatDoor
open Go.RowKit

/-- vertices in a slice -/
structure VertsAt (w : World) (A : Option Addr) (n : Nat) (l : List VertV) : Prop where
 len : l.length = n
 sl : Sl w w.heap.size 9 A n (l.flatMap encX)
theorem VertsAt.ext {w w' : World} {A : Option Addr} {n : Nat} {l : List VertV} (h : VertsAt w A n l) (hb : Below w.heap.size w w') : VertsAt w' A n l := ⟨h.len, (h.sl.below hb (Nat.le_refl _)).more hb.size⟩
theorem VertsAt.at_ {w : World} {A : Option Addr} {n : Nat} {l : List VertV} (h : VertsAt w A n l) {k : Nat} (hk : k < n) : ∃ b o x, A = some ⟨b, o, none⟩ ∧ b < w.heap.size ∧ l[k]? = some x ∧ w.rangeAt b (o + k * 9) (encX x) := by
 have hk' : k < l.length := by rw [h.len]; exact hk
 obtain ⟨b, o, e, hb, hr⟩ := h.sl.rowAt h.len (fun x _ => encX_len x) hk'
 exact ⟨b, o, l[k], e, hb, List.getElem?_eq_getElem hk', hr⟩
theorem VertsAt.of_own {w : World} {base n : Nat} {v : Value} {l : List VertV} (h : w.ownsRow base 134 9 v n (l.flatMap encX)) (hn : l.length = n) : ∃ A c, v = .slice A n c ∧ n ≤ c ∧ VertsAt w A n l := by
 obtain ⟨A, c, rfl, hc, hs⟩ := Sl.of_own h
 exact ⟨A, c, rfl, hc, hn, hs⟩
/-- steps in a slice -/
structure EdgesAt (w : World) (A : Option Addr) (n : Nat) (l : List EdgeV) : Prop where
 len : l.length = n
 sl : Sl w w.heap.size 6 A n (l.flatMap encE)
theorem EdgesAt.ext {w w' : World} {A : Option Addr} {n : Nat} {l : List EdgeV} (h : EdgesAt w A n l) (hb : Below w.heap.size w w') : EdgesAt w' A n l := ⟨h.len, (h.sl.below hb (Nat.le_refl _)).more hb.size⟩
theorem EdgesAt.at_ {w : World} {A : Option Addr} {n : Nat} {l : List EdgeV} (h : EdgesAt w A n l) {k : Nat} (hk : k < n) : ∃ b o x, A = some ⟨b, o, none⟩ ∧ b < w.heap.size ∧ l[k]? = some x ∧ w.rangeAt b (o + k * 6) (encE x) := by
 have hk' : k < l.length := by rw [h.len]; exact hk
 obtain ⟨b, o, e, hb, hr⟩ := h.sl.rowAt h.len (fun x _ => encE_len x) hk'
 exact ⟨b, o, l[k], e, hb, List.getElem?_eq_getElem hk', hr⟩
theorem EdgesAt.of_own {w : World} {base n : Nat} {v : Value} {l : List EdgeV} (h : w.ownsRow base 137 6 v n (l.flatMap encE)) (hn : l.length = n) : ∃ A c, v = .slice A n c ∧ n ≤ c ∧ EdgesAt w A n l := by
 obtain ⟨A, c, rfl, hc, hs⟩ := Sl.of_own h
 exact ⟨A, c, rfl, hc, hn, hs⟩
end Go.Proofs.YtihggkmjalofiaaGreatDoor
