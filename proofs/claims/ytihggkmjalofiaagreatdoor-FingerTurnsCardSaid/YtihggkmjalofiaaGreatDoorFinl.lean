/- A graph's copy: walked. -/
import Derived.Test.YtihggkmjalofiaaGreatDoorGre
import Derived.Test.YtihggkmjalofiaaGreatDoorGrk
import Derived.Test.YtihggkmjalofiaaGreatDoorGri
import Derived.Test.YtihggkmjalofiaaGreatDoorGen
import Derived.Test.YtihggkmjalofiaaGreatDoorVids
namespace Go.Proofs.YtihggkmjalofiaaGreatDoor
open Go.RowKit
open Go.ChangeMaps (setBlock)

theorem PutL.fresh {l l' : List (Value × Value)} {key val : Value} (h : PutL l key val l') (hn : ∀ p ∈ l, p.1 ≠ key) : l' = l ++ [(key, val)] := by
  rcases h with ⟨_, e⟩ | ⟨j, v0, hj, _⟩
  · exact e
  · exact absurd rfl (hn _ (List.mem_of_getElem? hj))
/-- the entries of a map are put into an empty one -/
def CopyMRet (w : World) (T : TypeId) (gd : Nat) (E : List (Value × Value)) (e : Ending) (w' : World) : Prop :=
  e = .returned (.tuple #[]) ∧ Kept (fun k => k = gd) w w' ∧ ∃ E', MapIs Tryz.prog T w' gd E' ∧ E'.Perm E
set_option maxRecDepth 100000 in
set_option maxHeartbeats 4000000 in
theorem mcopyV_any {w : World} {gs gd : Nat} {L : List PatV} {E : List (Value × Value)} (hs : MapIs Tryz.prog 120 w gs E) (hd : MapIs Tryz.prog 120 w gd []) (hne : gd ≠ gs) (hE : VertsM L E) :
    Calls Tryz.prog 77 #[.map (some gd), .map (some gs)] w (CopyMRet w 120 gd E) := by
  have KM := Lib.hid hs
  have KD := Lib.hid hd
  have HK := Lib.hid (ents_X hE)
  have HAP := Lib.hid hs.apart
  have hgd := Lib.hid hd.lt
  have hne := Lib.hid hne
  clear hs hd hE
  go_enter Tryz.func77, Tryz.ntmps77
  go_wp2_with (at_range; refine wpList_rangeIs rfl _ 126 rfl _ kMapVert (by rfl) KM.out ?_; intro ob R1)
  go_frame
  have B2 := Lib.hid (below_new w ob)
  have R2 := Lib.hid R1
  have D2 := Lib.hid (KD.out.ext B2.out)
  have K2 : Hid (Kept (fun k => k = gd) w (w.alloc ob)) := Kept.of_below B2.out
  clear R1 B2 KD KM
  generalize w.alloc ob = w2 at *
  generalize hrr : w.heap.size = r at R2 ⊢
  have hrw : Hid (w.heap.size ≤ r) := by rw [Hid]; omega
  have hrd : Hid (gd ≠ r) := by have := hgd.out; rw [Hid]; omega
  replace hrr := Lib.hid hrr
  go_loopw [] (fun wr => ∃ (dn todo : List (Value × Value)), Hid (MapIs Tryz.prog 120 wr gd dn) ∧ Hid (RangeIs Tryz.prog 120 wr gs r E todo) ∧ Hid ((dn ++ todo).Perm E) ∧ Hid (Kept (fun k => k = gd) w wr)) (fun wr => wr.rangeLeft gs r)
  case atStart => exact ⟨[], E, D2.out, R2.out, List.Perm.refl _, K2.out⟩
  case round =>
    clear R2 K2 D2
    obtain ⟨dn, todo, D, R, PM, K⟩ := hrel
    go_wp2_with (at_next; refine wpList_nextIs rfl _ rfl (by rfl) R.out ?_ ?_)
    · intro h0
      subst h0
      have hpe : Hid (dn.Perm E) := by have := PM.out; rw [List.append_nil] at this; exact this
      clear R PM
      go_wp2
      go_end0
      exact ⟨rfl, K.out, dn, D.out, hpe.out⟩
    · intro pk pv todo' w3 hp hpl hR3 hB hoth hsz hen
      obtain ⟨x, hx⟩ := HK.out _ hpl
      have hx1 : pk = .agg (encV x.1).toArray := congrArg Prod.fst hx
      have hx2 : pv = .agg (encX x).toArray := congrArg Prod.snd hx
      subst hx1 hx2
      have P3 : Hid (((dn ++ [((.agg (encV x.1).toArray : Value), (.agg (encX x).toArray : Value))]) ++ todo').Perm E) := by
        refine List.Perm.trans ?_ PM.out
        rw [List.append_assoc]
        exact (hp.symm.append_left _)
      have hfr : Hid (∀ q ∈ dn, q.1 ≠ .agg (encV x.1).toArray) := by
        have h1 := (P3.out.pairwise_iff (R := fun a b : Value × Value => a.1 ≠ b.1) fun h => h.symm).2 HAP.out
        rw [List.append_assoc] at h1
        have h2 := (List.pairwise_append.1 h1).2.2
        exact fun q hq => h2 q hq (.agg (encV x.1).toArray, .agg (encX x).toArray) (by simp)
      have hpl2 := hp.length_eq
      simp only [List.length_cons] at hpl2
      have D3 : Hid (MapIs Tryz.prog 120 w3 gd dn) := D.out.keep (hoth gd hrd.out)
      have K3 : Hid (Kept (fun k => k = gd) w w3) := K.out.trans (G := fun k => k = r) ⟨(hB 0 (Nat.zero_le _)).os, (hB 0 (Nat.zero_le _)).tape, (hB 0 (Nat.zero_le _)).output, by omega, fun k _ hk => hoth k hk⟩ fun k e => .inr (by rw [e]; exact hrw.out)
      have R3 := Lib.hid hR3
      have hml : Hid (wr.rangeLeft gs r = todo.length) := R.out.left_eq
      have hlt2 : Hid (todo'.length < todo.length) := by rw [Hid]; omega
      clear hp hR3 hpl hB hoth hsz K R D PM hx hpl2
      obtain ⟨w3a, hw3a⟩ : ∃ u, u = w3.alloc (.cells (encV vid0).toArray 120) := ⟨_, rfl⟩
      have KZ : Hid (Blk ((w3.alloc (.cells (encV vid0).toArray 120)).alloc (.cells zeroX 134)) w3.heap.size 120 (encV vid0).toArray) := (Blk.new _ _ _).alloc _
      have VZ : Hid (Blk ((w3.alloc (.cells (encV vid0).toArray 120)).alloc (.cells zeroX 134)) (w3.alloc (.cells (encV vid0).toArray 120)).heap.size 134 zeroX) := Blk.new _ _ _
      have hkv : Hid ((w3.alloc (.cells (encV vid0).toArray 120)).heap.size ≠ w3.heap.size) := by rw [Hid]; simp
      have KY : Hid (Blk (((w3.alloc (.cells (encV vid0).toArray 120)).alloc (.cells zeroX 134)).setRow w3.heap.size (encV x.1).toArray) w3.heap.size 120 (encV x.1).toArray) := KZ.out.row _
      have VY : Hid (Blk (((w3.alloc (.cells (encV vid0).toArray 120)).alloc (.cells zeroX 134)).setRow w3.heap.size (encV x.1).toArray) (w3.alloc (.cells (encV vid0).toArray 120)).heap.size 134 zeroX) := VZ.out.rowFar hkv.out _
      have KX : Hid (Blk ((((w3.alloc (.cells (encV vid0).toArray 120)).alloc (.cells zeroX 134)).setRow w3.heap.size (encV x.1).toArray).setRow (w3.alloc (.cells (encV vid0).toArray 120)).heap.size (encX x).toArray) w3.heap.size 120 (encV x.1).toArray) := KY.out.rowFar (Ne.symm hkv.out) _
      have VX : Hid (Blk ((((w3.alloc (.cells (encV vid0).toArray 120)).alloc (.cells zeroX 134)).setRow w3.heap.size (encV x.1).toArray).setRow (w3.alloc (.cells (encV vid0).toArray 120)).heap.size (encX x).toArray) (w3.alloc (.cells (encV vid0).toArray 120)).heap.size 134 (encX x).toArray) := VY.out.row _
      have BN : Hid (Below w3.heap.size w3 ((((w3.alloc (.cells (encV vid0).toArray 120)).alloc (.cells zeroX 134)).setRow w3.heap.size (encV x.1).toArray).setRow (w3.alloc (.cells (encV vid0).toArray 120)).heap.size (encX x).toArray)) := below_setRow (below_setRow (((Below.refl _ _).alloc (Nat.le_refl _) _).alloc (by simp) _) (Nat.le_refl _) _) (by simp) _
      clear hw3a w3a
      go_upto_region 3 with (first
        | (refine wpList_alloced (allocVidZ _) ?_)
        | (refine wpList_alloced (allocVert _) ?_)
        | (refine wpList_store_row rfl 120 _ _ (by rfl) w3.heap.size (encV x.1).toArray (by rfl) (by rfl) _ _ KZ.out infoVid rfl (encV_all _) ?_)
        | (refine wpList_store_row rfl 134 _ _ (by rfl) (w3.alloc (.cells (encV vid0).toArray 120)).heap.size (encX x).toArray (by rfl) (by rfl) _ _ VY.out infoVert rfl (encX_all _) ?_))
      generalize ((((w3.alloc (.cells (encV vid0).toArray 120)).alloc (.cells zeroX 134)).setRow w3.heap.size (encV x.1).toArray).setRow (w3.alloc (.cells (encV vid0).toArray 120)).heap.size (encX x).toArray) = w4 at *
      clear KZ VZ KY VY hen
      have D4 := Lib.hid (D3.out.ext BN.out)
      have R4 := Lib.hid (R3.out.keep (BN.out.block gs R3.out.map.lt) (BN.out.block r R3.out.lt))
      have K4 := Lib.hid (K3.out.then BN.out)
      generalize (w3.alloc (.cells (encV vid0).toArray 120)).heap.size = gv at *
      generalize w3.heap.size = gk at *
      obtain ⟨kl, hkl⟩ := kKeyV x.1
      obtain ⟨ob, E', hrun, hput, hM'⟩ := D4.out.put (val := .agg (encX x).toArray) kLawV kMapVert hkl
      obtain rfl := hput.fresh hfr.out
      have D5 := Lib.hid hM'
      have R5 : Hid (RangeIs Tryz.prog 120 (setBlock w4 gd ob) gs r E todo') := R4.out.keep (setBlock_other (Ne.symm hne.out)) (setBlock_other (Ne.symm hrd.out))
      have K5 : Hid (Kept (fun k => k = gd) w (setBlock w4 gd ob)) := K4.out.setBlock (.inl rfl) ob
      have hrun := Lib.hid hrun
      clear hM' hput D4 R4 K4 BN D3 R3 K3 hkl hfr
      go_wp2_with (first
        | (refine wpList_load_row rfl 120 _ (by rfl) gk (by rfl) _ _ _ _ KX.out underVid rfl infoVid ?_)
        | (refine wpList_load_row rfl 134 _ (by rfl) gv (by rfl) _ _ _ _ VX.out underVert rfl infoVert ?_)
        | (refine wpList_mapput (by rfl) (by rfl) (by rfl) hrun.out ?_))
      generalize setBlock w4 gd ob = w5 at *
      have hme : Hid (w5.rangeLeft gs r < wr.rangeLeft gs r) := by rw [Hid, R5.out.left_eq, hml.out]; exact hlt2.out
      clear hrun KX VX hml hlt2
      go_roundw
      case rel => exact ⟨_, _, _, _, _, _, _, _, _, _, ⟨_, todo', D5.out, R5.out, P3.out, K5.out⟩, rfl⟩
      case measure => exact hme.out
set_option maxRecDepth 100000 in
set_option maxHeartbeats 4000000 in
theorem mcopyE_any {w : World} {gs gd : Nat} {L : List PatV} {E : List (Value × Value)} (hs : MapIs Tryz.prog 137 w gs E) (hd : MapIs Tryz.prog 137 w gd []) (hne : gd ≠ gs) (hE : EdgesM L E) :
    Calls Tryz.prog 78 #[.map (some gd), .map (some gs)] w (CopyMRet w 137 gd E) := by
  have KM := Lib.hid hs
  have KD := Lib.hid hd
  have HK := Lib.hid (ents_E hE)
  have HAP := Lib.hid hs.apart
  have hgd := Lib.hid hd.lt
  have hne := Lib.hid hne
  clear hs hd hE
  go_enter Tryz.func78, Tryz.ntmps78
  go_wp2_with (at_range; refine wpList_rangeIs rfl _ 127 rfl _ kMapEdge (by rfl) KM.out ?_; intro ob R1)
  go_frame
  have B2 := Lib.hid (below_new w ob)
  have R2 := Lib.hid R1
  have D2 := Lib.hid (KD.out.ext B2.out)
  have K2 : Hid (Kept (fun k => k = gd) w (w.alloc ob)) := Kept.of_below B2.out
  clear R1 B2 KD KM
  generalize w.alloc ob = w2 at *
  generalize hrr : w.heap.size = r at R2 ⊢
  have hrw : Hid (w.heap.size ≤ r) := by rw [Hid]; omega
  have hrd : Hid (gd ≠ r) := by have := hgd.out; rw [Hid]; omega
  replace hrr := Lib.hid hrr
  go_loopw [] (fun wr => ∃ (dn todo : List (Value × Value)), Hid (MapIs Tryz.prog 137 wr gd dn) ∧ Hid (RangeIs Tryz.prog 137 wr gs r E todo) ∧ Hid ((dn ++ todo).Perm E) ∧ Hid (Kept (fun k => k = gd) w wr)) (fun wr => wr.rangeLeft gs r)
  case atStart => exact ⟨[], E, D2.out, R2.out, List.Perm.refl _, K2.out⟩
  case round =>
    clear R2 K2 D2
    obtain ⟨dn, todo, D, R, PM, K⟩ := hrel
    go_wp2_with (at_next; refine wpList_nextIs rfl _ rfl (by rfl) R.out ?_ ?_)
    · intro h0
      subst h0
      have hpe : Hid (dn.Perm E) := by have := PM.out; rw [List.append_nil] at this; exact this
      clear R PM
      go_wp2
      go_end0
      exact ⟨rfl, K.out, dn, D.out, hpe.out⟩
    · intro pk pv todo' w3 hp hpl hR3 hB hoth hsz hen
      obtain ⟨x, hx⟩ := HK.out _ hpl
      have hx1 : pk = .agg (encE x).toArray := congrArg Prod.fst hx
      have hx2 : pv = .agg (encV (fileV L x.1)).toArray := congrArg Prod.snd hx
      subst hx1 hx2
      have P3 : Hid (((dn ++ [((.agg (encE x).toArray : Value), (.agg (encV (fileV L x.1)).toArray : Value))]) ++ todo').Perm E) := by
        refine List.Perm.trans ?_ PM.out
        rw [List.append_assoc]
        exact (hp.symm.append_left _)
      have hfr : Hid (∀ q ∈ dn, q.1 ≠ .agg (encE x).toArray) := by
        have h1 := (P3.out.pairwise_iff (R := fun a b : Value × Value => a.1 ≠ b.1) fun h => h.symm).2 HAP.out
        rw [List.append_assoc] at h1
        have h2 := (List.pairwise_append.1 h1).2.2
        exact fun q hq => h2 q hq (.agg (encE x).toArray, .agg (encV (fileV L x.1)).toArray) (by simp)
      have hpl2 := hp.length_eq
      simp only [List.length_cons] at hpl2
      have D3 : Hid (MapIs Tryz.prog 137 w3 gd dn) := D.out.keep (hoth gd hrd.out)
      have K3 : Hid (Kept (fun k => k = gd) w w3) := K.out.trans (G := fun k => k = r) ⟨(hB 0 (Nat.zero_le _)).os, (hB 0 (Nat.zero_le _)).tape, (hB 0 (Nat.zero_le _)).output, by omega, fun k _ hk => hoth k hk⟩ fun k e => .inr (by rw [e]; exact hrw.out)
      have R3 := Lib.hid hR3
      have hml : Hid (wr.rangeLeft gs r = todo.length) := R.out.left_eq
      have hlt2 : Hid (todo'.length < todo.length) := by rw [Hid]; omega
      clear hp hR3 hpl hB hoth hsz K R D PM hx hpl2
      obtain ⟨w3a, hw3a⟩ : ∃ u, u = w3.alloc (.cells (encE (vid0, vid0)).toArray 137) := ⟨_, rfl⟩
      have KZ : Hid (Blk ((w3.alloc (.cells (encE (vid0, vid0)).toArray 137)).alloc (.cells (encV vid0).toArray 120)) w3.heap.size 137 (encE (vid0, vid0)).toArray) := (Blk.new _ _ _).alloc _
      have VZ : Hid (Blk ((w3.alloc (.cells (encE (vid0, vid0)).toArray 137)).alloc (.cells (encV vid0).toArray 120)) (w3.alloc (.cells (encE (vid0, vid0)).toArray 137)).heap.size 120 (encV vid0).toArray) := Blk.new _ _ _
      have hkv : Hid ((w3.alloc (.cells (encE (vid0, vid0)).toArray 137)).heap.size ≠ w3.heap.size) := by rw [Hid]; simp
      have KY : Hid (Blk (((w3.alloc (.cells (encE (vid0, vid0)).toArray 137)).alloc (.cells (encV vid0).toArray 120)).setRow w3.heap.size (encE x).toArray) w3.heap.size 137 (encE x).toArray) := KZ.out.row _
      have VY : Hid (Blk (((w3.alloc (.cells (encE (vid0, vid0)).toArray 137)).alloc (.cells (encV vid0).toArray 120)).setRow w3.heap.size (encE x).toArray) (w3.alloc (.cells (encE (vid0, vid0)).toArray 137)).heap.size 120 (encV vid0).toArray) := VZ.out.rowFar hkv.out _
      have KX : Hid (Blk ((((w3.alloc (.cells (encE (vid0, vid0)).toArray 137)).alloc (.cells (encV vid0).toArray 120)).setRow w3.heap.size (encE x).toArray).setRow (w3.alloc (.cells (encE (vid0, vid0)).toArray 137)).heap.size (encV (fileV L x.1)).toArray) w3.heap.size 137 (encE x).toArray) := KY.out.rowFar (Ne.symm hkv.out) _
      have VX : Hid (Blk ((((w3.alloc (.cells (encE (vid0, vid0)).toArray 137)).alloc (.cells (encV vid0).toArray 120)).setRow w3.heap.size (encE x).toArray).setRow (w3.alloc (.cells (encE (vid0, vid0)).toArray 137)).heap.size (encV (fileV L x.1)).toArray) (w3.alloc (.cells (encE (vid0, vid0)).toArray 137)).heap.size 120 (encV (fileV L x.1)).toArray) := VY.out.row _
      have BN : Hid (Below w3.heap.size w3 ((((w3.alloc (.cells (encE (vid0, vid0)).toArray 137)).alloc (.cells (encV vid0).toArray 120)).setRow w3.heap.size (encE x).toArray).setRow (w3.alloc (.cells (encE (vid0, vid0)).toArray 137)).heap.size (encV (fileV L x.1)).toArray)) := below_setRow (below_setRow (((Below.refl _ _).alloc (Nat.le_refl _) _).alloc (by simp) _) (Nat.le_refl _) _) (by simp) _
      clear hw3a w3a
      go_upto_region 3 with (first
        | (refine wpList_alloced (allocEdge _) ?_)
        | (refine wpList_alloced (allocVidZ _) ?_)
        | (refine wpList_store_row rfl 137 _ _ (by rfl) w3.heap.size (encE x).toArray (by rfl) (by rfl) _ _ KZ.out infoEdge rfl (encE_all _) ?_)
        | (refine wpList_store_row rfl 120 _ _ (by rfl) (w3.alloc (.cells (encE (vid0, vid0)).toArray 137)).heap.size (encV (fileV L x.1)).toArray (by rfl) (by rfl) _ _ VY.out infoVid rfl (encV_all _) ?_))
      generalize ((((w3.alloc (.cells (encE (vid0, vid0)).toArray 137)).alloc (.cells (encV vid0).toArray 120)).setRow w3.heap.size (encE x).toArray).setRow (w3.alloc (.cells (encE (vid0, vid0)).toArray 137)).heap.size (encV (fileV L x.1)).toArray) = w4 at *
      clear KZ VZ KY VY hen
      have D4 := Lib.hid (D3.out.ext BN.out)
      have R4 := Lib.hid (R3.out.keep (BN.out.block gs R3.out.map.lt) (BN.out.block r R3.out.lt))
      have K4 := Lib.hid (K3.out.then BN.out)
      generalize (w3.alloc (.cells (encE (vid0, vid0)).toArray 137)).heap.size = gv at *
      generalize w3.heap.size = gk at *
      obtain ⟨kl, hkl⟩ := kKeyE x
      obtain ⟨ob, E', hrun, hput, hM'⟩ := D4.out.put (val := .agg (encV (fileV L x.1)).toArray) kLawE kMapEdge hkl
      obtain rfl := hput.fresh hfr.out
      have D5 := Lib.hid hM'
      have R5 : Hid (RangeIs Tryz.prog 137 (setBlock w4 gd ob) gs r E todo') := R4.out.keep (setBlock_other (Ne.symm hne.out)) (setBlock_other (Ne.symm hrd.out))
      have K5 : Hid (Kept (fun k => k = gd) w (setBlock w4 gd ob)) := K4.out.setBlock (.inl rfl) ob
      have hrun := Lib.hid hrun
      clear hM' hput D4 R4 K4 BN D3 R3 K3 hkl hfr
      go_wp2_with (first
        | (refine wpList_load_row rfl 137 _ (by rfl) gk (by rfl) _ _ _ _ KX.out underEdge rfl infoEdge ?_)
        | (refine wpList_load_row rfl 120 _ (by rfl) gv (by rfl) _ _ _ _ VX.out underVid rfl infoVid ?_)
        | (refine wpList_mapput (by rfl) (by rfl) (by rfl) hrun.out ?_))
      generalize setBlock w4 gd ob = w5 at *
      have hme : Hid (w5.rangeLeft gs r < wr.rangeLeft gs r) := by rw [Hid, R5.out.left_eq, hml.out]; exact hlt2.out
      clear hrun KX VX hml hlt2
      go_roundw
      case rel => exact ⟨_, _, _, _, _, _, _, _, _, _, ⟨_, todo', D5.out, R5.out, P3.out, K5.out⟩, rfl⟩
      case measure => exact hme.out
def CopyGRet (w : World) (L : List PatV) (e : Ending) (w' : World) : Prop := ∃ F' g', e = .returned (.pointer (some ⟨g', 0, none⟩)) ∧ GraphAt w' F' g' L ∧ (∀ k, F' k → w.heap.size ≤ k) ∧ Below w.heap.size w w'
set_option maxRecDepth 100000 in
set_option maxHeartbeats 4000000 in
theorem gcopy_any {w : World} {F : Nat → Prop} {g : Nat} {L : List PatV} (hI : GraphAt w F g L) : Calls Tryz.prog 17 #[.pointer (some ⟨g, 0, none⟩)] w (CopyGRet w L) := by
  have hok := Lib.hid hI.ok
  obtain ⟨hlt, hself, gm, ge, E, Ee, k1, ⟨f1, f2, f3, f4, f5⟩, k3, k4, k5, k6, k7, k8⟩ := hI.mem
  have HV := Lib.hid k5
  have HE := Lib.hid k6
  have H7 := Lib.hid k7
  have H8 := Lib.hid k8
  have KG := Lib.hid k1
  have KM := Lib.hid k3
  have KE := Lib.hid k4
  have hgw := Lib.hid k1.lt
  clear hI k1 k3 k4 k5 k6 k7 k8 hlt hself f1 f2 f3 f4 f5
  have hs2 : Hid ((Tryz.prog.info? 75).map (·.size) = some (vecA (vecL L)).size) := by rw [Hid, vecA_size, (vecL_ok L).len]; exact info64
  have hl1 : Hid (((vecL L).map (Value.int .u16)).length = 64) := by rw [Hid, List.length_map]; exact (vecL_ok L).len
  have hone := Lib.hid (vecA_one (vecL L))
  go_enter Tryz.func17, Tryz.ntmps17
  go_wp2_with fail
  refine (new20_any w).mono ?_
  rintro e w2 ⟨F2, g2, rfl, hG, hF2, b2⟩
  obtain ⟨l2, s2, gm2, ge2, E0, Ee0, q1, ⟨p1, p2, p3, p4, p5⟩, q3, q4, q5, q6, q7, q8⟩ := hG.mem
  obtain rfl : E0 = [] := List.length_eq_zero_iff.1 (Nat.le_zero.1 q7)
  obtain rfl : Ee0 = [] := List.length_eq_zero_iff.1 (Nat.le_zero.1 q8)
  have KG2 := Lib.hid (KG.out.ext b2)
  have KM2 := Lib.hid (KM.out.ext b2)
  have KE2 := Lib.hid (KE.out.ext b2)
  have hgne : Hid (g ≠ g2 ∧ gm ≠ g2 ∧ ge ≠ g2) := ⟨fun e => by have := KG.out.lt; have := hF2 g2 s2; omega, fun e => by have := KM.out.lt; have := hF2 g2 s2; omega, fun e => by have := KE.out.lt; have := hF2 g2 s2; omega⟩
  have hmne : Hid (gm2 ≠ gm ∧ ge2 ≠ ge ∧ ge ≠ gm2) := ⟨fun e => by have := KM.out.lt; have := hF2 gm2 p1; omega, fun e => by have := KE.out.lt; have := hF2 ge2 p2; omega, fun e => by have := KE.out.lt; have := hF2 gm2 p1; omega⟩
  have hFs := Lib.hid (⟨p1, p2, p3, p4, p5⟩ : F2 gm2 ∧ F2 ge2 ∧ g2 ≠ gm2 ∧ g2 ≠ ge2 ∧ gm2 ≠ ge2)
  have hself2 := Lib.hid s2
  have hF2 := Lib.hid hF2
  have l2 := Lib.hid l2
  have B2 := Lib.hid b2
  have RV := Lib.hid (gr_v KG2.out)
  have HTH := Lib.hid (there_gr (vecL_ok []) (vecL_ok L) q1)
  have K3 := Lib.hid (setCells_gr (vecL_ok []) (vecL_ok L) q1)
  have kep : Hid (Kept (fun k => k = g2) w2 (w2.setCells g2 0 (vecA (vecL L)).toList)) := Kept.setCells (F := fun k => k = g2) (.inl rfl) _ 0 _ (Kept.refl _ _)
  have M3 : Hid (MapIs Tryz.prog 120 (w2.setCells g2 0 (vecA (vecL L)).toList) gm2 []) := q3.keep (kep.out.block gm2 q3.lt (Ne.symm p3))
  have N3 : Hid (MapIs Tryz.prog 137 (w2.setCells g2 0 (vecA (vecL L)).toList) ge2 []) := q4.keep (kep.out.block ge2 q4.lt (Ne.symm p4))
  have KG3 : Hid (Blk (w2.setCells g2 0 (vecA (vecL L)).toList) g 129 (grC (vecL L) gm ge)) := kep.out.blk KG2.out hgne.out.1
  have KM3 : Hid (MapIs Tryz.prog 120 (w2.setCells g2 0 (vecA (vecL L)).toList) gm E) := KM2.out.keep (kep.out.block gm KM2.out.lt hgne.out.2.1)
  have KE3 : Hid (MapIs Tryz.prog 137 (w2.setCells g2 0 (vecA (vecL L)).toList) ge Ee) := KE2.out.keep (kep.out.block ge KE2.out.lt hgne.out.2.2)
  have B3 : Hid (Below w.heap.size w (w2.setCells g2 0 (vecA (vecL L)).toList)) := B2.out.trans (kep.out.below (fun k e => by rw [e]; exact hF2.out g2 hself2.out) B2.out.size)
  have l3 : Hid (w2.heap.size ≤ (w2.setCells g2 0 (vecA (vecL L)).toList).heap.size) := kep.out.size
  clear hG q1 q3 q4 q5 q6 q7 q8 p1 p2 p3 p4 p5 b2 s2 KG KM KE KG2 KM2 KE2 kep B2
  go_upto_region 5 with (first
    | (refine wpList_load_mid rfl 75 _ (by rfl) g 0 (by rfl) _ _ RV.out under64 rfl (by rw [hl1.out]; exact info64) ?_)
    | (refine wpList_store_mid rfl 75 _ _ rfl g2 0 (vecA (vecL L)) (by rfl) (by rfl) HTH.out hs2.out hone.out ?_))
  clear RV HTH
  generalize (w2.setCells g2 0 (vecA (vecL L)).toList) = w3 at *
  have y1 : w3.cell? ⟨g2, 64, none⟩ = some (.map (some gm2)) := gr_m (vecL_ok L) K3.out
  have y2 : w3.cell? ⟨g, 64, none⟩ = some (.map (some gm)) := gr_m (vecL_ok L) KG3.out
  try go_frame
  refine wp_region_drawn 8 mixedT (by kernel_rfl) ?_
  simp only [List.take_succ_cons, List.take_zero, List.drop_succ_cons, List.drop_zero]
  repeat (first | go_big_quiet_step (fail))
  refine wpQuiet_nil ?_
  rintro _ ⟨nq, rfl⟩
  have D := below_drewN (Below.refl w3.heap.size w3) nq
  have M4 := Lib.hid (M3.out.ext D)
  have N4 := Lib.hid (N3.out.ext D)
  have K4 := Lib.hid (K3.out.ext D)
  have KG4 := Lib.hid (KG3.out.ext D)
  have KM4 := Lib.hid (KM3.out.ext D)
  have KE4 := Lib.hid (KE3.out.ext D)
  have B4 := Lib.hid (B3.out.trans (D.mono B3.out.size))
  have l4 : Hid (w2.heap.size ≤ (w3.drewN nq).heap.size) := l3.out
  clear y1 y2 D M3 N3 K3 KG3 KM3 KE3 B3 l3
  generalize w3.drewN nq = w4 at *
  go_wp2_with fail
  refine (mcopyV_any KM4.out M4.out hmne.out.1 HV.out).mono ?_
  rintro e w5 ⟨rfl, kp, E', hM5, hp5⟩
  have M5 := Lib.hid hM5
  have P5 := Lib.hid hp5
  have N5 := Lib.hid (N4.out.keep (kp.block ge2 N4.out.lt (Ne.symm hFs.out.2.2.2.2)))
  have K5 := Lib.hid (kp.blk K4.out hFs.out.2.2.1)
  have KG5 := Lib.hid (kp.blk KG4.out (fun e => by have h1 := hF2.out gm2 hFs.out.1; have h2 := hgw.out; have h3 : g = gm2 := e; omega))
  have KE5 := Lib.hid (KE4.out.keep (kp.block ge KE4.out.lt hmne.out.2.2))
  have B5 := Lib.hid (B4.out.trans (kp.below (fun k e => by rw [e]; exact hF2.out gm2 hFs.out.1) B4.out.size))
  have l5 : Hid (w2.heap.size ≤ w5.heap.size) := Nat.le_trans l4.out kp.size
  clear hM5 hp5 kp M4 N4 K4 KG4 KM4 KE4 B4 l4
  go_upto_region 6 with fail
  have y1 : w5.cell? ⟨g2, 65, none⟩ = some (.map (some ge2)) := gr_e (vecL_ok L) K5.out
  have y2 : w5.cell? ⟨g, 65, none⟩ = some (.map (some ge)) := gr_e (vecL_ok L) KG5.out
  try go_frame
  refine wp_region_drawn 8 mixedT (by kernel_rfl) ?_
  simp only [List.take_succ_cons, List.take_zero, List.drop_succ_cons, List.drop_zero]
  repeat (first | go_big_quiet_step (fail))
  refine wpQuiet_nil ?_
  rintro _ ⟨nq2, rfl⟩
  have D := below_drewN (Below.refl w5.heap.size w5) nq2
  have M6 := Lib.hid (M5.out.ext D)
  have N6 := Lib.hid (N5.out.ext D)
  have K6 := Lib.hid (K5.out.ext D)
  have KE6 := Lib.hid (KE5.out.ext D)
  have B6 := Lib.hid (B5.out.trans (D.mono B5.out.size))
  have l6 : Hid (w2.heap.size ≤ (w5.drewN nq2).heap.size) := l5.out
  clear y1 y2 D M5 N5 K5 KG5 KE5 B5 l5
  generalize w5.drewN nq2 = w6 at *
  go_wp2_with fail
  refine (mcopyE_any KE6.out N6.out hmne.out.2.1 HE.out).mono ?_
  rintro e w7 ⟨rfl, kp, Ee', hM7, hp7⟩
  have N7 := Lib.hid hM7
  have P7 := Lib.hid hp7
  have M7 := Lib.hid (M6.out.keep (kp.block gm2 M6.out.lt hFs.out.2.2.2.2))
  have K7 := Lib.hid (kp.blk K6.out hFs.out.2.2.2.1)
  have B7 := Lib.hid (B6.out.trans (kp.below (fun k e => by rw [e]; exact hF2.out ge2 hFs.out.2.1) B6.out.size))
  have l7 : Hid (w2.heap.size ≤ w7.heap.size) := Nat.le_trans l6.out kp.size
  clear hM7 hp7 kp M6 N6 K6 KE6 B6 l6
  go_wp2
  go_ret
  exact ⟨F2, g2, rfl, ⟨hok.out, fun k hk => Nat.lt_of_lt_of_le (l2.out k hk) l7.out, hself2.out, gm2, ge2, E', Ee', K7.out, hFs.out, M7.out, N7.out, fun q => by rw [P5.out.mem_iff]; exact HV.out q, fun q => by rw [P7.out.mem_iff]; exact HE.out q, by rw [P5.out.length_eq]; exact H7.out, by rw [P7.out.length_eq]; exact H8.out⟩, hF2.out, B7.out⟩
end Go.Proofs.YtihggkmjalofiaaGreatDoor
