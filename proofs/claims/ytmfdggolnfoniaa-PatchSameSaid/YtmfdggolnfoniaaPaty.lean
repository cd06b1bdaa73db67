/- Two patches, and a copy: the statement walked. -/
import Derived.Test.YtmfdggolnfoniaaPatw
import Derived.Test.YtmfdggolnfoniaaPatx
namespace Go.Proofs.Ytmfdggolnfoniaa
open Go.RowKit

theorem flat_set1 {α : Type} {enc : α → List Value} {size : Nat} (henc : ∀ x, (enc x).length = size) : ∀ (l : List α) (k j : Nat) (x y : α) (v : Value), l[k]? = some x → j < size → enc y = (enc x).set j v → (l.flatMap enc).set (k * size + j) v = (l.set k y).flatMap enc
  | [], k, j, x, y, v, h, _, _ => by simp at h
  | a :: l, 0, j, x, y, v, h, hj, he => by
    obtain rfl : a = x := by simpa using h
    rw [List.flatMap_cons, List.set_cons_zero, List.flatMap_cons, he, Nat.zero_mul, Nat.zero_add, List.set_append_left _ _ (by rw [henc]; exact hj)]
  | a :: l, k + 1, j, x, y, v, h, hj, he => by
    have e : (k + 1) * size + j = size + (k * size + j) := by rw [Nat.succ_mul]; omega
    rw [List.flatMap_cons, List.set_cons_succ, List.flatMap_cons, List.set_append_right _ _ (by rw [henc]; omega), henc, e, Nat.add_sub_cancel_left, flat_set1 henc l k j x y v (by simpa using h) hj he]
def bumpO (o : OpV) : OpV := (o.1 + 1, o.2)
def bumpP (d : PidV) : PidV := (d.1, d.2 + 1)
/-- the first k are turned -/
def bumps {α : Type} (f : α → α) (l : List α) (k : Nat) : List α := (l.take k).map f ++ l.drop k
theorem bumps_len {α : Type} (f : α → α) (l : List α) {k : Nat} (h : k ≤ l.length) : (bumps f l k).length = l.length := by unfold bumps; simp; omega
theorem bumps_get {α : Type} (f : α → α) {l : List α} {k : Nat} {x : α} (h : l[k]? = some x) : (bumps f l k)[k]? = some x := by
  have hk := (List.getElem?_eq_some_iff.1 h).1
  unfold bumps
  rw [List.getElem?_append_right (by simp; omega)]
  simp only [List.length_map, List.length_take]
  rw [Nat.min_eq_left (by omega), Nat.sub_self, List.getElem?_drop]
  simpa using h
theorem bumps_set {α : Type} (f : α → α) {l : List α} {k : Nat} {x : α} (h : l[k]? = some x) : (bumps f l k).set k (f x) = bumps f l (k + 1) := by
  have hk := (List.getElem?_eq_some_iff.1 h).1
  unfold bumps
  have hl : ((l.take k).map f).length = k := by simp; omega
  rw [List.set_append_right _ _ (by omega), hl, Nat.sub_self, take_snoc' h, List.map_append]
  have e : l.drop k = x :: l.drop (k + 1) := by
    rw [List.drop_eq_getElem_cons hk, (List.getElem?_eq_some_iff.1 h).2]
  rw [e]
  simp
theorem bumpO_enc (o : OpV) : encO (bumpO o) = (encO o).set 0 (.int .u8 ((((o.1 + 1 : Fin 256)).val : Nat) : Int)) := rfl
theorem bumpP_enc (d : PidV) : encP (bumpP d) = (encP d).set 1 (.int .u16 ((((d.2 + 1 : Fin 65536)).val : Nat) : Int)) := rfl
theorem own_blk_ne {w : World} {b1 n1 c1 g k : Nat} {e1 t : TypeId} {s1 : Nat} {x1 : List Value} {cs : Array Value} (h1 : w.ownsRow b1 e1 s1 (.slice (some ⟨g, 0, none⟩) n1 c1) n1 x1) (h2 : Blk w k t cs) (hne : e1 ≠ t) : k ≠ g := by
  rcases h1.2 with ⟨h, _⟩ | ⟨b, cap, cur, h, hb, hh, r⟩
  · cases h
  · injection h with h _ _
    injection h with h
    injection h with h _ _
    subst h
    rintro rfl
    unfold Blk at h2
    rw [hh] at h2
    injection h2 with h2
    injection h2 with _ ht _
    exact hne ht
theorem own_some {w : World} {b1 n1 c1 : Nat} {e1 : TypeId} {s1 : Nat} {A : Option Addr} {x1 : List Value} (h1 : w.ownsRow b1 e1 s1 (.slice A n1 c1) n1 x1) (hn : 0 < n1) : ∃ g, A = some ⟨g, 0, none⟩ := by
  rcases h1.2 with ⟨h, _⟩ | ⟨b, cap, cur, h, hb, hh, r⟩
  · injection h with _ h _
    omega
  · injection h with h _ _
    exact ⟨b, h⟩
theorem own_apart {w : World} {b1 b2 n1 n2 c1 g : Nat} {e1 e2 : TypeId} {s1 s2 : Nat} {v : Value} {x1 x2 : List Value} (h1 : w.ownsRow b1 e1 s1 (.slice (some ⟨g, 0, none⟩) n1 c1) n1 x1) (h2 : w.ownsRow b2 e2 s2 v n2 x2) (hg : g < b2) (j : Nat) (u : Value) : (w.setCell ⟨g, j, none⟩ u).ownsRow b2 e2 s2 v n2 x2 := by
  refine h2.kept (h1.stored j u).2 ?_
  cases hv : v.ownBlock with
  | none => exact .inl rfl
  | some k =>
    refine .inr fun e => ?_
    injection e with e
    have := (h2.lt k hv).1
    omega
set_option maxRecDepth 100000 in
set_option maxHeartbeats 8000000 in
theorem patchSame_walk (w : World) (p : PatV) (cs : List Value) (hp : PatAt w cs p) (q : PatV) (ds : List Value) (hq : PatAt w ds q) :
    Calls Try.prog 7 #[.agg cs.toArray, .agg ds.toArray] w (RetB w (.bool true)) := by
  have HP := Lib.hid hp
  have HQ := Lib.hid hq
  obtain ⟨⟨A, c, A', c', rfl, _, _⟩, _, _⟩ := hp
  obtain ⟨⟨B, d, B', d', rfl, _, _⟩, _, _⟩ := hq
  have K1 : Hid (Blk ((w.alloc (.cells (patC p.1 A p.2.1.length c A' p.2.2.length c').toArray 37)).alloc (.cells (patC q.1 B q.2.1.length d B' q.2.2.length d').toArray 37)) w.heap.size 37 (patC p.1 A p.2.1.length c A' p.2.2.length c').toArray) := (Blk.new _ _ _).alloc _
  have K2 : Hid (Blk ((w.alloc (.cells (patC p.1 A p.2.1.length c A' p.2.2.length c').toArray 37)).alloc (.cells (patC q.1 B q.2.1.length d B' q.2.2.length d').toArray 37)) (w.heap.size + 1) 37 (patC q.1 B q.2.1.length d B' q.2.2.length d').toArray) := Blk.newAt (by simp) _ _
  have B0 : Hid (Below w.heap.size w ((w.alloc (.cells (patC p.1 A p.2.1.length c A' p.2.2.length c').toArray 37)).alloc (.cells (patC q.1 B q.2.1.length d B' q.2.2.length d').toArray 37))) := ((Below.refl _ _).alloc (Nat.le_refl _) _).alloc (by simp) _
  go_enter Try.func7, Try.ntmps7
  go_upto_region 1 with fail
  generalize ((w.alloc (.cells (patC p.1 A p.2.1.length c A' p.2.2.length c').toArray 37)).alloc (.cells (patC q.1 B q.2.1.length d B' q.2.2.length d').toArray 37)) = w2 at *
  have PA := Lib.hid (HP.out.ext B0.out)
  have PB := Lib.hid (HQ.out.ext B0.out)
  generalize w.heap.size + 1 = g2 at *
  obtain ⟨g1, hg1⟩ : ∃ g, g = w.heap.size := ⟨_, rfl⟩
  rw [← hg1] at K1 ⊢
  clear hg1 HQ
  have HF1 := Lib.hid (few18_any p w2 _ PA.out)
  have HF2 := Lib.hid (fun (u : World) (hu : Below w2.heap.size w2 u) => few18_any q u _ (PB.out.ext hu))
  cases hf : fewP p
  · rw [fewN_false hf] at HF1
    go_wp2_with (first
  | (refine wpList_load_row rfl 37 _ (by rfl) g1 (by rfl) _ _ _ _ K1.out underPat rfl infoPat ?_)
  | (refine wpList_load_row rfl 37 _ (by rfl) g2 (by rfl) _ _ _ _ K2.out underPat rfl infoPat ?_))
    refine HF1.out.mono ?_
    rintro e w3 ⟨rfl, bn⟩
    have B3 := Lib.hid (B0.out.trans (bn.mono B0.out.size))
    clear bn HF1 HF2
    go_wp2_with fail
    refine (works18 _).mono ?_
    rintro e w4 ⟨rfl, bn⟩
    have B4 := Lib.hid (B3.out.trans (bn.mono B3.out.size))
    clear bn
    go_wp2
    go_ret
    exact ⟨rfl, B4.out⟩
  rw [fewN_true hf] at HF1
  go_wp2_with (first
  | (refine wpList_load_row rfl 37 _ (by rfl) g1 (by rfl) _ _ _ _ K1.out underPat rfl infoPat ?_)
  | (refine wpList_load_row rfl 37 _ (by rfl) g2 (by rfl) _ _ _ _ K2.out underPat rfl infoPat ?_))
  refine HF1.out.mono ?_
  rintro e w3 ⟨rfl, bn⟩
  have B3 := Lib.hid (B0.out.trans (bn.mono B0.out.size))
  have HF2 := Lib.hid (HF2.out w3 bn)
  have K1 := Lib.hid (K1.out.ext bn)
  have K2 := Lib.hid (K2.out.ext bn)
  have PA := Lib.hid (PA.out.ext bn)
  have PB := Lib.hid (PB.out.ext bn)
  clear bn HF1 B0
  have b0 : w3.cell? ⟨g2, 0, none⟩ = some (.int .u8 ((q.1.1.val : Nat) : Int)) := K2.out.cell 0
  have b1 : w3.cell? ⟨g2, 1, none⟩ = some (.int .u16 ((q.1.2.val : Nat) : Int)) := K2.out.cell 1
  have b2 : w3.cell? ⟨g2, 2, none⟩ = some (.slice B q.2.1.length d) := K2.out.cell 2
  have b3 : w3.cell? ⟨g2, 3, none⟩ = some (.slice B' q.2.2.length d') := K2.out.cell 3
  cases hf2 : fewP q
  · rw [fewN_false hf2] at HF2
    go_wp2_with fail
    refine HF2.out.mono ?_
    rintro e w4 ⟨rfl, bn⟩
    have B4 := Lib.hid (B3.out.trans (bn.mono B3.out.size))
    clear bn HF2 b0 b1 b2 b3
    go_wp2_with fail
    refine (works18 _).mono ?_
    rintro e w5 ⟨rfl, bn⟩
    have B5 := Lib.hid (B4.out.trans (bn.mono B4.out.size))
    clear bn
    go_wp2
    go_ret
    exact ⟨rfl, B5.out⟩
  rw [fewN_true hf2] at HF2
  have hn1 : p.2.1.length ≤ 100 := (fewP_len hf).1
  have hn2 : p.2.2.length ≤ 260 := (fewP_len hf).2
  clear hf hf2
  go_wp2_with fail
  refine HF2.out.mono ?_
  rintro e w4 ⟨rfl, bn⟩
  have B4 := Lib.hid (B3.out.trans (bn.mono B3.out.size))
  have K1 := Lib.hid (K1.out.ext bn)
  have K2 := Lib.hid (K2.out.ext bn)
  have PA := Lib.hid (PA.out.ext bn)
  have PB := Lib.hid (PB.out.ext bn)
  clear bn HF2 B3 b0 b1 b2 b3
  go_wp2_with (first
  | (refine wpList_load_row rfl 37 _ (by rfl) g1 (by rfl) _ _ _ _ K1.out underPat rfl infoPat ?_)
  | (refine wpList_load_row rfl 37 _ (by rfl) g2 (by rfl) _ _ _ _ K2.out underPat rfl infoPat ?_))
  refine (copy18_any p w4 _ PA.out (by omega) (by omega)).mono ?_
  rintro e w5 ⟨A1, c1, A2, c2, rfl, o1, o2, bn⟩
  have B5 := Lib.hid (B4.out.trans (bn.mono B4.out.size))
  have K1 := Lib.hid (K1.out.ext bn)
  have K2 := Lib.hid (K2.out.ext bn)
  have PA := Lib.hid (PA.out.ext bn)
  have PB := Lib.hid (PB.out.ext bn)
  have O1 := Lib.hid (own_mono' o1 B4.out.size)
  have O2 := Lib.hid (own_mono' o2 B4.out.size)
  clear bn o1 o2 B4
  have HI1 : Hid ((Try.prog.info? 37).map (·.size) = some ((patC p.1 A1 p.2.1.length c1 A2 p.2.2.length c2).toArray : Array Value).size) := infoPat
  have KA1 : Hid (Blk ((w5.alloc (.cells #[.int .u8 0, .int .u16 0, .slice none 0 0, .slice none 0 0] 37)).setRow w5.heap.size (patC p.1 A1 p.2.1.length c1 A2 p.2.2.length c2).toArray) w5.heap.size 37 (patC p.1 A1 p.2.1.length c1 A2 p.2.2.length c2).toArray) := (Blk.new _ _ _).row _
  have BA1 : Hid (Below w5.heap.size w5 ((w5.alloc (.cells #[.int .u8 0, .int .u16 0, .slice none 0 0, .slice none 0 0] 37)).setRow w5.heap.size (patC p.1 A1 p.2.1.length c1 A2 p.2.2.length c2).toArray)) := below_setRow ((Below.refl _ _).alloc (Nat.le_refl _) _) (Nat.le_refl _) _
  go_upto_region 4 with (first
    | (refine wpList_alloced (allocPat _) ?_)
    | (refine wpList_store_row rfl 37 _ _ (by rfl) w5.heap.size (patC p.1 A1 p.2.1.length c1 A2 p.2.2.length c2).toArray (by rfl) (by rfl) _ _ (Blk.new _ _ _) HI1.out rfl patC_one ?_))
  have K1 := Lib.hid (K1.out.ext BA1.out)
  have K2 := Lib.hid (K2.out.ext BA1.out)
  have PA := Lib.hid (PA.out.ext BA1.out)
  have PB := Lib.hid (PB.out.ext BA1.out)
  have O1 := Lib.hid (own_ext O1.out BA1.out)
  have O2 := Lib.hid (own_ext O2.out BA1.out)
  have B6 := Lib.hid (B5.out.trans (BA1.out.mono B5.out.size))
  generalize ((w5.alloc (.cells #[.int .u8 0, .int .u16 0, .slice none 0 0, .slice none 0 0] 37)).setRow w5.heap.size (patC p.1 A1 p.2.1.length c1 A2 p.2.2.length c2).toArray) = w6 at *
  generalize w5.heap.size = gc at *
  have PC : Hid (PatAt w6 (patC p.1 A1 p.2.1.length c1 A2 p.2.2.length c2) p) := by
    obtain ⟨_, _, he, _, P3⟩ := PidsAt.of_own O1.out rfl
    injection he with e1 e2 e3
    subst e1 e3
    obtain ⟨_, _, _, _, _, _, Q3⟩ := PA.out.ex
    obtain ⟨_, _, he, _, P4⟩ := OpsAt.of_own O2.out rfl Q3.ok
    injection he with e1 e2 e3
    subst e1 e3
    exact ⟨⟨_, _, _, _, rfl, P3, P4⟩, PA.out.len1, PA.out.len2⟩
  clear BA1 HI1 B5
  have hg1 : g1 < w6.heap.size := K1.out.lt
  have hg2 : g2 < w6.heap.size := K2.out.lt
  have hgc : gc < w6.heap.size := KA1.out.lt
  have xa0 := ext_cell (show w6.cell? ⟨g1, 0, none⟩ = some (.int .u8 ((p.1.1.val : Nat) : Int)) from K1.out.cell 0) hg1
  have xa1 := ext_cell (show w6.cell? ⟨g1, 1, none⟩ = some (.int .u16 ((p.1.2.val : Nat) : Int)) from K1.out.cell 1) hg1
  have xa2 := ext_cell (show w6.cell? ⟨g1, 2, none⟩ = some (.slice A p.2.1.length c) from K1.out.cell 2) hg1
  have xa3 := ext_cell (show w6.cell? ⟨g1, 3, none⟩ = some (.slice A' p.2.2.length c') from K1.out.cell 3) hg1
  have xb0 := ext_cell (show w6.cell? ⟨g2, 0, none⟩ = some (.int .u8 ((q.1.1.val : Nat) : Int)) from K2.out.cell 0) hg2
  have xb1 := ext_cell (show w6.cell? ⟨g2, 1, none⟩ = some (.int .u16 ((q.1.2.val : Nat) : Int)) from K2.out.cell 1) hg2
  have xb2 := ext_cell (show w6.cell? ⟨g2, 2, none⟩ = some (.slice B q.2.1.length d) from K2.out.cell 2) hg2
  have xb3 := ext_cell (show w6.cell? ⟨g2, 3, none⟩ = some (.slice B' q.2.2.length d') from K2.out.cell 3) hg2
  have xc0 := ext_cell (show w6.cell? ⟨gc, 0, none⟩ = some (.int .u8 ((p.1.1.val : Nat) : Int)) from KA1.out.cell 0) hgc
  have xc1 := ext_cell (show w6.cell? ⟨gc, 1, none⟩ = some (.int .u16 ((p.1.2.val : Nat) : Int)) from KA1.out.cell 1) hgc
  have xc2 := ext_cell (show w6.cell? ⟨gc, 2, none⟩ = some (.slice A1 p.2.1.length c1) from KA1.out.cell 2) hgc
  have xc3 := ext_cell (show w6.cell? ⟨gc, 3, none⟩ = some (.slice A2 p.2.2.length c2) from KA1.out.cell 3) hgc
  have S1 : Hid (∀ z : Ext w6, Calls Try.prog 19 #[.agg #[(.int .u8 ((p.1.1.val : Nat) : Int)), (.int .u16 ((p.1.2.val : Nat) : Int)), (.slice A1 p.2.1.length c1), (.slice A2 p.2.2.length c2)], .agg #[(.int .u8 ((p.1.1.val : Nat) : Int)), (.int .u16 ((p.1.2.val : Nat) : Int)), (.slice A p.2.1.length c), (.slice A' p.2.2.length c')]] z.w (RetB z.w (.bool (decide (p = p))))) := fun z => rpsame p p z.w _ _ (PC.out.ext z.h) (PA.out.ext z.h)
  have S2 : Hid (∀ z : Ext w6, Calls Try.prog 27 #[.agg #[(.int .u8 ((p.1.1.val : Nat) : Int)), (.int .u16 ((p.1.2.val : Nat) : Int)), (.slice A p.2.1.length c), (.slice A' p.2.2.length c')], .agg #[(.int .u8 ((q.1.1.val : Nat) : Int)), (.int .u16 ((q.1.2.val : Nat) : Int)), (.slice B q.2.1.length d), (.slice B' q.2.2.length d')]] z.w (RetB z.w (.bool (decide (p = q))))) := fun z => psame p q z.w _ _ (PA.out.ext z.h) (PB.out.ext z.h)
  have S3 : Hid (∀ z : Ext w6, Calls Try.prog 19 #[.agg #[(.int .u8 ((p.1.1.val : Nat) : Int)), (.int .u16 ((p.1.2.val : Nat) : Int)), (.slice A p.2.1.length c), (.slice A' p.2.2.length c')], .agg #[(.int .u8 ((q.1.1.val : Nat) : Int)), (.int .u16 ((q.1.2.val : Nat) : Int)), (.slice B q.2.1.length d), (.slice B' q.2.2.length d')]] z.w (RetB z.w (.bool (decide (p = q))))) := fun z => rpsame p q z.w _ _ (PA.out.ext z.h) (PB.out.ext z.h)
  have S4 : Hid (∀ z : Ext w6, Calls Try.prog 27 #[.agg #[(.int .u8 ((p.1.1.val : Nat) : Int)), (.int .u16 ((p.1.2.val : Nat) : Int)), (.slice A p.2.1.length c), (.slice A' p.2.2.length c')], .agg #[(.int .u8 ((p.1.1.val : Nat) : Int)), (.int .u16 ((p.1.2.val : Nat) : Int)), (.slice A p.2.1.length c), (.slice A' p.2.2.length c')]] z.w (RetB z.w (.bool (decide (p = p))))) := fun z => psame p p z.w _ _ (PA.out.ext z.h) (PA.out.ext z.h)
  rw [decide_eq_true (rfl : p = p)] at S1 S4
  generalize decide (p = q) = r at *
  have NE : ∀ u : World, (binOp .neq 4 (.bool r) (.bool r)).run Try.prog u = .ok (.bool false) u := fun u => by cases r <;> kernel_rfl
  simp only [Act.put, List.setIfInBounds_toArray, List.set_cons_zero, List.set_cons_succ]
  go_cut [38] (fun s wx => s = .bool false ∧ Below w6.heap.size w6 wx)
  case first =>
    clear O1 O2 PC PA PB K1 K2 KA1
    refine wp_region_ext mixedS (by kernel_rfl) ?_
    repeat (first | go_big_quiet_skip | go_big_quiet_step ((first
      | (go_at_call 19; with_reducible exact ext_call (S1.out _))
      | (go_at_call 19; with_reducible exact ext_call (S3.out _))
      | (go_at_call 27; with_reducible exact ext_call (S2.out _))
      | (go_at_call 27; with_reducible exact ext_call (S4.out _)))))
    refine wpQuiet_nil ?_
    rintro _ ⟨z, rfl⟩
    have W := Lib.hid z.h
    generalize z.w = w7 at *
    go_wp2_with fail
    go_meet
    case rel => exact ⟨rfl, W.out⟩
  case rest =>
    obtain ⟨w7, rfl⟩ : ∃ w7, w7 = wc := ⟨_, rfl⟩
    obtain ⟨rfl, bn⟩ := hcut
    clear xa0 xa1 xa2 xa3 xb0 xb1 xb2 xb3 xc0 xc1 xc2 xc3 S1 S2 S3 S4 NE hg1 hg2 hgc K2 PB
    have B7 := Lib.hid (B6.out.trans (bn.mono B6.out.size))
    have K1 := Lib.hid (K1.out.ext bn)
    have KC := Lib.hid (KA1.out.ext bn)
    have PA := Lib.hid (PA.out.ext bn)
    have PC := Lib.hid (PC.out.ext bn)
    have O1 := Lib.hid (own_ext O1.out bn)
    have O2 := Lib.hid (own_ext O2.out bn)
    clear bn B6 KA1
    go_wp2_with (refine wpList_load_row rfl 37 _ (by rfl) gc (by rfl) _ _ _ _ KC.out underPat rfl infoPat ?_)
    refine (copy18_any p w7 _ PC.out (by omega) (by omega)).mono ?_
    rintro e w8 ⟨A3, c3, A4, c4, rfl, o3, o4, bn⟩
    have L1 := O1.out.lt
    have L2 := O2.out.lt
    have B8 := Lib.hid (B7.out.trans (bn.mono B7.out.size))
    have K1 := Lib.hid (K1.out.ext bn)
    have KC := Lib.hid (KC.out.ext bn)
    have PA := Lib.hid (PA.out.ext bn)
    have O1 := Lib.hid (own_ext O1.out bn)
    have O2 := Lib.hid (own_ext O2.out bn)
    have O3 := Lib.hid o3
    have O4 := Lib.hid o4
    clear bn o3 o4 B7 PC
    generalize w7.heap.size = bd at *
    have HI2 : Hid ((Try.prog.info? 37).map (·.size) = some ((patC p.1 A3 p.2.1.length c3 A4 p.2.2.length c4).toArray : Array Value).size) := infoPat
    have KA2 : Hid (Blk ((w8.alloc (.cells #[.int .u8 0, .int .u16 0, .slice none 0 0, .slice none 0 0] 37)).setRow w8.heap.size (patC p.1 A3 p.2.1.length c3 A4 p.2.2.length c4).toArray) w8.heap.size 37 (patC p.1 A3 p.2.1.length c3 A4 p.2.2.length c4).toArray) := (Blk.new _ _ _).row _
    have BA2 : Hid (Below w8.heap.size w8 ((w8.alloc (.cells #[.int .u8 0, .int .u16 0, .slice none 0 0, .slice none 0 0] 37)).setRow w8.heap.size (patC p.1 A3 p.2.1.length c3 A4 p.2.2.length c4).toArray)) := below_setRow ((Below.refl _ _).alloc (Nat.le_refl _) _) (Nat.le_refl _) _
    go_upto_region 7 with (first
      | (refine wpList_alloced (allocPat _) ?_)
      | (refine wpList_store_row rfl 37 _ _ (by rfl) w8.heap.size (patC p.1 A3 p.2.1.length c3 A4 p.2.2.length c4).toArray (by rfl) (by rfl) _ _ (Blk.new _ _ _) HI2.out rfl patC_one ?_))
    have K1 := Lib.hid (K1.out.ext BA2.out)
    have KC := Lib.hid (KC.out.ext BA2.out)
    have O1 := Lib.hid (own_ext O1.out BA2.out)
    have O2 := Lib.hid (own_ext O2.out BA2.out)
    have O3 := Lib.hid (own_ext O3.out BA2.out)
    have O4 := Lib.hid (own_ext O4.out BA2.out)
    have B9 := Lib.hid (B8.out.trans (BA2.out.mono B8.out.size))
    generalize ((w8.alloc (.cells #[.int .u8 0, .int .u16 0, .slice none 0 0, .slice none 0 0] 37)).setRow w8.heap.size (patC p.1 A3 p.2.1.length c3 A4 p.2.2.length c4).toArray) = w9 at *
    generalize w8.heap.size = gd at *
    clear PA BA2 HI2 B8
    have hm2 : p.2.2.length ≤ 9223372036854775807 := by omega
    have hm1 : p.2.1.length ≤ 9223372036854775807 := by omega
    have y3 : w9.cell? ⟨gc, 3, none⟩ = some (.slice A2 p.2.2.length c2) := KC.out.cell 3
    go_wp2_with fail
    clear y3
    go_loopw [44] (fun i wr => ∃ k : Nat, k ≤ p.2.2.length ∧ i = .int .i64 k ∧ Hid (wr.ownsRow w.heap.size 54 8 (.slice A2 p.2.2.length c2) p.2.2.length ((bumps bumpO p.2.2 k).flatMap encO)) ∧ Hid (wr.ownsRow w.heap.size 33 2 (.slice A1 p.2.1.length c1) p.2.1.length (p.2.1.flatMap encP)) ∧ Hid (wr.ownsRow bd 33 2 (.slice A3 p.2.1.length c3) p.2.1.length (p.2.1.flatMap encP)) ∧ Hid (wr.ownsRow bd 54 8 (.slice A4 p.2.2.length c4) p.2.2.length (p.2.2.flatMap encO)) ∧ Hid (Blk wr gc 37 (patC p.1 A1 p.2.1.length c1 A2 p.2.2.length c2).toArray) ∧ Hid (Blk wr g1 37 (patC p.1 A p.2.1.length c A' p.2.2.length c').toArray) ∧ Hid (Blk wr gd 37 (patC p.1 A3 p.2.1.length c3 A4 p.2.2.length c4).toArray) ∧ Hid (Below w.heap.size w wr)) (fun i _ => p.2.2.length - (intOf i).toNat)
    case atStart => exact ⟨0, by omega, rfl, O2.out, O1.out, O3.out, O4.out, KC.out, K1.out, KA2.out, B9.out⟩
    case round =>
      clear O1 O2 O3 O4 KC K1 KA2 B9
      obtain ⟨k, hk, rfl, O2, O1, O3, O4, KC, K1, KD, B9⟩ := hrel
      have hk0 : (0 : Int) ≤ (k : Int) := by omega
      by_cases hlt : k < p.2.2.length
      · have hlk : (k : Int) < (p.2.2.length : Int) := by omega
        obtain ⟨ga, rfl⟩ := own_some O2.out (by omega)
        obtain ⟨x, hx⟩ : ∃ x, p.2.2[k]? = some x := ⟨_, List.getElem?_eq_getElem hlt⟩
        have hga := (L2 ga rfl).2
        have hgw := (L2 ga rfl).1
        have hbx : (bumps bumpO p.2.2 k)[k]? = some x := bumps_get bumpO hx
        have hbl : k < (bumps bumpO p.2.2 k).length := by rw [bumps_len _ _ hk]; exact hlt
        have e0 : wr.cell? ⟨ga, k * 8, none⟩ = some (.int .u8 ((x.1.val : Nat) : Int)) := by
          rw [O2.out.cellAt (k * 8) (by omega)]
          have := flatMap_get encO (bumps bumpO p.2.2 k) (fun o _ => encO_len o) k 0 hbl (by omega)
          rw [Nat.add_zero] at this
          rw [this, show (bumps bumpO p.2.2 k)[k] = x from Option.some.inj ((List.getElem?_eq_getElem hbl).symm.trans hbx)]
          rfl
        have f0 := O2.out.frozenAt (k * 8)
        have y3 : wr.cell? ⟨gc, 3, none⟩ = some (.slice (some ⟨ga, 0, none⟩) p.2.2.length c2) := KC.out.cell 3
        have x0 := (u8_in x.1).1
        have x1 := (u8_in x.1).2
        have EV : Hid (((((x.1 + 1 : Fin 256)).val : Nat) : Int) = (((x.1.val : Nat) : Int) + 1) % 256) := by rw [Hid, Fin.val_add]; show (((x.1.val + 1) % 256 : Nat) : Int) = _; omega
        have N2 : Hid ((wr.setCell ⟨ga, k * 8, none⟩ (.int .u8 ((((x.1.val : Nat) : Int) + 1) % 256))).ownsRow w.heap.size 54 8 (.slice (some ⟨ga, 0, none⟩) p.2.2.length c2) p.2.2.length ((bumps bumpO p.2.2 (k + 1)).flatMap encO)) := by
          have h1 := (O2.out.stored (k * 8) (.int .u8 ((((x.1.val : Nat) : Int) + 1) % 256))).1
          have h2 := flat_set1 encO_len (bumps bumpO p.2.2 k) k 0 x (bumpO x) (.int .u8 ((((x.1.val : Nat) : Int) + 1) % 256)) hbx (by omega) (by rw [bumpO_enc, EV.out])
          rw [Nat.add_zero] at h2
          rw [h2, bumps_set bumpO hx] at h1
          exact h1
        have N1 := Lib.hid (O1.out.kept (O2.out.stored (k * 8) (.int .u8 ((((x.1.val : Nat) : Int) + 1) % 256))).2 (own_ne O1.out O2.out (by decide)))
        have N3 := Lib.hid (own_apart O2.out O3.out hga (k * 8) (.int .u8 ((((x.1.val : Nat) : Int) + 1) % 256)))
        have N4 := Lib.hid (own_apart O2.out O4.out hga (k * 8) (.int .u8 ((((x.1.val : Nat) : Int) + 1) % 256)))
        have NC := Lib.hid (KC.out.far (p := ⟨ga, k * 8, none⟩) (own_blk_ne O2.out KC.out (by decide)) (.int .u8 ((((x.1.val : Nat) : Int) + 1) % 256)))
        have NA := Lib.hid (K1.out.far (p := ⟨ga, k * 8, none⟩) (own_blk_ne O2.out K1.out (by decide)) (.int .u8 ((((x.1.val : Nat) : Int) + 1) % 256)))
        have ND := Lib.hid (KD.out.far (p := ⟨ga, k * 8, none⟩) (own_blk_ne O2.out KD.out (by decide)) (.int .u8 ((((x.1.val : Nat) : Int) + 1) % 256)))
        have NB : Hid (Below w.heap.size w (wr.setCell ⟨ga, k * 8, none⟩ (.int .u8 ((((x.1.val : Nat) : Int) + 1) % 256)))) := below_setCell B9.out hgw
        clear O1 O2 O3 O4 KC K1 KD B9 EV hx hbx hbl
        go_wp2
        go_roundw
        case rel => exact ⟨k + 1, by omega, by go_num, N2.out, N1.out, N3.out, N4.out, NC.out, NA.out, ND.out, NB.out⟩
        case measure => simp [intOf]; omega
      · have hlk : ¬ ((k : Int) < (p.2.2.length : Int)) := by omega
        clear O2 L2 hlt
        have y2 : wr.cell? ⟨gc, 2, none⟩ = some (.slice A1 p.2.1.length c1) := KC.out.cell 2
        obtain ⟨wo, rfl⟩ : ∃ wo : World, wo = wr := ⟨_, rfl⟩
        go_wp2_with fail
        clear y2 hlk
        go_loopw [60] (fun i wr => ∃ k : Nat, k ≤ p.2.1.length ∧ i = .int .i64 k ∧ Hid (wr.ownsRow w.heap.size 33 2 (.slice A1 p.2.1.length c1) p.2.1.length ((bumps bumpP p.2.1 k).flatMap encP)) ∧ Hid (wr.ownsRow bd 33 2 (.slice A3 p.2.1.length c3) p.2.1.length (p.2.1.flatMap encP)) ∧ Hid (wr.ownsRow bd 54 8 (.slice A4 p.2.2.length c4) p.2.2.length (p.2.2.flatMap encO)) ∧ Hid (Blk wr gc 37 (patC p.1 A1 p.2.1.length c1 A2 p.2.2.length c2).toArray) ∧ Hid (Blk wr g1 37 (patC p.1 A p.2.1.length c A' p.2.2.length c').toArray) ∧ Hid (Blk wr gd 37 (patC p.1 A3 p.2.1.length c3 A4 p.2.2.length c4).toArray) ∧ Hid (Below w.heap.size w wr)) (fun i _ => p.2.1.length - (intOf i).toNat)
        case atStart => exact ⟨0, by omega, rfl, O1.out, O3.out, O4.out, KC.out, K1.out, KD.out, B9.out⟩
        case round =>
          clear O1 O3 O4 KC K1 KD B9
          obtain ⟨j, hj, rfl, O1, O3, O4, KC, K1, KD, B9⟩ := hrel
          have hj0 : (0 : Int) ≤ (j : Int) := by omega
          by_cases hlt : j < p.2.1.length
          · have hlj : (j : Int) < (p.2.1.length : Int) := by omega
            obtain ⟨ga, rfl⟩ := own_some O1.out (by omega)
            obtain ⟨x, hx⟩ : ∃ x, p.2.1[j]? = some x := ⟨_, List.getElem?_eq_getElem hlt⟩
            have hga := (L1 ga rfl).2
            have hgw := (L1 ga rfl).1
            have hbx : (bumps bumpP p.2.1 j)[j]? = some x := bumps_get bumpP hx
            have hbl : j < (bumps bumpP p.2.1 j).length := by rw [bumps_len _ _ hj]; exact hlt
            have e0 : wr.cell? ⟨ga, j * 2 + 1, none⟩ = some (.int .u16 ((x.2.val : Nat) : Int)) := by
              rw [O1.out.cellAt (j * 2 + 1) (by omega), flatMap_get encP (bumps bumpP p.2.1 j) (fun o _ => encP_len o) j 1 hbl (by omega), show (bumps bumpP p.2.1 j)[j] = x from Option.some.inj ((List.getElem?_eq_getElem hbl).symm.trans hbx)]
              rfl
            have f0 := O1.out.frozenAt (j * 2 + 1)
            have y2 : wr.cell? ⟨gc, 2, none⟩ = some (.slice (some ⟨ga, 0, none⟩) p.2.1.length c1) := KC.out.cell 2
            have x0 := (u16_in x.2).1
            have x1 := (u16_in x.2).2
            have EV : Hid (((((x.2 + 1 : Fin 65536)).val : Nat) : Int) = (((x.2.val : Nat) : Int) + 1) % 65536) := by rw [Hid, Fin.val_add]; show (((x.2.val + 1) % 65536 : Nat) : Int) = _; omega
            have N1 : Hid ((wr.setCell ⟨ga, j * 2 + 1, none⟩ (.int .u16 ((((x.2.val : Nat) : Int) + 1) % 65536))).ownsRow w.heap.size 33 2 (.slice (some ⟨ga, 0, none⟩) p.2.1.length c1) p.2.1.length ((bumps bumpP p.2.1 (j + 1)).flatMap encP)) := by
              have h1 := (O1.out.stored (j * 2 + 1) (.int .u16 ((((x.2.val : Nat) : Int) + 1) % 65536))).1
              have h2 := flat_set1 encP_len (bumps bumpP p.2.1 j) j 1 x (bumpP x) (.int .u16 ((((x.2.val : Nat) : Int) + 1) % 65536)) hbx (by omega) (by rw [bumpP_enc, EV.out])
              rw [h2, bumps_set bumpP hx] at h1
              exact h1
            have N3 := Lib.hid (own_apart O1.out O3.out hga (j * 2 + 1) (.int .u16 ((((x.2.val : Nat) : Int) + 1) % 65536)))
            have N4 := Lib.hid (own_apart O1.out O4.out hga (j * 2 + 1) (.int .u16 ((((x.2.val : Nat) : Int) + 1) % 65536)))
            have NC := Lib.hid (KC.out.far (p := ⟨ga, j * 2 + 1, none⟩) (own_blk_ne O1.out KC.out (by decide)) (.int .u16 ((((x.2.val : Nat) : Int) + 1) % 65536)))
            have NA := Lib.hid (K1.out.far (p := ⟨ga, j * 2 + 1, none⟩) (own_blk_ne O1.out K1.out (by decide)) (.int .u16 ((((x.2.val : Nat) : Int) + 1) % 65536)))
            have ND := Lib.hid (KD.out.far (p := ⟨ga, j * 2 + 1, none⟩) (own_blk_ne O1.out KD.out (by decide)) (.int .u16 ((((x.2.val : Nat) : Int) + 1) % 65536)))
            have NB : Hid (Below w.heap.size w (wr.setCell ⟨ga, j * 2 + 1, none⟩ (.int .u16 ((((x.2.val : Nat) : Int) + 1) % 65536)))) := below_setCell B9.out hgw
            clear O1 O3 O4 KC K1 KD B9 EV hx hbx hbl
            go_wp2
            go_roundw
            case rel => exact ⟨j + 1, by omega, by go_num, N1.out, N3.out, N4.out, NC.out, NA.out, ND.out, NB.out⟩
            case measure => simp [intOf]; omega
          · have hlj : ¬ ((j : Int) < (p.2.1.length : Int)) := by omega
            have PA := Lib.hid (HP.out.ext B9.out)
            have PD : Hid (PatAt wr (patC p.1 A3 p.2.1.length c3 A4 p.2.2.length c4) p) := by
              obtain ⟨_, _, he, _, P3⟩ := PidsAt.of_own O3.out rfl
              injection he with e1 e2 e3
              subst e1 e3
              obtain ⟨_, _, _, _, _, _, Q3⟩ := PA.out.ex
              obtain ⟨_, _, he, _, P4⟩ := OpsAt.of_own O4.out rfl Q3.ok
              injection he with e1 e2 e3
              subst e1 e3
              exact ⟨⟨_, _, _, _, rfl, P3, P4⟩, PA.out.len1, PA.out.len2⟩
            have HS := Lib.hid (rpsame p p wr _ _ PD.out PA.out)
            rw [decide_eq_true (rfl : p = p)] at HS
            clear O1 O3 O4 KC PD PA
            go_wp2_with (first
              | (refine wpList_load_row rfl 37 _ (by rfl) gd (by rfl) _ _ _ _ KD.out underPat rfl infoPat ?_)
              | (refine wpList_load_row rfl 37 _ (by rfl) g1 (by rfl) _ _ _ _ K1.out underPat rfl infoPat ?_))
            refine HS.out.mono ?_
            rintro e w10 ⟨rfl, bn⟩
            have B10 := Lib.hid (B9.out.trans (bn.mono B9.out.size))
            clear bn HS KD K1 B9
            go_wp2_with fail
            refine (works18 _).mono ?_
            rintro e w11 ⟨rfl, bn⟩
            have B11 := Lib.hid (B10.out.trans (bn.mono B10.out.size))
            clear bn
            go_wp2
            go_ret
            exact ⟨rfl, B11.out⟩
end Go.Proofs.Ytmfdggolnfoniaa
