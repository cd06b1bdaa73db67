/- A graph: a new one, its vector, a vertex by its name; the vertex that an operation makes: walked. -/
import Derived.Test.YtihggkmjalofiaaGreatDoorGras
import Derived.Test.YtihggkmjalofiaaGreatDoorIdxw
import Derived.Test.YtihggkmjalofiaaGreatDoorPaws
import Derived.Test.YtihggkmjalofiaaGreatDoorIdxz
namespace Go.Proofs.YtihggkmjalofiaaGreatDoor
open Go.RowKit
open Go.ChangeMaps (setBlock)

theorem makeGv (w : World) : (Instr.makeMap 126 none).run Tryz.prog w = .ok (.map (some w.heap.size)) (w.alloc (.map #[] 0)) := by kernel_rfl
theorem makeGe (w : World) : (Instr.makeMap 127 none).run Tryz.prog w = .ok (.map (some w.heap.size)) (w.alloc (.map #[] 0)) := by kernel_rfl
theorem buildG (w : World) (a b : Nat) : (Instr.build 129 #[(1, .map (some a)), (2, .map (some b))]).run Tryz.prog w = .ok (.agg (grC vec0 a b)) w := by kernel_rfl
def RetNewG (w : World) (e : Ending) (w' : World) : Prop := ∃ F g, e = .returned (.pointer (some ⟨g, 0, none⟩)) ∧ GraphAt w' F g [] ∧ (∀ k, F k → w.heap.size ≤ k) ∧ Below w.heap.size w w'
theorem verts_nil : VertsM [] [] := fun q => ⟨fun h => by simp at h, fun ⟨v, x, h, _⟩ => by simp [vertV, rawV] at h⟩
theorem edges_nil : EdgesM [] [] := fun q => ⟨fun h => by simp at h, fun ⟨e, h, _⟩ => by simp [edgesOf] at h⟩
set_option maxRecDepth 100000 in
set_option maxHeartbeats 1000000 in
theorem new20_any (w : World) : Calls Tryz.prog 14 #[] w (RetNewG w) := by
  have M0 : Hid (MapIs Tryz.prog 120 (w.alloc (.map #[] 0)) w.heap.size []) := MapIs.made _ _ _
  have M1 : Hid (MapIs Tryz.prog 137 ((w.alloc (.map #[] 0)).alloc (.map #[] 0)) (w.alloc (.map #[] 0)).heap.size []) := MapIs.made _ _ _
  have hs1 : (w.alloc (.map #[] 0)).heap.size = w.heap.size + 1 := by simp
  rw [hs1] at M1
  have E : Hid (GraphAt (((w.alloc (.map #[] 0)).alloc (.map #[] 0)).alloc (.cells (grC vec0 w.heap.size (w.heap.size + 1)) 129)) (fun k => w.heap.size ≤ k ∧ k < w.heap.size + 3) (w.heap.size + 2) []) :=
    ⟨.nil, ⟨fun k h => by simp; omega, by simp, w.heap.size, w.heap.size + 1, [], [], Blk.newAt (by simp) _ _, by simp, (M0.out.alloc _).alloc _, M1.out.alloc _, verts_nil, edges_nil, by simp, by simp⟩⟩
  have B : Hid (Below w.heap.size w (((w.alloc (.map #[] 0)).alloc (.map #[] 0)).alloc (.cells (grC vec0 w.heap.size (w.heap.size + 1)) 129))) := (((Below.refl _ _).alloc (Nat.le_refl _) _).alloc (by simp) _).alloc (by simp; omega) _
  have hmk := makeGv
  have hme := makeGe
  go_enter Tryz.func14, Tryz.ntmps14
  go_wp2_with (refine wpList_built (buildG _ _ _) (by rfl) ?_)
  go_ret
  exact ⟨_, _, rfl, E.out, fun k h => h.1, B.out⟩
set_option maxRecDepth 100000 in
set_option maxHeartbeats 1000000 in
theorem vec20_any {w : World} {F : Nat → Prop} {g : Nat} {L : List PatV} (hI : GraphM w F g L) :
    Calls Tryz.prog 69 #[.pointer (some ⟨g, 0, none⟩)] w (RetB w (.agg (vecA (vecL L)))) := by
  have B0 : Hid (Below w.heap.size w (w.alloc (.cells (vecA vec0) 75))) := below_new _ _
  have K1 : Hid (Blk (w.alloc (.cells (vecA vec0) 75)) w.heap.size 75 (vecA vec0)) := Blk.new _ _ _
  have hs1 : Hid ((vecA (vecL L)).size = 64) := by rw [Hid, vecA_size]; exact (vecL_ok L).len
  have hs2 : Hid ((vecA vec0).size = 64) := by rw [Hid, vecA_size]; simp [vec0]
  have h1 := Lib.hid (vecA_one (vecL L))
  have hl1 : Hid (((vecL L).map (Value.int .u16)).length = 64) := by rw [Hid, List.length_map]; exact (vecL_ok L).len
  obtain ⟨gm, ge, h⟩ := hI.cells
  have R := Lib.hid (rangeAt_below h.v B0.out h.lt)
  clear h hI
  go_enter Tryz.func69, Tryz.ntmps69
  go_wp2_with (first
    | (refine wpList_alloced (alloc64 _) ?_)
    | (refine wpList_load_mid rfl 75 _ (by rfl) g 0 (by rfl) _ _ R.out under64 rfl (by rw [hl1.out]; exact info64) ?_)
    | (refine wpList_store_row rfl 75 _ _ (by rfl) w.heap.size (vecA (vecL L)) (by rfl) (by rfl) _ _ K1.out (by rw [hs1.out]; exact info64) (by rw [hs1.out, hs2.out]) h1.out ?_))
  refine bodyPost_ret (results_cell_row rfl _ _ w.heap.size _ (vecA (vecL L)) _ _ rfl (K1.out.row _) under64 rfl (by rw [hs1.out]; exact info64)) rfl ?_
  exact ⟨rfl, below_setRow B0.out (Nat.le_refl _) _⟩
theorem fieldGr0 (g : Nat) (w : World) : (Instr.fieldAt 129 (.pointer (some ⟨g, 0, none⟩)) 0).run Tryz.prog w = .ok (.pointer (some ⟨g, 0, none⟩)) w := by simp [go_sem]
theorem fieldGr1 (g : Nat) (w : World) : (Instr.fieldAt 129 (.pointer (some ⟨g, 0, none⟩)) 1).run Tryz.prog w = .ok (.pointer (some ⟨g, 64, none⟩)) w := by simp [go_sem]
theorem fieldGr2 (g : Nat) (w : World) : (Instr.fieldAt 129 (.pointer (some ⟨g, 0, none⟩)) 2).run Tryz.prog w = .ok (.pointer (some ⟨g, 65, none⟩)) w := by simp [go_sem]
theorem loadVertMap (b o : Nat) (w : World) (gm : Nat) (h : w.cell? ⟨b, o, none⟩ = some (.map (some gm))) : (Instr.loadAt 126 (.pointer (some ⟨b, o, none⟩))).run Tryz.prog w = .ok (.map (some gm)) w := by simp [go_sem, h]
theorem loadEdgeMap (b o : Nat) (w : World) (gm : Nat) (h : w.cell? ⟨b, o, none⟩ = some (.map (some gm))) : (Instr.loadAt 127 (.pointer (some ⟨b, o, none⟩))).run Tryz.prog w = .ok (.map (some gm)) w := by simp [go_sem, h]
def zeroX : Array Value := #[.int .u8 0, .int .u16 0, .int .u8 0, .int .u8 0, .int .u8 0, .int .u16 0, .int .u8 0, .string ByteArray.empty, .bool false]
theorem allocVert (w : World) : (Instr.alloc 134 true (.tuple #[])).run Tryz.prog w = .ok (.pointer (some ⟨w.heap.size, 0, none⟩)) (w.alloc (.cells zeroX 134)) := by kernel_rfl
theorem encX_all (x : VertV) : (encX x).toArray.all (·.oneCell') = true := by simp [encX, Value.oneCell']
/-- a vertex is handed back, and whether it is there -/
def RetVert (w : World) (x : VertV) (b : Bool) (e : Ending) (w' : World) : Prop := e = .returned (.tuple #[.agg (encX x).toArray, .bool b]) ∧ Below w.heap.size w w'
set_option maxRecDepth 100000 in
set_option maxHeartbeats 2000000 in
theorem vert20_any {w : World} {F : Nat → Prop} {g : Nat} {L : List PatV} (hP : GraphM w F g L) (v : VidV) :
    Calls Tryz.prog 294 #[.pointer (some ⟨g, 0, none⟩), .agg (encV v).toArray] w (RetVert w (vertD L v) (vertV L v).isSome) := by
  have B0 : Hid (Below w.heap.size w ((w.alloc (.cells (encV v).toArray 120)).alloc (.cells zeroX 134))) := ((Below.refl _ _).alloc (Nat.le_refl _) _).alloc (by simp) _
  have K0 : Hid (Blk ((w.alloc (.cells (encV v).toArray 120)).alloc (.cells zeroX 134)) w.heap.size 120 (encV v).toArray) := (Blk.new _ _ _).alloc _
  have KR : Hid (Blk ((w.alloc (.cells (encV v).toArray 120)).alloc (.cells zeroX 134)) (w.heap.size + 1) 134 zeroX) := Blk.newAt (by simp) _ _
  have hgr : Hid (w.heap.size ≤ w.heap.size + 1) := Nat.le_succ _
  have HP := Lib.hid (hP.ext B0.out)
  clear hP
  go_enter Tryz.func294, Tryz.ntmps294
  go_upto_region 3 with (refine wpList_alloced (allocVert _) ?_)
  generalize ((w.alloc (.cells (encV v).toArray 120)).alloc (.cells zeroX 134)) = w2 at *
  generalize w.heap.size + 1 = gr at *
  generalize w.heap.size = g0 at K0 ⊢
  obtain ⟨gm, ge, GC⟩ := HP.out.cells
  obtain ⟨E, hM, hE, _⟩ := GC.map
  have hgm := GC.mlt
  have HL : Hid (∀ w', Below w2.heap.size w2 w' → (Instr.lookup 126 (.map (some gm)) (.agg (encV v).toArray) true).run Tryz.prog w' = .ok (.tuple #[.agg (encX (vertD L v)).toArray, .bool (vertV L v).isSome]) w') := fun w' h => (hE.look hM v).1 w' (h.block gm hgm)
  have HC1 : Hid (∀ w', Below w2.heap.size w2 w' → w'.cell? ⟨g, 64, none⟩ = some (.map (some gm))) := fun w' h => GC.m ⟨w', h⟩
  have R0 := Lib.hid (blk_pat K0.out)
  have g0l : Hid (g0 < w2.heap.size) := K0.out.lt
  clear hM hE GC HP K0
  generalize vertD L v = x at *
  generalize (vertV L v).isSome = ok at *
  refine wp_region_held (S := fun w' => Below w2.heap.size w2 w') mixedS ?_
  change wpAnyH _ _ _ _ _ _ _ _ w2.drew
  have B3 : Hid (Below w2.heap.size w2 w2.drew) := (Below.refl _ _).drew
  generalize w2.drew = w3 at B3 ⊢
  simp only [List.size_toArray, List.length_cons, List.length_nil]
  refine takeV (i := 0) (d := 12) (v := .pointer (some ⟨g, 0, none⟩)) rfl (by kernel_rfl) (by kernel_rfl) (by kernel_rfl) (fun _ _ _ h => h) rfl (fun _ _ => exMove (v := .pointer (some ⟨g, 0, none⟩)) rfl) B3.out ?_
  simp only [Act.put, List.setIfInBounds_toArray, List.set_cons_zero, List.set_cons_succ]
  refine takeV (i := 1) (d := 13) (v := .pointer (some ⟨g, 0, none⟩)) rfl (by kernel_rfl) (by kernel_rfl) (by kernel_rfl) (fun _ _ _ h => h) rfl (fun _ _ => exNil rfl) B3.out ?_
  simp only [Act.put, List.setIfInBounds_toArray, List.set_cons_zero, List.set_cons_succ]
  refine takeV (i := 2) (d := 14) (v := .pointer (some ⟨g, 64, none⟩)) rfl (by kernel_rfl) (by kernel_rfl) (by kernel_rfl) (fun _ _ _ h => h) rfl (fun w' _ => exField rfl (fieldGr1 g w')) B3.out ?_
  simp only [Act.put, List.setIfInBounds_toArray, List.set_cons_zero, List.set_cons_succ]
  refine takeV (i := 3) (d := 15) (v := .map (some gm)) rfl (by kernel_rfl) (by kernel_rfl) (by kernel_rfl) (fun _ _ _ h => h) rfl (fun w' h => exLoad rfl (loadVertMap g 64 w' gm (HC1.out w' h))) B3.out ?_
  simp only [Act.put, List.setIfInBounds_toArray, List.set_cons_zero, List.set_cons_succ]
  refine takeV (i := 4) (d := 16) (v := .agg (encV v).toArray) rfl (by kernel_rfl) (by kernel_rfl) (by kernel_rfl) (fun _ _ _ h => h) rfl (fun w' h => exMid rfl (rangeAt_below R0.out h g0l.out) underVid rfl infoVid) B3.out ?_
  simp only [Act.put, List.setIfInBounds_toArray, List.set_cons_zero, List.set_cons_succ]
  refine takeV (i := 5) (d := 17) (v := .tuple #[.agg (encX x).toArray, .bool ok]) rfl (by kernel_rfl) (by kernel_rfl) (by kernel_rfl) (fun _ _ _ h => h) rfl (fun w' h => exLook rfl rfl (HL.out w' h)) B3.out ?_
  simp only [Act.put, List.setIfInBounds_toArray, List.set_cons_zero, List.set_cons_succ]
  refine takeV (i := 6) (d := 11) (v := .tuple #[.agg (encX x).toArray, .bool ok]) rfl (by kernel_rfl) (by kernel_rfl) (by kernel_rfl) (fun _ _ _ h => h) rfl (fun _ _ => exMove (v := .tuple #[.agg (encX x).toArray, .bool ok]) rfl) B3.out ?_
  simp only [Act.put, List.setIfInBounds_toArray, List.set_cons_zero, List.set_cons_succ]
  refine takeV (i := 7) (d := 18) (v := .agg (encX x).toArray) rfl (by kernel_rfl) (by kernel_rfl) (by kernel_rfl) (fun _ _ _ h => h) rfl (fun _ _ => exExtract (v := .agg (encX x).toArray) rfl rfl) B3.out ?_
  simp only [Act.put, List.setIfInBounds_toArray, List.set_cons_zero, List.set_cons_succ]
  refine takeV (i := 8) (d := 19) (v := .bool ok) rfl (by kernel_rfl) (by kernel_rfl) (by kernel_rfl) (fun _ _ _ h => h) rfl (fun _ _ => exExtract (v := .bool ok) rfl rfl) B3.out ?_
  simp only [Act.put, List.setIfInBounds_toArray, List.set_cons_zero, List.set_cons_succ]
  refine wpAnyH_all (rs := [9]) (by kernel_rfl) (by simp) ?_
  intro i hi
  simp only [List.mem_cons, List.not_mem_nil, or_false] at hi
  subst hi
  refine wpOp_of rfl rfl (wp_alloced (allocVert _) ?_)
  refine ⟨ext_trans B3.out (below_new _ _), ?_⟩
  simp only [Act.put, List.setIfInBounds_toArray, List.set_cons_zero, List.set_cons_succ]
  have K_1 : Hid (Blk (w3.alloc (.cells zeroX 134)) w3.heap.size 134 zeroX) := Blk.new _ _ _
  have h_2 : Below w3.heap.size w3 (w3.alloc (.cells zeroX 134)) := below_new _ _
  have gz_4 : Hid (w2.heap.size ≤ w3.heap.size) := B3.out.size
  generalize (w3.alloc (.cells zeroX 134)) = w_3 at *
  have B_6 := Lib.hid (ext_trans B3.out h_2)
  clear B3
  clear h_2
  generalize w3.heap.size = g_5 at *
  refine wpAnyH_all (rs := [10]) (by kernel_rfl) (by simp) ?_
  intro i hi
  simp only [List.mem_cons, List.not_mem_nil, or_false] at hi
  subst hi
  refine wpOp_of rfl rfl (wp_stored (cs := (encX x).toArray) rfl rfl K_1.out infoVert rfl (encX_all x) ?_)
  refine ⟨below_setRow B_6.out gz_4.out _, ?_⟩
  have K_7 := Lib.hid (K_1.out.row (encX x).toArray)
  have B_8 := Lib.hid (below_setRow B_6.out gz_4.out (encX x).toArray)
  clear B_6 K_1
  refine takeV (i := 11) (d := 7) (v := .bool ok) rfl (by kernel_rfl) (by kernel_rfl) (by kernel_rfl) (fun _ _ _ h => h) rfl (fun _ _ => exAssign (v := .bool ok) rfl) B_8.out ?_
  simp only [Act.put, List.setIfInBounds_toArray, List.set_cons_zero, List.set_cons_succ]
  refine wpAnyH_done (by kernel_rfl) ?_ _
  have KX := K_7
  have BX := B_8
  clear B_8 K_7
  generalize (w_3.setRow g_5 (encX x).toArray) = w4 at *
  generalize g_5 = gx at *
  have KX := KX
  have B4 := Lib.hid (B0.out.trans (BX.out.mono B0.out.size))
  have KR4 := Lib.hid (KR.out.ext BX.out)
  clear HL HC1 B0 KR g0l R0 BX
  go_wp2_with (first
    | (refine wpList_load_row rfl 134 _ (by rfl) gx (by rfl) _ _ _ _ KX.out underVert rfl infoVert ?_)
    | (refine wpList_store_row rfl 134 _ _ (by rfl) gr (encX x).toArray (by rfl) (by rfl) _ _ KR4.out infoVert rfl (encX_all x) ?_))
  refine bodyPost_ret (results_row_tmp rfl _ _ gr _ (encX x).toArray _ rfl (KR4.out.row _) underVert rfl infoVert) rfl ?_
  exact ⟨rfl, below_setRow B4.out hgr.out _⟩
theorem loadU8c (b o : Nat) (w : World) (n : Int) (h : w.cell? ⟨b, o, none⟩ = some (.int .u8 n)) : (Instr.loadAt 5 (.pointer (some ⟨b, o, none⟩))).run Tryz.prog w = .ok (.int .u8 n) w := by simp [go_sem, h]
theorem loadStrc (b o : Nat) (w : World) (s : ByteArray) (h : w.cell? ⟨b, o, none⟩ = some (.string s)) : (Instr.loadAt 9 (.pointer (some ⟨b, o, none⟩))).run Tryz.prog w = .ok (.string s) w := by simp [go_sem, h]
theorem fieldOp0 (g : Nat) (w : World) : (Instr.fieldAt 122 (.pointer (some ⟨g, 0, none⟩)) 0).run Tryz.prog w = .ok (.pointer (some ⟨g, 0, none⟩)) w := by simp [go_sem]
theorem fieldOp1 (g : Nat) (w : World) : (Instr.fieldAt 122 (.pointer (some ⟨g, 0, none⟩)) 1).run Tryz.prog w = .ok (.pointer (some ⟨g, 1, none⟩)) w := by simp [go_sem]
theorem fieldOp3 (g : Nat) (w : World) : (Instr.fieldAt 122 (.pointer (some ⟨g, 0, none⟩)) 3).run Tryz.prog w = .ok (.pointer (some ⟨g, 7, none⟩)) w := by simp [go_sem]
theorem buildVert (v : VidV) (k : Fin 256) (a : VidV) (s : ByteArray) (w : World) : (Instr.build 134 #[(0, .agg (encV v).toArray), (1, .int .u8 ((k.val : Nat) : Int)), (2, .agg (encV a).toArray), (3, .string s)]).run Tryz.prog w = .ok (.agg (encX (v, k, a, s, false)).toArray) w := by kernel_rfl
theorem opv_at {w : World} {b o : Nat} {x : OpV} (h : w.rangeAt b o (encO x)) : w.rangeAt b (o + 1) (encV x.2.1) := fun j v hj =>
  match j, hj with
  | 0, hj => h 1 v hj
  | 1, hj => h 2 v hj
  | 2, hj => h 3 v hj
  | j + 3, hj => by simp [encV] at hj
theorem opv_to {w : World} {b o : Nat} {x : OpV} (h : w.rangeAt b o (encO x)) : w.rangeAt b (o + 4) (encV x.2.2.1) := fun j v hj =>
  match j, hj with
  | 0, hj => h 4 v hj
  | 1, hj => h 5 v hj
  | 2, hj => h 6 v hj
  | j + 3, hj => by simp [encV] at hj
theorem vx_id {w : World} {b o : Nat} {x : VertV} (h : w.rangeAt b o (encX x)) : w.rangeAt b o (encV x.1) := fun j v hj =>
  match j, hj with
  | 0, hj => h 0 v hj
  | 1, hj => h 1 v hj
  | 2, hj => h 2 v hj
  | j + 3, hj => by simp [encV] at hj
theorem vx_file {w : World} {b o : Nat} {x : VertV} (h : w.rangeAt b o (encX x)) : w.rangeAt b (o + 4) (encV x.2.2.1) := fun j v hj =>
  match j, hj with
  | 0, hj => h 4 v hj
  | 1, hj => h 5 v hj
  | 2, hj => h 6 v hj
  | j + 3, hj => by simp [encV] at hj
def setFile (x : VertV) (v : VidV) : VertV := (x.1, x.2.1, v, x.2.2.2)
theorem vx_set {w : World} {g : Nat} {x : VertV} (h : Blk w g 134 (encX x).toArray) (v : VidV) : Blk (w.setCells g 4 (encV v)) g 134 (encX (setFile x v)).toArray := ((h.set_ 4 _).set_ 5 _).set_ 6 _
theorem vx_there {w : World} {g : Nat} {x : VertV} (h : Blk w g 134 (encX x).toArray) (v : VidV) : w.there g 4 (encV v).toArray.size := fun i hi => by
  have hi3 : i < 3 := hi
  refine ⟨?_, h.fr _⟩
  rw [h.cell]
  have : (encX x).toArray.size = 9 := rfl
  rw [Array.getElem?_eq_getElem (by omega)]; rfl
theorem setCells3_below {B : Nat} {a w : World} (h : Below B a w) {g o : Nat} (hg : B ≤ g) (v : VidV) : Below B a (w.setCells g o (encV v)) := ((h.setCell (p := ⟨g, o, none⟩) hg _).setCell (p := ⟨g, o + 1, none⟩) hg _).setCell (p := ⟨g, o + 1 + 1, none⟩) hg _
/-- an operation of a patch, as it lies behind a pointer -/
theorem vidOf_at {p : PatV} {v : VidV} (h : v.1 = p.1) : vidOf p.1 ((v.2.val : Nat) : Int) = v := (vidOf_eq h.symm).symm
theorem madeX_eq (p : PatV) (k : Nat) (o : OpV) : madeX p k o = if o.1.val = 1 then setFile (vidOf p.1 (k : Int), o.1, o.2.1, o.2.2.2, false) (vidOf p.1 (k : Int)) else (vidOf p.1 (k : Int), o.1, o.2.1, o.2.2.2, false) := by
  unfold madeX setFile
  split <;> rfl
set_option maxRecDepth 100000 in
set_option maxHeartbeats 4000000 in
theorem made20_any (p : PatV) (k : Nat) (o : OpV) (hk : p.2.2[k]? = some o) (w : World) (cs : List Value) (hp : PatAt w cs p) :
    Calls Tryz.prog 68 #[.agg cs.toArray, .int .i64 (k : Int)] w (RetB w (.agg (encX (madeX p k o)).toArray)) := by
  obtain ⟨⟨A, c, A', c', rfl, _, O1⟩, _, m2⟩ := hp
  have hkl := (List.getElem?_eq_some_iff.1 hk).1
  unfold maxLen at m2
  have K0 : Hid (Blk ((w.alloc (.cells (patC p.1 A p.2.1.length c A' p.2.2.length c').toArray 31)).alloc (.cells zeroX 134)) w.heap.size 31 (patC p.1 A p.2.1.length c A' p.2.2.length c').toArray) := (Blk.new _ _ _).alloc _
  have KR : Hid (Blk ((w.alloc (.cells (patC p.1 A p.2.1.length c A' p.2.2.length c').toArray 31)).alloc (.cells zeroX 134)) (w.heap.size + 1) 134 zeroX) := Blk.newAt (by simp) _ _
  have B0 : Hid (Below w.heap.size w ((w.alloc (.cells (patC p.1 A p.2.1.length c A' p.2.2.length c').toArray 31)).alloc (.cells zeroX 134))) := ((Below.refl _ _).alloc (Nat.le_refl _) _).alloc (by simp) _
  have hgr : Hid (w.heap.size ≤ w.heap.size + 1) := Nat.le_succ _
  have OP := Lib.hid (O1.ext B0.out)
  clear O1
  go_enter Tryz.func68, Tryz.ntmps68
  go_upto_region 1 with (refine wpList_alloced (allocVert _) ?_)
  rw [show (w.alloc (.cells (patC p.1 A p.2.1.length c A' p.2.2.length c').toArray 31)).heap.size = w.heap.size + 1 by simp]
  generalize ((w.alloc (.cells (patC p.1 A p.2.1.length c A' p.2.2.length c').toArray 31)).alloc (.cells zeroX 134)) = w1 at *
  generalize w.heap.size + 1 = gr at *
  obtain ⟨g0, hg0⟩ : ∃ g0, g0 = w.heap.size := ⟨_, rfl⟩
  rw [← hg0] at K0 ⊢
  replace hg0 := Lib.hid hg0
  have y3 : w1.cell? ⟨g0, 3, none⟩ = some (.slice A' p.2.2.length c') := K0.out.cell 3
  have RP := Lib.hid (patC_pid K0.out)
  have g0l := K0.out.lt
  obtain ⟨b, oo, o', rfl, hb, hx, R, _⟩ := OP.out.at_ hkl
  rw [hk] at hx
  obtain rfl := Option.some.inj hx
  have hki : (k : Int) < (p.2.2.length : Int) := by omega
  have hk0 : (0 : Int) ≤ (k : Int) := by omega
  have R := Lib.hid R
  have KZ : Hid (Blk (w1.alloc (.cells #[.int .u8 0, .int .u8 0, .int .u16 0, .int .u8 0, .int .u8 0, .int .u16 0, .int .u8 0, .string ByteArray.empty] 122)) w1.heap.size 122 #[.int .u8 0, .int .u8 0, .int .u16 0, .int .u8 0, .int .u8 0, .int .u16 0, .int .u8 0, .string ByteArray.empty]) := Blk.new _ _ _
  have KO : Hid (Blk ((w1.alloc (.cells #[.int .u8 0, .int .u8 0, .int .u16 0, .int .u8 0, .int .u8 0, .int .u16 0, .int .u8 0, .string ByteArray.empty] 122)).setRow w1.heap.size (encO o).toArray) w1.heap.size 122 (encO o).toArray) := KZ.out.row _
  have BN : Hid (Below w1.heap.size w1 ((w1.alloc (.cells #[.int .u8 0, .int .u8 0, .int .u16 0, .int .u8 0, .int .u8 0, .int .u16 0, .int .u8 0, .string ByteArray.empty] 122)).setRow w1.heap.size (encO o).toArray)) := below_setRow (below_new w1 _) (Nat.le_refl _) _
  clear hx
  go_upto_region 2 with (first
    | (refine wpList_load_mid rfl 122 _ (by rfl) b (oo + k * 8) (by rfl) _ _ R.out underOp rfl infoOp ?_)
    | (refine wpList_alloced (allocOp _) ?_)
    | (refine wpList_store_row rfl 122 _ _ (by rfl) w1.heap.size (encO o).toArray (by rfl) (by rfl) _ _ KZ.out infoOp rfl (by simp [encO, Value.oneCell']) ?_))
  generalize ((w1.alloc (.cells #[.int .u8 0, .int .u8 0, .int .u16 0, .int .u8 0, .int .u8 0, .int .u16 0, .int .u8 0, .string ByteArray.empty] 122)).setRow w1.heap.size (encO o).toArray) = w2 at *
  have KP2 := Lib.hid (K0.out.ext BN.out)
  have KR2 := Lib.hid (KR.out.ext BN.out)
  have B2 := Lib.hid (B0.out.trans (BN.out.mono B0.out.size))
  generalize w1.heap.size = g5 at *
  clear KZ BN K0 KR B0 OP y3 RP R
  have RP := Lib.hid (patC_pid KP2.out)
  have g0l := Lib.hid KP2.out.lt
  have g5l := Lib.hid KO.out.lt
  have RO := Lib.hid (blk_pat KO.out)
  have hcV : ∀ args u, (callFunc 131 args).run Tryz.prog u = .ok (.enter 131 args) u := enters_of Tryz.func131 (by kernel_rfl) rfl
  refine wp_region_held (S := fun w' => Below w2.heap.size w2 w') mixedS ?_
  change wpAnyH _ _ _ _ _ _ _ _ w2.drew
  have B3 : Hid (Below w2.heap.size w2 w2.drew) := (Below.refl _ _).drew
  generalize w2.drew = w3 at B3 ⊢
  simp only [List.size_toArray, List.length_cons, List.length_nil]
  refine takeV (i := 0) (d := 12) (v := .pointer (some ⟨g0, 0, none⟩)) rfl (by kernel_rfl) (by kernel_rfl) (by kernel_rfl) (fun _ _ _ h => h) rfl (fun w' _ => exField rfl (fieldPat0 g0 w')) B3.out ?_
  simp only [Act.put, List.setIfInBounds_toArray, List.set_cons_zero, List.set_cons_succ]
  refine takeV (i := 1) (d := 13) (v := .agg (encP p.1).toArray) rfl (by kernel_rfl) (by kernel_rfl) (by kernel_rfl) (fun _ _ _ h => h) rfl (fun w' h => exMid rfl (rangeAt_below RP.out h g0l.out) underPid rfl infoPid) B3.out ?_
  simp only [Act.put, List.setIfInBounds_toArray, List.set_cons_zero, List.set_cons_succ]
  refine takeV (i := 2) (d := 14) (v := .int .i64 (k : Int)) rfl (by kernel_rfl) (by kernel_rfl) (by kernel_rfl) (fun _ _ _ h => h) rfl (fun _ _ => exMove (v := .int .i64 (k : Int)) rfl) B3.out ?_
  simp only [Act.put, List.setIfInBounds_toArray, List.set_cons_zero, List.set_cons_succ]
  refine takeV (i := 4) (d := 16) (v := .pointer (some ⟨g5, 0, none⟩)) rfl (by kernel_rfl) (by kernel_rfl) (by kernel_rfl) (fun _ _ _ h => h) rfl (fun w' _ => exField rfl (fieldOp0 g5 w')) B3.out ?_
  simp only [Act.put, List.setIfInBounds_toArray, List.set_cons_zero, List.set_cons_succ]
  refine takeV (i := 5) (d := 17) (v := (.int .u8 ((o.1.val : Nat) : Int))) rfl (by kernel_rfl) (by kernel_rfl) (by kernel_rfl) (fun _ _ _ h => h) rfl (fun w' h => exLoad rfl (loadU8c g5 0 w' _ ((KO.out.ext h).cell 0))) B3.out ?_
  simp only [Act.put, List.setIfInBounds_toArray, List.set_cons_zero, List.set_cons_succ]
  refine takeV (i := 6) (d := 18) (v := .pointer (some ⟨g5, 1, none⟩)) rfl (by kernel_rfl) (by kernel_rfl) (by kernel_rfl) (fun _ _ _ h => h) rfl (fun w' _ => exField rfl (fieldOp1 g5 w')) B3.out ?_
  simp only [Act.put, List.setIfInBounds_toArray, List.set_cons_zero, List.set_cons_succ]
  refine takeV (i := 7) (d := 19) (v := (.agg (encV o.2.1).toArray)) rfl (by kernel_rfl) (by kernel_rfl) (by kernel_rfl) (fun _ _ _ h => h) rfl (fun w' h => exMid rfl (rangeAt_below (opv_at RO.out) h g5l.out) underVid rfl infoVid) B3.out ?_
  simp only [Act.put, List.setIfInBounds_toArray, List.set_cons_zero, List.set_cons_succ]
  refine takeV (i := 8) (d := 20) (v := .pointer (some ⟨g5, 7, none⟩)) rfl (by kernel_rfl) (by kernel_rfl) (by kernel_rfl) (fun _ _ _ h => h) rfl (fun w' _ => exField rfl (fieldOp3 g5 w')) B3.out ?_
  simp only [Act.put, List.setIfInBounds_toArray, List.set_cons_zero, List.set_cons_succ]
  refine takeV (i := 9) (d := 21) (v := (.string o.2.2.2)) rfl (by kernel_rfl) (by kernel_rfl) (by kernel_rfl) (fun _ _ _ h => h) rfl (fun w' h => exLoad rfl (loadStrc g5 7 w' _ ((KO.out.ext h).cell 7))) B3.out ?_
  simp only [Act.put, List.setIfInBounds_toArray, List.set_cons_zero, List.set_cons_succ]
  refine wpAnyH_all (rs := [3, 11]) (by kernel_rfl) (by simp) ?_
  intro i hi
  simp only [List.mem_cons, List.not_mem_nil, or_false] at hi
  rcases hi with rfl | rfl
  · refine wpOp_of rfl rfl (wp_called (args := #[.agg (encP p.1).toArray, .int .i64 (k : Int)]) hcV (by simp only [List.map_toArray, List.map_cons, List.map_nil]; rfl) (vid18_any p.1 (k : Int) w3) ?_)
    rintro e w_1 ⟨rfl, h_2⟩
    refine ⟨_, rfl, ext_trans B3.out h_2, ?_⟩
    simp only [Act.put, List.setIfInBounds_toArray, List.set_cons_zero, List.set_cons_succ]
    have B_3 := Lib.hid (ext_trans B3.out h_2)
    clear B3
    clear h_2
    refine takeV (i := 10) (d := 22) (v := (.agg (encX (vidOf p.1 (k : Int), o.1, o.2.1, o.2.2.2, false)).toArray)) rfl (by kernel_rfl) (by kernel_rfl) (by kernel_rfl) (fun _ _ _ h => h) rfl (fun w' _ => exBuild (vs := #[(0, .agg (encV (vidOf p.1 (k : Int))).toArray), (1, .int .u8 ((o.1.val : Nat) : Int)), (2, .agg (encV o.2.1).toArray), (3, .string o.2.2.2)]) (by simp only [List.map_toArray, List.map_cons, List.map_nil]; rfl) (buildVert _ _ _ _ w')) B_3.out ?_
    simp only [Act.put, List.setIfInBounds_toArray, List.set_cons_zero, List.set_cons_succ]
    refine wpAnyH_all (rs := [11]) (by kernel_rfl) (by simp) ?_
    intro i hi
    simp only [List.mem_cons, List.not_mem_nil, or_false] at hi
    subst hi
    refine wpOp_of rfl rfl (wp_alloced (allocVert _) ?_)
    refine ⟨ext_trans B_3.out (below_new _ _), ?_⟩
    simp only [Act.put, List.setIfInBounds_toArray, List.set_cons_zero, List.set_cons_succ]
    have K_4 : Hid (Blk (w_1.alloc (.cells zeroX 134)) w_1.heap.size 134 zeroX) := Blk.new _ _ _
    have h_5 : Below w_1.heap.size w_1 (w_1.alloc (.cells zeroX 134)) := below_new _ _
    have gz_7 : Hid (w2.heap.size ≤ w_1.heap.size) := B_3.out.size
    generalize (w_1.alloc (.cells zeroX 134)) = w_6 at *
    have B_9 := Lib.hid (ext_trans B_3.out h_5)
    clear B_3
    clear h_5
    generalize w_1.heap.size = g_8 at *
    refine wpAnyH_all (rs := [12]) (by kernel_rfl) (by simp) ?_
    intro i hi
    simp only [List.mem_cons, List.not_mem_nil, or_false] at hi
    subst hi
    refine wpOp_of rfl rfl (wp_stored (cs := (encX (vidOf p.1 (k : Int), o.1, o.2.1, o.2.2.2, false)).toArray) rfl rfl K_4.out infoVert rfl (encX_all _) ?_)
    refine ⟨below_setRow B_9.out gz_7.out _, ?_⟩
    have K_10 := Lib.hid (K_4.out.row (encX (vidOf p.1 (k : Int), o.1, o.2.1, o.2.2.2, false)).toArray)
    have B_11 := Lib.hid (below_setRow B_9.out gz_7.out (encX (vidOf p.1 (k : Int), o.1, o.2.1, o.2.2.2, false)).toArray)
    clear B_9 K_4
    refine wpAnyH_done (by kernel_rfl) ?_ _
    have KX := K_10
    have BX := B_11
    clear B_11 K_10
    generalize (w_6.setRow g_8 (encX (vidOf p.1 (k : Int), o.1, o.2.1, o.2.2.2, false)).toArray) = w4 at *
    have hgx : Hid (w.heap.size ≤ g_8) := Nat.le_trans B2.out.size gz_7.out
    generalize g_8 = gx at *
    have KO4 := Lib.hid (KO.out.ext BX.out)
    have KR4 := Lib.hid (KR2.out.ext BX.out)
    have B4 := Lib.hid (B2.out.trans (BX.out.mono B2.out.size))
    have hxr : Hid (gx ≠ gr) := by have := KR2.out.lt; have := gz_7.out; rw [Hid]; omega
    have hE := Lib.hid (madeX_eq p k o)
    clear KO KR2 B2 RP g0l g5l RO BX KP2 hcV gz_7
    generalize vidOf p.1 (k : Int) = v at *
    have yk : w4.cell? ⟨g5, 0, none⟩ = some (.int .u8 ((o.1.val : Nat) : Int)) := KO4.out.cell 0
    by_cases h1 : o.1.val = 1
    · rw [if_pos h1] at hE
      have z1 : (((o.1.val : Nat) : Int) == 1) = true := by rw [beq_iff_eq]; omega
      have TX := Lib.hid (vx_there KX.out v)
      have RI := Lib.hid (vx_id (blk_pat KX.out))
      have KF := Lib.hid (vx_set KX.out v)
      have BF : Hid (Below w.heap.size w (w4.setCells gx 4 (encV v))) := setCells3_below B4.out hgx.out v
      have KR5 : Hid (Blk (w4.setCells gx 4 (encV v)) gr 134 zeroX) := ((KR4.out.far (p := ⟨gx, 4, none⟩) (Ne.symm hxr.out) _).far (p := ⟨gx, 5, none⟩) (Ne.symm hxr.out) _).far (p := ⟨gx, 6, none⟩) (Ne.symm hxr.out) _
      clear KX KR4 B4 KO4
      go_upto_region 5 with (first
        | (refine wpList_load_mid rfl 120 _ (by rfl) gx 0 (by rfl) _ _ RI.out underVid rfl infoVid ?_)
        | (refine wpList_store_mid rfl 120 _ _ rfl gx 4 (encV v).toArray (by rfl) (by rfl) TX.out infoVid (all_oneCell_toArray (encV_one _)) ?_))
      generalize (w4.setCells gx 4 (encV v).toArray.toList) = w5 at *
      clear TX RI yk
      rw [← hE.out] at KF
      go_wp2_with (first
        | (refine wpList_load_row rfl 134 _ (by rfl) gx (by rfl) _ _ _ _ KF.out underVert rfl infoVert ?_)
        | (refine wpList_store_row rfl 134 _ _ (by rfl) gr (encX (madeX p k o)).toArray (by rfl) (by rfl) _ _ KR5.out infoVert rfl (encX_all _) ?_))
      refine bodyPost_ret (results_cell_row rfl _ _ gr _ (encX (madeX p k o)).toArray _ _ rfl (KR5.out.row _) underVert rfl infoVert) rfl ?_
      exact ⟨rfl, below_setRow BF.out hgr.out _⟩
    · rw [if_neg h1] at hE
      have z1 : (((o.1.val : Nat) : Int) == 1) = false := by rw [beq_eq_false_iff_ne]; omega
      rw [← hE.out] at KX
      go_wp2_with (first
        | (refine wpList_load_row rfl 134 _ (by rfl) gx (by rfl) _ _ _ _ KX.out underVert rfl infoVert ?_)
        | (refine wpList_store_row rfl 134 _ _ (by rfl) gr (encX (madeX p k o)).toArray (by rfl) (by rfl) _ _ KR4.out infoVert rfl (encX_all _) ?_))
      refine bodyPost_ret (results_cell_row rfl _ _ gr _ (encX (madeX p k o)).toArray _ _ rfl (KR4.out.row _) underVert rfl infoVert) rfl ?_
      exact ⟨rfl, below_setRow B4.out hgr.out _⟩
  · refine wpOp_of rfl rfl (wp_alloced (allocVert _) ?_)
    refine ⟨ext_trans B3.out (below_new _ _), ?_⟩
    simp only [Act.put, List.setIfInBounds_toArray, List.set_cons_zero, List.set_cons_succ]
    have K_13 : Hid (Blk (w3.alloc (.cells zeroX 134)) w3.heap.size 134 zeroX) := Blk.new _ _ _
    have h_14 : Below w3.heap.size w3 (w3.alloc (.cells zeroX 134)) := below_new _ _
    have gz_16 : Hid (w2.heap.size ≤ w3.heap.size) := B3.out.size
    generalize (w3.alloc (.cells zeroX 134)) = w_15 at *
    have B_18 := Lib.hid (ext_trans B3.out h_14)
    clear B3
    clear h_14
    generalize w3.heap.size = g_17 at *
    refine wpAnyH_all (rs := [3]) (by kernel_rfl) (by simp) ?_
    intro i hi
    simp only [List.mem_cons, List.not_mem_nil, or_false] at hi
    subst hi
    refine wpOp_of rfl rfl (wp_called (args := #[.agg (encP p.1).toArray, .int .i64 (k : Int)]) hcV (by simp only [List.map_toArray, List.map_cons, List.map_nil]; rfl) (vid18_any p.1 (k : Int) w_15) ?_)
    rintro e w_19 ⟨rfl, h_20⟩
    refine ⟨_, rfl, ext_trans B_18.out h_20, ?_⟩
    simp only [Act.put, List.setIfInBounds_toArray, List.set_cons_zero, List.set_cons_succ]
    have B_21 := Lib.hid (ext_trans B_18.out h_20)
    have F_22 := Lib.hid (K_13.out.ext h_20)
    clear B_18 K_13
    clear h_20
    refine takeV (i := 10) (d := 22) (v := (.agg (encX (vidOf p.1 (k : Int), o.1, o.2.1, o.2.2.2, false)).toArray)) rfl (by kernel_rfl) (by kernel_rfl) (by kernel_rfl) (fun _ _ _ h => h) rfl (fun w' _ => exBuild (vs := #[(0, .agg (encV (vidOf p.1 (k : Int))).toArray), (1, .int .u8 ((o.1.val : Nat) : Int)), (2, .agg (encV o.2.1).toArray), (3, .string o.2.2.2)]) (by simp only [List.map_toArray, List.map_cons, List.map_nil]; rfl) (buildVert _ _ _ _ w')) B_21.out ?_
    simp only [Act.put, List.setIfInBounds_toArray, List.set_cons_zero, List.set_cons_succ]
    refine wpAnyH_all (rs := [12]) (by kernel_rfl) (by simp) ?_
    intro i hi
    simp only [List.mem_cons, List.not_mem_nil, or_false] at hi
    subst hi
    refine wpOp_of rfl rfl (wp_stored (cs := (encX (vidOf p.1 (k : Int), o.1, o.2.1, o.2.2.2, false)).toArray) rfl rfl F_22.out infoVert rfl (encX_all _) ?_)
    refine ⟨below_setRow B_21.out gz_16.out _, ?_⟩
    have K_23 := Lib.hid (F_22.out.row (encX (vidOf p.1 (k : Int), o.1, o.2.1, o.2.2.2, false)).toArray)
    have B_24 := Lib.hid (below_setRow B_21.out gz_16.out (encX (vidOf p.1 (k : Int), o.1, o.2.1, o.2.2.2, false)).toArray)
    clear B_21 F_22
    refine wpAnyH_done (by kernel_rfl) ?_ _
    have KX := K_23
    have BX := B_24
    clear B_24 K_23
    generalize (w_19.setRow g_17 (encX (vidOf p.1 (k : Int), o.1, o.2.1, o.2.2.2, false)).toArray) = w4 at *
    have hgx : Hid (w.heap.size ≤ g_17) := Nat.le_trans B2.out.size gz_16.out
    generalize g_17 = gx at *
    have KO4 := Lib.hid (KO.out.ext BX.out)
    have KR4 := Lib.hid (KR2.out.ext BX.out)
    have B4 := Lib.hid (B2.out.trans (BX.out.mono B2.out.size))
    have hxr : Hid (gx ≠ gr) := by have := KR2.out.lt; have := gz_16.out; rw [Hid]; omega
    have hE := Lib.hid (madeX_eq p k o)
    clear KO KR2 B2 RP g0l g5l RO BX KP2 hcV gz_16
    generalize vidOf p.1 (k : Int) = v at *
    have yk : w4.cell? ⟨g5, 0, none⟩ = some (.int .u8 ((o.1.val : Nat) : Int)) := KO4.out.cell 0
    by_cases h1 : o.1.val = 1
    · rw [if_pos h1] at hE
      have z1 : (((o.1.val : Nat) : Int) == 1) = true := by rw [beq_iff_eq]; omega
      have TX := Lib.hid (vx_there KX.out v)
      have RI := Lib.hid (vx_id (blk_pat KX.out))
      have KF := Lib.hid (vx_set KX.out v)
      have BF : Hid (Below w.heap.size w (w4.setCells gx 4 (encV v))) := setCells3_below B4.out hgx.out v
      have KR5 : Hid (Blk (w4.setCells gx 4 (encV v)) gr 134 zeroX) := ((KR4.out.far (p := ⟨gx, 4, none⟩) (Ne.symm hxr.out) _).far (p := ⟨gx, 5, none⟩) (Ne.symm hxr.out) _).far (p := ⟨gx, 6, none⟩) (Ne.symm hxr.out) _
      clear KX KR4 B4 KO4
      go_upto_region 5 with (first
        | (refine wpList_load_mid rfl 120 _ (by rfl) gx 0 (by rfl) _ _ RI.out underVid rfl infoVid ?_)
        | (refine wpList_store_mid rfl 120 _ _ rfl gx 4 (encV v).toArray (by rfl) (by rfl) TX.out infoVid (all_oneCell_toArray (encV_one _)) ?_))
      generalize (w4.setCells gx 4 (encV v).toArray.toList) = w5 at *
      clear TX RI yk
      rw [← hE.out] at KF
      go_wp2_with (first
        | (refine wpList_load_row rfl 134 _ (by rfl) gx (by rfl) _ _ _ _ KF.out underVert rfl infoVert ?_)
        | (refine wpList_store_row rfl 134 _ _ (by rfl) gr (encX (madeX p k o)).toArray (by rfl) (by rfl) _ _ KR5.out infoVert rfl (encX_all _) ?_))
      refine bodyPost_ret (results_cell_row rfl _ _ gr _ (encX (madeX p k o)).toArray _ _ rfl (KR5.out.row _) underVert rfl infoVert) rfl ?_
      exact ⟨rfl, below_setRow BF.out hgr.out _⟩
    · rw [if_neg h1] at hE
      have z1 : (((o.1.val : Nat) : Int) == 1) = false := by rw [beq_eq_false_iff_ne]; omega
      rw [← hE.out] at KX
      go_wp2_with (first
        | (refine wpList_load_row rfl 134 _ (by rfl) gx (by rfl) _ _ _ _ KX.out underVert rfl infoVert ?_)
        | (refine wpList_store_row rfl 134 _ _ (by rfl) gr (encX (madeX p k o)).toArray (by rfl) (by rfl) _ _ KR4.out infoVert rfl (encX_all _) ?_))
      refine bodyPost_ret (results_cell_row rfl _ _ gr _ (encX (madeX p k o)).toArray _ _ rfl (KR4.out.row _) underVert rfl infoVert) rfl ?_
      exact ⟨rfl, below_setRow B4.out hgr.out _⟩
end Go.Proofs.YtihggkmjalofiaaGreatDoor
