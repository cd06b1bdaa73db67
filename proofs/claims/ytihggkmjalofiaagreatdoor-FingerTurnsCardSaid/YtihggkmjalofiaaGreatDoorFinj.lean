/- A graph's fingerprint is of few bytes: no program in sight. -/
import Derived.Test.YtihggkmjalofiaaGreatDoorFinh
import Derived.Test.YtihggkmjalofiaaGreatDoorGras
namespace Go.Proofs.YtihggkmjalofiaaGreatDoor
open Go.RowKit

theorem opsN_few {L : List PatV} (h : L.length ≤ 12) (hf : ∀ p ∈ L, p.2.2.length ≤ 60) : opsN L ≤ 720 := by
  have : ∀ M : List PatV, (∀ p ∈ M, p.2.2.length ≤ 60) → opsN M ≤ 60 * M.length := by
    intro M
    induction M with
    | nil => intro _; simp [opsN]
    | cons p M ih =>
      intro hm
      have h1 := ih fun q hq => hm q (by simp [hq])
      have h2 := hm p (by simp)
      unfold opsN at h1 ⊢
      rw [List.map_cons, List.sum_cons, List.length_cons]
      omega
  have := this L hf
  omega
theorem flat_le {α : Type} (f : α → List UInt8) (m : Nat) : ∀ l : List α, (∀ x ∈ l, (f x).length ≤ m) → (l.flatMap f).length ≤ m * l.length := by
  intro l
  induction l with
  | nil => intro _; simp
  | cons x l ih =>
    intro h
    have h1 := ih fun y hy => h y (by simp [hy])
    have h2 := h x (by simp)
    rw [List.flatMap_cons, List.length_append, List.length_cons, Nat.mul_add]
    omega
theorem verts_len_ops (L : List PatV) : (vertsL L).length ≤ opsN L := by
  have h1 : (vertsL L).length ≤ (idsOf L).length := by unfold vertsL idsL; rw [List.length_map]; exact setK_len _
  have : ∀ M : List PatV, (M.flatMap idsP).length ≤ (M.map fun p => p.2.2.length).sum := by
    intro M
    induction M with
    | nil => simp
    | cons p M ih =>
      rw [List.flatMap_cons, List.length_append, List.map_cons, List.sum_cons]
      have : (idsP p).length ≤ p.2.2.length := by
        unfold idsP
        refine Nat.le_trans (List.length_filterMap_le _ _) ?_
        rw [List.length_range]
        exact Nat.le_refl _
      omega
  exact Nat.le_trans h1 (this L)
theorem edges_len_ops (L : List PatV) : (edgesL L).length ≤ opsN L := by
  have h1 : (edgesL L).length ≤ (edgesOf L).length := by unfold edgesL; exact setK_len _
  have : ∀ M : List PatV, (M.flatMap edgesP).length ≤ (M.map fun p => p.2.2.length).sum := by
    intro M
    induction M with
    | nil => simp
    | cons p M ih =>
      rw [List.flatMap_cons, List.length_append, List.map_cons, List.sum_cons]
      have : (edgesP p).length ≤ p.2.2.length := by
        unfold edgesP
        exact List.length_filterMap_le _ _
      omega
  exact Nat.le_trans h1 (this L)
theorem verts_text {L : List PatV} (hG : GrOk L) : ∀ x ∈ vertsL L, x.2.2.2.1.size ≤ 60 := fun x hx => by
  have h1 := (hG.verts x).1 hx
  unfold vertV at h1
  obtain ⟨r, hr, hx1⟩ := Option.map_eq_some_iff.1 h1
  have e : r.2.2 = x.2.2.2.1 := congrArg (fun y : VertV => y.2.2.2.1) hx1
  obtain ⟨p, hp, h2⟩ := hG.raw.1 hr
  obtain ⟨_, o, ho, _, rfl⟩ := rawP_get.1 h2
  rw [← e]
  exact (pat_plain (hG.good p hp) o (List.mem_of_getElem? ho)).2.2.2.2
theorem vertB_len (x : VertV) (h : x.2.2.2.1.size ≤ 60) : (vertB x).length ≤ 80 := by
  have h1 : (vbytes (packN x.1)).length ≤ 5 := vbytes_len 4 _ (by have := packN_lt x.1; omega)
  have h2 : (vbytes x.2.1.val).length ≤ 2 := vbytes_len 1 _ (by have := x.2.1.isLt; omega)
  have h3 : (vbytes (packN x.2.2.1)).length ≤ 5 := vbytes_len 4 _ (by have := packN_lt x.2.2.1; omega)
  have h4 : (vbytes (deadN x)).length ≤ 1 := vbytes_len 0 _ (by unfold deadN; split <;> omega)
  have h5 : (vbytes x.2.2.2.1.size).length ≤ 1 := vbytes_len 0 _ (by omega)
  have h6 : x.2.2.2.1.data.toList.length = x.2.2.2.1.size := rfl
  unfold vertB
  simp only [List.flatMap_cons, List.flatMap_nil, List.length_append, List.length_nil]
  omega
theorem edgeB_len (e : EdgeV) : (edgeB e).length ≤ 10 := by
  have h1 : (vbytes (packN e.1)).length ≤ 5 := vbytes_len 4 _ (by have := packN_lt e.1; omega)
  have h2 : (vbytes (packN e.2)).length ≤ 5 := vbytes_len 4 _ (by have := packN_lt e.2; omega)
  unfold edgeB
  simp only [List.flatMap_cons, List.flatMap_nil, List.length_append, List.length_nil]
  omega
theorem gB_len {v : List Int} {vs : List VertV} {es : List EdgeV} (hv : VecOk v) (h1 : vs.length ≤ 720) (h2 : es.length ≤ 720) (ht : ∀ x ∈ vs, x.2.2.2.1.size ≤ 60) : (gB v vs es).length ≤ 100000 := by
  have k1 : (vecBF v).length ≤ 3 * v.length := flat_le _ 3 v fun z hz => vbytes_len 2 _ (by have := hv.bd z hz; omega)
  have k2 := flat_le vertB 80 vs fun x hx => vertB_len x (ht x hx)
  have k3 := flat_le edgeB 10 es fun e _ => edgeB_len e
  have k4 : (vbytes vs.length).length ≤ 3 := vbytes_len 2 _ (by omega)
  have k5 : (vbytes es.length).length ≤ 3 := vbytes_len 2 _ (by omega)
  have k6 := hv.len
  unfold gB
  simp only [List.length_append]
  omega
theorem gB_few {L : List PatV} (hG : GrOk L) (h : L.length ≤ 12) (hf : ∀ p ∈ L, p.2.2.length ≤ 60) : (gB (vecL L) (vertsL L) (edgesL L)).length ≤ 100000 := by
  have h0 := opsN_few h hf
  have h1 := verts_len_ops L
  have h2 := edges_len_ops L
  exact gB_len (vecL_ok L) (by omega) (by omega) (verts_text hG)
end Go.Proofs.YtihggkmjalofiaaGreatDoor

/- A graph's fingerprint, of nil, and of a graph as it lies. -/
namespace Go.Proofs.YtihggkmjalofiaaGreatDoor
open Go.RowKit

theorem someF_nil (F : FuncId) (caps : Array Value) (w : World) : Calls Tryz.prog 147 #[.pointer none, .func (.func F) #[] caps] w (Ret w (.slice none 0 0)) := by
  go_enter Tryz.func147, Tryz.ntmps147
  go_wp2
  go_ret
  exact ⟨rfl, rfl⟩
theorem stepsF_nil (F : FuncId) (caps : Array Value) (w : World) : Calls Tryz.prog 149 #[.pointer none, .func (.func F) #[] caps] w (Ret w (.slice none 0 0)) := by
  go_enter Tryz.func149, Tryz.ntmps149
  go_wp2
  go_ret
  exact ⟨rfl, rfl⟩
theorem vertsF_nil (w : World) : Calls Tryz.prog 71 #[.pointer none] w (OwnedRet w 134 9 0 []) := by
  go_enter Tryz.func71, Tryz.ntmps71
  go_wp2_with fail
  refine (someF_nil _ _ w).mono ?_
  rintro e w3 ⟨rfl, rfl⟩
  go_wp2
  go_ret
  exact ⟨_, rfl, World.ownsRow_nil _ _ _ _, Below.refl _ _⟩
theorem edgesF_nil (w : World) : Calls Tryz.prog 72 #[.pointer none] w (OwnedRet w 137 6 0 []) := by
  go_enter Tryz.func72, Tryz.ntmps72
  go_wp2_with fail
  refine (stepsF_nil _ _ w).mono ?_
  rintro e w3 ⟨rfl, rfl⟩
  go_wp2
  go_ret
  exact ⟨_, rfl, World.ownsRow_nil _ _ _ _, Below.refl _ _⟩
set_option maxRecDepth 100000 in
set_option maxHeartbeats 1000000 in
theorem vecF_nil (w : World) : Calls Tryz.prog 69 #[.pointer none] w (RetB w (.agg (vecA vec0))) := by
  have B0 : Hid (Below w.heap.size w (w.alloc (.cells (vecA vec0) 75))) := below_new _ _
  have K1 : Hid (Blk (w.alloc (.cells (vecA vec0) 75)) w.heap.size 75 (vecA vec0)) := Blk.new _ _ _
  have hs2 : Hid ((vecA vec0).size = 64) := by rw [Hid, vecA_size]; simp [vec0]
  have h1 := Lib.hid (vecA_one vec0)
  go_enter Tryz.func69, Tryz.ntmps69
  go_wp2_with (first
    | (refine wpList_alloced (alloc64 _) ?_)
    | (refine wpList_store_row rfl 75 _ _ (by rfl) w.heap.size (vecA vec0) (by rfl) (by rfl) _ _ K1.out (by rw [hs2.out]; exact info64) rfl h1.out ?_))
  refine bodyPost_ret (results_cell_row rfl _ _ w.heap.size _ (vecA vec0) _ _ rfl (K1.out.row _) under64 rfl (by rw [hs2.out]; exact info64)) rfl ?_
  exact ⟨rfl, below_setRow B0.out (Nat.le_refl _) _⟩
/-- the fingerprint of a graph of these patches -/
def fgS (L : List PatV) : List UInt8 := sumS kS hS (gB (vecL L) (vertsL L) (edgesL L))
theorem fgS_len (L : List PatV) : (fgS L).length = 32 := sumS_len _ _ _
theorem fgS_same {A B : List PatV} (h : vecL A = vecL B ∧ vertsL A = vertsL B ∧ edgesL A = edgesL B) : fgS A = fgS B := by
  unfold fgS
  rw [h.1, h.2.1, h.2.2]
theorem fgraph_at {w : World} {F : Nat → Prop} {g : Nat} {L : List PatV} (hI : GraphAt w F g L) (h12 : L.length ≤ 12) (hf : ∀ p ∈ L, p.2.2.length ≤ 60) (hK : ShaK w) (hB : ShaB w) :
    Calls Tryz.prog 16 #[.pointer (some ⟨g, 0, none⟩)] w (RetB w (.agg (bytesS (fgS L)))) :=
  fgraph_any _ w _ (vecL_ok L) _ _ (gB_few hI.ok h12 hf) (fun x hx => by have := verts_text hI.ok x hx; omega) (fun u hu => vec20_any (hI.ext hu).mem) (fun u hu => verts20_any (hI.ext hu) (by omega)) (fun u hu => edges20_any (hI.ext hu) (by omega)) hK hB
theorem gB_nil : gB vec0 [] [] = gB (vecL []) (vertsL []) (edgesL []) := rfl
theorem fgraph_nil (w : World) (hK : ShaK w) (hB : ShaB w) : Calls Tryz.prog 16 #[.pointer none] w (RetB w (.agg (bytesS (fgS [])))) := by
  unfold fgS
  rw [← gB_nil]
  exact fgraph_any _ w _ vec0_ok [] [] (gB_len vec0_ok (by simp) (by simp) (fun x hx => by cases hx)) (fun x hx => by cases hx) (fun u _ => vecF_nil u) (fun u _ => vertsF_nil u) (fun u _ => edgesF_nil u) hK hB
end Go.Proofs.YtihggkmjalofiaaGreatDoor
