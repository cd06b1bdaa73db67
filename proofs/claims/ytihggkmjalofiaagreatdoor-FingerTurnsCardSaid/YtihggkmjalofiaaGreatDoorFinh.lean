/- A graph's fingerprint (begun: the plain part, and the walk up to the first loop). -/
import Derived.Test.YtihggkmjalofiaaGreatDoorFing
import Derived.Test.YtihggkmjalofiaaGreatDoorGrl
import Derived.Test.YtihggkmjalofiaaGreatDoorKinds
import Derived.Test.YtihggkmjalofiaaGreatDoorVids
namespace Go.Proofs.YtihggkmjalofiaaGreatDoor
open Go.RowKit

def vertB (x : VertV) : List UInt8 := [packN x.1, x.2.1.val, packN x.2.2.1, deadN x].flatMap vbytes ++ (vbytes x.2.2.2.1.size ++ x.2.2.2.1.data.toList)
def edgeB (e : EdgeV) : List UInt8 := [packN e.1, packN e.2].flatMap vbytes
def vecBF (v : List Int) : List UInt8 := v.flatMap fun z => vbytes z.toNat
/-- what a graph's fingerprint is of -/
def gB (v : List Int) (vs : List VertV) (es : List EdgeV) : List UInt8 := vecBF v ++ vbytes vs.length ++ vs.flatMap vertB ++ vbytes es.length ++ es.flatMap edgeB
theorem vecBF_next {v : List Int} {k : Nat} {z : Int} (h : v[k]? = some z) : vecBF (v.take (k + 1)) = vecBF (v.take k) ++ [z.toNat].flatMap vbytes := by
  unfold vecBF
  rw [List.take_add_one, h, List.flatMap_append]
  simp
theorem vertB_next {l : List VertV} {k : Nat} {x : VertV} (h : l[k]? = some x) : (l.take (k + 1)).flatMap vertB = (l.take k).flatMap vertB ++ vertB x := by
  rw [List.take_add_one, h, List.flatMap_append]
  simp
theorem edgeB_next {l : List EdgeV} {k : Nat} {x : EdgeV} (h : l[k]? = some x) : (l.take (k + 1)).flatMap edgeB = (l.take k).flatMap edgeB ++ edgeB x := by
  rw [List.take_add_one, h, List.flatMap_append]
  simp
end Go.Proofs.YtihggkmjalofiaaGreatDoor

/- Two graphs that hold the same are the same: graph.Same, walked for that case. -/
namespace Go.Proofs.YtihggkmjalofiaaGreatDoor
open Go.RowKit

/-- vertices in a slice -/
structure VertsAt (w : World) (A : Option Addr) (n : Nat) (l : List VertV) : Prop where
  len : l.length = n
  sl : Sl w w.heap.size 9 A n (l.flatMap encX)
theorem VertsAt.ext {w w' : World} {A : Option Addr} {n : Nat} {l : List VertV} (h : VertsAt w A n l) (hb : Below w.heap.size w w') : VertsAt w' A n l := ⟨h.len, (h.sl.below hb (Nat.le_refl _)).more hb.size⟩
theorem VertsAt.at_ {w : World} {A : Option Addr} {n : Nat} {l : List VertV} (h : VertsAt w A n l) {k : Nat} (hk : k < n) : ∃ b o x, A = some ⟨b, o, none⟩ ∧ b < w.heap.size ∧ l[k]? = some x ∧ w.rangeAt b (o + k * 9) (encX x) := by
  have hk' : k < l.length := by rw [h.len]; exact hk
  obtain ⟨b, o, e, hb, hr⟩ := h.sl.rowAt h.len (fun x _ => encX_len x) hk'
  exact ⟨b, o, l[k], e, hb, List.getElem?_eq_getElem hk', hr⟩
theorem VertsAt.of_own {w : World} {base n : Nat} {v : Value} {l : List VertV} (h : w.ownsRow base 134 9 v n (l.flatMap encX)) (hn : l.length = n) : ∃ A c, v = .slice A n c ∧ n ≤ c ∧ VertsAt w A n l := by
  obtain ⟨A, c, rfl, hc, hs⟩ := Sl.of_own h
  exact ⟨A, c, rfl, hc, hn, hs⟩
/-- steps in a slice -/
structure EdgesAt (w : World) (A : Option Addr) (n : Nat) (l : List EdgeV) : Prop where
  len : l.length = n
  sl : Sl w w.heap.size 6 A n (l.flatMap encE)
theorem EdgesAt.ext {w w' : World} {A : Option Addr} {n : Nat} {l : List EdgeV} (h : EdgesAt w A n l) (hb : Below w.heap.size w w') : EdgesAt w' A n l := ⟨h.len, (h.sl.below hb (Nat.le_refl _)).more hb.size⟩
theorem EdgesAt.at_ {w : World} {A : Option Addr} {n : Nat} {l : List EdgeV} (h : EdgesAt w A n l) {k : Nat} (hk : k < n) : ∃ b o x, A = some ⟨b, o, none⟩ ∧ b < w.heap.size ∧ l[k]? = some x ∧ w.rangeAt b (o + k * 6) (encE x) := by
  have hk' : k < l.length := by rw [h.len]; exact hk
  obtain ⟨b, o, e, hb, hr⟩ := h.sl.rowAt h.len (fun x _ => encE_len x) hk'
  exact ⟨b, o, l[k], e, hb, List.getElem?_eq_getElem hk', hr⟩
theorem EdgesAt.of_own {w : World} {base n : Nat} {v : Value} {l : List EdgeV} (h : w.ownsRow base 137 6 v n (l.flatMap encE)) (hn : l.length = n) : ∃ A c, v = .slice A n c ∧ n ≤ c ∧ EdgesAt w A n l := by
  obtain ⟨A, c, rfl, hc, hs⟩ := Sl.of_own h
  exact ⟨A, c, rfl, hc, hn, hs⟩
end Go.Proofs.YtihggkmjalofiaaGreatDoor

/- A graph's fingerprint: walked. -/
namespace Go.Proofs.YtihggkmjalofiaaGreatDoor
open Go.RowKit

theorem encX_id (x : VertV) : ∀ (j : Nat) (v : Value), (encV x.1)[j]? = some v → (encX x).toArray[0 + j]? = some v
  | 0, _, h => h
  | 1, _, h => h
  | 2, _, h => h
  | j + 3, _, h => by simp [encV] at h
theorem encX_file (x : VertV) : ∀ (j : Nat) (v : Value), (encV x.2.2.1)[j]? = some v → (encX x).toArray[4 + j]? = some v
  | 0, _, h => h
  | 1, _, h => h
  | 2, _, h => h
  | j + 3, _, h => by simp [encV] at h
theorem encE_one' (x : EdgeV) : ∀ (j : Nat) (v : Value), (encV x.1)[j]? = some v → (encE x).toArray[0 + j]? = some v
  | 0, _, h => h
  | 1, _, h => h
  | 2, _, h => h
  | j + 3, _, h => by simp [encV] at h
theorem encE_two (x : EdgeV) : ∀ (j : Nat) (v : Value), (encV x.2)[j]? = some v → (encE x).toArray[3 + j]? = some v
  | 0, _, h => h
  | 1, _, h => h
  | 2, _, h => h
  | j + 3, _, h => by simp [encV] at h
theorem flat_take_le {α : Type} (f : α → List UInt8) (l : List α) (k : Nat) : ((l.take k).flatMap f).length ≤ (l.flatMap f).length := by
  conv => rhs; rw [← List.take_append_drop k l]
  rw [List.flatMap_append, List.length_append]
  omega
theorem deadN_le (x : VertV) : deadN x ≤ 1 := by unfold deadN; split <;> omega
theorem allocEdgeF (w : World) : (Instr.alloc 137 true (.tuple #[])).run Tryz.prog w = .ok (.pointer (some ⟨w.heap.size, 0, none⟩)) (w.alloc (.cells (encE (vid0, vid0)).toArray 137)) := by kernel_rfl
theorem encE_allF (e : EdgeV) : (encE e).toArray.all (·.oneCell') = true := by simp [encE, Value.oneCell']
set_option maxRecDepth 100000 in
set_option maxHeartbeats 16000000 in
theorem fgraph_any (pv : Value) (w : World) (v : List Int) (hv : VecOk v) (vs : List VertV) (es : List EdgeV) (hl : (gB v vs es).length ≤ 100000) (ht : ∀ x ∈ vs, x.2.2.2.1.size ≤ 1000)
    (hV : ∀ u : World, Below w.heap.size w u → Calls Tryz.prog 69 #[pv] u (RetB u (.agg (vecA v))))
    (hN : ∀ u : World, Below w.heap.size w u → Calls Tryz.prog 71 #[pv] u (OwnedRet u 134 9 vs.length (vs.flatMap encX)))
    (hE : ∀ u : World, Below w.heap.size w u → Calls Tryz.prog 72 #[pv] u (OwnedRet u 137 6 es.length (es.flatMap encE)))
    (hK : ShaK w) (hB : ShaB w) : Calls Tryz.prog 16 #[pv] w (RetB w (.agg (bytesS (sumS kS hS (gB v vs es))))) := by
  have HV := Lib.hid hV
  have HN := Lib.hid hN
  have HE := Lib.hid hE
  have HK := Lib.hid hK
  have HB := Lib.hid hB
  have HT := Lib.hid ht
  have HVO := Lib.hid hv
  have GE : Hid (gB v vs es = vecBF v ++ vbytes vs.length ++ vs.flatMap vertB ++ vbytes es.length ++ es.flatMap edgeB) := rfl
  have HL : Hid ((vecBF v).length + (vbytes vs.length).length + (vs.flatMap vertB).length + (vbytes es.length).length + (es.flatMap edgeB).length ≤ 100000) := by
    have h1 := hl
    rw [GE.out] at h1
    simp only [List.length_append] at h1
    exact h1
  have NV : Hid (vs.length ≤ 100000) := by
    have h1 := HL.out
    have h2 : ∀ l : List VertV, l.length ≤ (l.flatMap vertB).length := by
      intro l
      induction l with
      | nil => simp
      | cons x l ih =>
        have h3 : 1 ≤ (vertB x).length := by
          have := vbytes_pos (packN x.1)
          unfold vertB
          simp only [List.flatMap_cons, List.length_append]
          omega
        rw [List.flatMap_cons, List.length_append, List.length_cons]
        omega
    have := h2 vs
    rw [Hid]
    omega
  have NE : Hid (es.length ≤ 100000) := by
    have h1 := HL.out
    have h2 : ∀ l : List EdgeV, l.length ≤ (l.flatMap edgeB).length := by
      intro l
      induction l with
      | nil => simp
      | cons x l ih =>
        have h3 : 1 ≤ (edgeB x).length := by
          have := vbytes_pos (packN x.1)
          unfold edgeB
          simp only [List.flatMap_cons, List.length_append]
          omega
        rw [List.flatMap_cons, List.length_append, List.length_cons]
        omega
    have := h2 es
    rw [Hid]
    omega
  clear hV hN hE hK hB ht hl hv
  have K2 : Hid (Blk (w.alloc (.cells #[.int .u8 0, .int .u8 0, .int .u8 0, .int .u8 0, .int .u8 0, .int .u8 0, .int .u8 0, .int .u8 0, .int .u8 0, .int .u8 0, .int .u8 0, .int .u8 0, .int .u8 0, .int .u8 0, .int .u8 0, .int .u8 0, .int .u8 0, .int .u8 0, .int .u8 0, .int .u8 0, .int .u8 0, .int .u8 0, .int .u8 0, .int .u8 0, .int .u8 0, .int .u8 0, .int .u8 0, .int .u8 0, .int .u8 0, .int .u8 0, .int .u8 0, .int .u8 0] 37)) w.heap.size 37 #[.int .u8 0, .int .u8 0, .int .u8 0, .int .u8 0, .int .u8 0, .int .u8 0, .int .u8 0, .int .u8 0, .int .u8 0, .int .u8 0, .int .u8 0, .int .u8 0, .int .u8 0, .int .u8 0, .int .u8 0, .int .u8 0, .int .u8 0, .int .u8 0, .int .u8 0, .int .u8 0, .int .u8 0, .int .u8 0, .int .u8 0, .int .u8 0, .int .u8 0, .int .u8 0, .int .u8 0, .int .u8 0, .int .u8 0, .int .u8 0, .int .u8 0, .int .u8 0]) := Blk.new _ _ _
  have B1 : Hid (Below w.heap.size w (w.alloc (.cells #[.int .u8 0, .int .u8 0, .int .u8 0, .int .u8 0, .int .u8 0, .int .u8 0, .int .u8 0, .int .u8 0, .int .u8 0, .int .u8 0, .int .u8 0, .int .u8 0, .int .u8 0, .int .u8 0, .int .u8 0, .int .u8 0, .int .u8 0, .int .u8 0, .int .u8 0, .int .u8 0, .int .u8 0, .int .u8 0, .int .u8 0, .int .u8 0, .int .u8 0, .int .u8 0, .int .u8 0, .int .u8 0, .int .u8 0, .int .u8 0, .int .u8 0, .int .u8 0] 37))) := below_new _ _
  have W0 : Hid (WrB ((w.alloc (.cells #[.int .u8 0, .int .u8 0, .int .u8 0, .int .u8 0, .int .u8 0, .int .u8 0, .int .u8 0, .int .u8 0, .int .u8 0, .int .u8 0, .int .u8 0, .int .u8 0, .int .u8 0, .int .u8 0, .int .u8 0, .int .u8 0, .int .u8 0, .int .u8 0, .int .u8 0, .int .u8 0, .int .u8 0, .int .u8 0, .int .u8 0, .int .u8 0, .int .u8 0, .int .u8 0, .int .u8 0, .int .u8 0, .int .u8 0, .int .u8 0, .int .u8 0, .int .u8 0] 37)).alloc (.cells #[.slice none 0 0] 139)) (w.alloc (.cells #[.int .u8 0, .int .u8 0, .int .u8 0, .int .u8 0, .int .u8 0, .int .u8 0, .int .u8 0, .int .u8 0, .int .u8 0, .int .u8 0, .int .u8 0, .int .u8 0, .int .u8 0, .int .u8 0, .int .u8 0, .int .u8 0, .int .u8 0, .int .u8 0, .int .u8 0, .int .u8 0, .int .u8 0, .int .u8 0, .int .u8 0, .int .u8 0, .int .u8 0, .int .u8 0, .int .u8 0, .int .u8 0, .int .u8 0, .int .u8 0, .int .u8 0, .int .u8 0] 37)).heap.size (w.alloc (.cells #[.int .u8 0, .int .u8 0, .int .u8 0, .int .u8 0, .int .u8 0, .int .u8 0, .int .u8 0, .int .u8 0, .int .u8 0, .int .u8 0, .int .u8 0, .int .u8 0, .int .u8 0, .int .u8 0, .int .u8 0, .int .u8 0, .int .u8 0, .int .u8 0, .int .u8 0, .int .u8 0, .int .u8 0, .int .u8 0, .int .u8 0, .int .u8 0, .int .u8 0, .int .u8 0, .int .u8 0, .int .u8 0, .int .u8 0, .int .u8 0, .int .u8 0, .int .u8 0] 37)).heap.size [] (fun _ => False)) := ⟨⟨_, wr_new (w.alloc (.cells #[.int .u8 0, .int .u8 0, .int .u8 0, .int .u8 0, .int .u8 0, .int .u8 0, .int .u8 0, .int .u8 0, .int .u8 0, .int .u8 0, .int .u8 0, .int .u8 0, .int .u8 0, .int .u8 0, .int .u8 0, .int .u8 0, .int .u8 0, .int .u8 0, .int .u8 0, .int .u8 0, .int .u8 0, .int .u8 0, .int .u8 0, .int .u8 0, .int .u8 0, .int .u8 0, .int .u8 0, .int .u8 0, .int .u8 0, .int .u8 0, .int .u8 0, .int .u8 0] 37)), fun q e => by omega, fun q e h => h⟩⟩
  have B2 : Hid (Below (w.alloc (.cells #[.int .u8 0, .int .u8 0, .int .u8 0, .int .u8 0, .int .u8 0, .int .u8 0, .int .u8 0, .int .u8 0, .int .u8 0, .int .u8 0, .int .u8 0, .int .u8 0, .int .u8 0, .int .u8 0, .int .u8 0, .int .u8 0, .int .u8 0, .int .u8 0, .int .u8 0, .int .u8 0, .int .u8 0, .int .u8 0, .int .u8 0, .int .u8 0, .int .u8 0, .int .u8 0, .int .u8 0, .int .u8 0, .int .u8 0, .int .u8 0, .int .u8 0, .int .u8 0] 37)).heap.size (w.alloc (.cells #[.int .u8 0, .int .u8 0, .int .u8 0, .int .u8 0, .int .u8 0, .int .u8 0, .int .u8 0, .int .u8 0, .int .u8 0, .int .u8 0, .int .u8 0, .int .u8 0, .int .u8 0, .int .u8 0, .int .u8 0, .int .u8 0, .int .u8 0, .int .u8 0, .int .u8 0, .int .u8 0, .int .u8 0, .int .u8 0, .int .u8 0, .int .u8 0, .int .u8 0, .int .u8 0, .int .u8 0, .int .u8 0, .int .u8 0, .int .u8 0, .int .u8 0, .int .u8 0] 37)) ((w.alloc (.cells #[.int .u8 0, .int .u8 0, .int .u8 0, .int .u8 0, .int .u8 0, .int .u8 0, .int .u8 0, .int .u8 0, .int .u8 0, .int .u8 0, .int .u8 0, .int .u8 0, .int .u8 0, .int .u8 0, .int .u8 0, .int .u8 0, .int .u8 0, .int .u8 0, .int .u8 0, .int .u8 0, .int .u8 0, .int .u8 0, .int .u8 0, .int .u8 0, .int .u8 0, .int .u8 0, .int .u8 0, .int .u8 0, .int .u8 0, .int .u8 0, .int .u8 0, .int .u8 0] 37)).alloc (.cells #[.slice none 0 0] 139))) := below_new _ _
  go_enter Tryz.func16, Tryz.ntmps16
  go_upto_region 2 with (refine wpList_alloced (allocW _) ?_)
  have K22 := Lib.hid (K2.out.ext B2.out)
  have B12 := Lib.hid (B1.out.trans (B2.out.mono B1.out.size))
  have GL : Hid (w.heap.size < (w.alloc (.cells #[.int .u8 0, .int .u8 0, .int .u8 0, .int .u8 0, .int .u8 0, .int .u8 0, .int .u8 0, .int .u8 0, .int .u8 0, .int .u8 0, .int .u8 0, .int .u8 0, .int .u8 0, .int .u8 0, .int .u8 0, .int .u8 0, .int .u8 0, .int .u8 0, .int .u8 0, .int .u8 0, .int .u8 0, .int .u8 0, .int .u8 0, .int .u8 0, .int .u8 0, .int .u8 0, .int .u8 0, .int .u8 0, .int .u8 0, .int .u8 0, .int .u8 0, .int .u8 0] 37)).heap.size) := K2.out.lt
  have GS : Hid ((w.alloc (.cells #[.int .u8 0, .int .u8 0, .int .u8 0, .int .u8 0, .int .u8 0, .int .u8 0, .int .u8 0, .int .u8 0, .int .u8 0, .int .u8 0, .int .u8 0, .int .u8 0, .int .u8 0, .int .u8 0, .int .u8 0, .int .u8 0, .int .u8 0, .int .u8 0, .int .u8 0, .int .u8 0, .int .u8 0, .int .u8 0, .int .u8 0, .int .u8 0, .int .u8 0, .int .u8 0, .int .u8 0, .int .u8 0, .int .u8 0, .int .u8 0, .int .u8 0, .int .u8 0] 37)).heap.size ≤ ((w.alloc (.cells #[.int .u8 0, .int .u8 0, .int .u8 0, .int .u8 0, .int .u8 0, .int .u8 0, .int .u8 0, .int .u8 0, .int .u8 0, .int .u8 0, .int .u8 0, .int .u8 0, .int .u8 0, .int .u8 0, .int .u8 0, .int .u8 0, .int .u8 0, .int .u8 0, .int .u8 0, .int .u8 0, .int .u8 0, .int .u8 0, .int .u8 0, .int .u8 0, .int .u8 0, .int .u8 0, .int .u8 0, .int .u8 0, .int .u8 0, .int .u8 0, .int .u8 0, .int .u8 0] 37)).alloc (.cells #[.slice none 0 0] 139)).heap.size) := B2.out.size
  clear K2 B2
  generalize ((w.alloc (.cells #[.int .u8 0, .int .u8 0, .int .u8 0, .int .u8 0, .int .u8 0, .int .u8 0, .int .u8 0, .int .u8 0, .int .u8 0, .int .u8 0, .int .u8 0, .int .u8 0, .int .u8 0, .int .u8 0, .int .u8 0, .int .u8 0, .int .u8 0, .int .u8 0, .int .u8 0, .int .u8 0, .int .u8 0, .int .u8 0, .int .u8 0, .int .u8 0, .int .u8 0, .int .u8 0, .int .u8 0, .int .u8 0, .int .u8 0, .int .u8 0, .int .u8 0, .int .u8 0] 37)).alloc (.cells #[.slice none 0 0] 139)) = w2 at *
  clear B1
  obtain ⟨gw, hgw⟩ : ∃ gw, gw = (w.alloc (.cells #[.int .u8 0, .int .u8 0, .int .u8 0, .int .u8 0, .int .u8 0, .int .u8 0, .int .u8 0, .int .u8 0, .int .u8 0, .int .u8 0, .int .u8 0, .int .u8 0, .int .u8 0, .int .u8 0, .int .u8 0, .int .u8 0, .int .u8 0, .int .u8 0, .int .u8 0, .int .u8 0, .int .u8 0, .int .u8 0, .int .u8 0, .int .u8 0, .int .u8 0, .int .u8 0, .int .u8 0, .int .u8 0, .int .u8 0, .int .u8 0, .int .u8 0, .int .u8 0] 37)).heap.size := ⟨_, rfl⟩
  rw [← hgw] at W0 GL GS ⊢
  clear hgw
  replace K22 : Hid (Blk w2 w.heap.size 37 (bytesS (List.replicate 32 0))) := K22
  go_wp2_with fail
  refine (HV.out w2 B12.out).mono ?_
  rintro e w3 ⟨rfl, b3⟩
  have W3 := Lib.hid (W0.out.ext b3)
  have K3 := Lib.hid (K22.out.ext b3)
  have B3 := Lib.hid (B12.out.trans (b3.mono B12.out.size))
  have G3 : Hid (gw ≤ w3.heap.size) := Nat.le_trans GS.out b3.size
  have S3 := Lib.hid (Below.refl gw w3)
  clear b3 W0 K22 B12 GS HV
  go_wp2_with fail
  go_loopw [14] (fun iv wr => ∃ k : Nat, k ≤ 64 ∧ iv = .int .i64 (k : Int) ∧ Hid (WrB wr gw gw (vecBF (v.take k)) (fun _ => False)) ∧ Hid (Below gw w3 wr)) (fun iv _ => 64 - (intOf iv).toNat)
  case atStart => exact ⟨0, by omega, rfl, W3.out, S3.out⟩
  case round =>
    clear W3 S3
    obtain ⟨k, hk, rfl, WR, B⟩ := hrel
    have hk0 : (0 : Int) ≤ (k : Int) := by omega
    have GR : Hid (gw ≤ wr.heap.size) := Nat.le_trans G3.out B.out.size
    by_cases hlt : k < 64
    · have hki : (k : Int) < 64 := by omega
      have hix := Lib.hid (fun u => index_vec v HVO.out k hlt u)
      obtain ⟨x0, x1⟩ := HVO.out.get k hlt
      have hvk : v[k]? = some (v.getD k 0) := by rw [List.getD_eq_getElem?_getD, List.getElem?_eq_getElem (by rw [HVO.out.len]; exact hlt)]; rfl
      have VN := Lib.hid (vecBF_next hvk)
      have hwl : Hid ((vecBF (v.take k)).length ≤ 100000) := by
        have := flat_take_le (fun z : Int => vbytes z.toNat) v k
        have h1 := HL.out
        unfold vecBF at h1 ⊢
        rw [Hid]
        omega
      obtain ⟨m, hm⟩ : ∃ m : Nat, v.getD k 0 = (m : Int) := ⟨(v.getD k 0).toNat, by omega⟩
      rw [hm] at hix VN x0 x1
      have hmz : ((m : Int)).toNat = m := by omega
      rw [hmz] at VN
      clear hvk hm hmz
      go_upto_region 5 with ((with_reducible refine wpList_ix ?_ ?_ (hix.out _) ?_); rfl; rfl)
      go_wp2_with fail
      refine (wbNum WR.out GR.out (fun _ h => h.elim) [m] (fun n hn => by simp at hn; omega) (by simp) hwl.out _ rfl).mono ?_
      rintro e w4 ⟨rfl, W4, b4, _⟩
      rw [← VN.out] at W4
      have W4 := Lib.hid W4
      have B4 := Lib.hid (B.out.trans b4)
      clear b4 WR B hix
      go_wp2_with fail
      go_roundw
      case rel => exact ⟨k + 1, by omega, by go_num, W4.out, B4.out⟩
      case measure => simp [intOf]; omega
    · have hki : ¬ (k : Int) < 64 := by omega
      have hk64 : k = 64 := by omega
      rw [List.take_of_length_le (by rw [HVO.out.len]; omega)] at WR
      clear hk64
      have BW := Lib.hid (B3.out.trans (B.out.mono (Nat.le_of_lt GL.out)))
      have KW := Lib.hid (K3.out.below B.out GL.out)
      clear K3 B3 B G3
      go_wp2_with fail
      refine (HN.out wr BW.out).mono ?_
      rintro e w5 ⟨v5, rfl, o5, b5⟩
      have BW5 := Lib.hid (BW.out.trans (b5.mono BW.out.size))
      obtain ⟨AV, cV, rfl, hcV, sV⟩ := Sl.of_own o5
      have IV := Lib.hid (own_inB o5)
      have SV := Lib.hid sV
      clear o5 sV HN
      go_wp2_with fail
      refine (HE.out w5 BW5.out).mono ?_
      rintro e w7 ⟨v7, rfl, o7, b7⟩
      have BW7 := Lib.hid (BW5.out.trans (b7.mono BW5.out.size))
      obtain ⟨AE, cE, rfl, hcE, sE⟩ := Sl.of_own o7
      have IE : Hid (InB (fun q => wr.heap.size ≤ q ∧ q < w7.heap.size) AE es.length) := (own_inB o7).mono fun q e => ⟨Nat.le_trans b5.size e.1, e.2⟩
      have IV7 : Hid (InB (fun q => wr.heap.size ≤ q ∧ q < w7.heap.size) AV vs.length) := IV.out.mono fun q e => ⟨e.1, Nat.lt_of_lt_of_le e.2 b7.size⟩
      have SE := Lib.hid sE
      have SV7 := Lib.hid ((SV.out.below b7 (Nat.le_refl _)).more b7.size)
      have b57 : Below wr.heap.size wr w7 := b5.trans (b7.mono b5.size)
      have W7 : Hid (WrB w7 gw gw (vecBF v) (fun q => wr.heap.size ≤ q ∧ q < w7.heap.size)) := WR.out.away b57 fun q e => .inr e.1
      have KW7 := Lib.hid (KW.out.ext b57)
      have G7 : Hid (gw ≤ w7.heap.size) := Nat.le_trans GR.out b57.size
      have HN7 : Hid (∀ q, (wr.heap.size ≤ q ∧ q < w7.heap.size) → q < w7.heap.size) := fun q e => e.2
      clear o7 sE b5 b7 b57 HE IV SV BW5 BW KW WR GR
      generalize wr.heap.size = s5 at *
      have hs7 := Lib.hid (Nat.le_refl w7.heap.size)
      obtain ⟨NN, hNN⟩ : ∃ NN : Nat → Prop, NN = (fun q => s5 ≤ q ∧ q < w7.heap.size) := ⟨_, rfl⟩
      rw [← hNN] at IE IV7 W7
      replace HN7 : Hid (∀ q, NN q → q < w7.heap.size) := by rw [hNN]; exact HN7.out
      clear hNN
      have hnv := NV.out
      have hne := NE.out
      obtain ⟨nv, hnvE⟩ : ∃ n, n = vs.length := ⟨_, rfl⟩
      obtain ⟨ne, hneE⟩ : ∃ n, n = es.length := ⟨_, rfl⟩
      rw [← hnvE] at hnv IV7 SV7 HL GE hcV ⊢
      rw [← hneE] at hne IE SE HL GE hcE ⊢
      replace hnvE := Lib.hid hnvE
      replace hneE := Lib.hid hneE
      have hwl : Hid ((vecBF v).length ≤ 100000) := by have := HL.out; rw [Hid]; omega
      go_wp2_with fail
      refine (wbNum W7.out G7.out HN7.out [nv] (fun n hn => by simp at hn; omega) (by simp) hwl.out _ rfl).mono ?_
      rintro e w8 ⟨rfl, W8, b8, st8⟩
      have e8 : Hid (vecBF v ++ [nv].flatMap vbytes = vecBF v ++ vbytes nv) := by rw [Hid]; simp
      rw [e8.out] at W8
      have W8 := Lib.hid W8
      have ST8 := Lib.hid st8
      have B8 : Hid (Below gw w7 w8) := b8
      clear b8 st8 W7 e8 hwl
      have HLV : Hid (∀ k, ((vecBF v ++ vbytes nv) ++ (vs.take k).flatMap vertB).length ≤ 100000) := fun k => by
        have h1 := flat_take_le vertB vs k
        have h2 := HL.out
        simp only [List.length_append]
        omega
      have HLE : Hid (∀ k, (((vecBF v ++ vbytes nv) ++ vs.flatMap vertB ++ vbytes ne) ++ (es.take k).flatMap edgeB).length ≤ 100000) := fun k => by
        have h1 := flat_take_le edgeB es k
        have h2 := HL.out
        simp only [List.length_append]
        omega
      obtain ⟨P0, hP0⟩ : ∃ P0, P0 = vecBF v ++ vbytes nv := ⟨_, rfl⟩
      rw [← hP0] at W8 HLV HLE GE
      clear hP0 HL
      have W8L := W8
      go_wp2_with fail
      go_loopw [33] (fun iv wr => ∃ j : Nat, j ≤ nv ∧ iv = .int .i64 (j : Int) ∧ Hid (WrB wr gw gw (P0 ++ (vs.take j).flatMap vertB) NN) ∧ Hid (Below gw w7 wr) ∧ Hid (Stay NN w7 wr)) (fun iv _ => nv - (intOf iv).toNat)
      case atStart => exact ⟨0, by omega, rfl, by rw [List.take_zero, List.flatMap_nil, List.append_nil]; exact W8.out, B8.out, ST8.out⟩
      case round =>
        clear W8 W8L B8 ST8
        obtain ⟨j, hj, rfl, WR, B, ST⟩ := hrel
        have hj0 : (0 : Int) ≤ (j : Int) := by omega
        have GR : Hid (gw ≤ wr.heap.size) := Nat.le_trans G7.out B.out.size
        by_cases hlt2 : j < nv
        · have hji : (j : Int) < (nv : Int) := by omega
          obtain ⟨b, o, x, rfl, hb, hx, rx⟩ := VertsAt.at_ (⟨hnvE.out.symm, (SV7.out.stay IV7.out (Nat.le_refl _) ST.out).more ST.out.1⟩ : VertsAt wr AV nv vs) hlt2
          have RX := Lib.hid rx
          have FV := Lib.hid (vertB_next hx)
          have HTx := Lib.hid (HT.out x (List.mem_of_getElem? hx))
          have hL0 : Hid ((P0 ++ (vs.take j).flatMap vertB).length + (vertB x).length ≤ 100000) := by
            have h1 := HLV.out (j + 1)
            rw [FV.out] at h1
            rw [Hid]
            simp only [List.length_append] at h1 ⊢
            omega
          have FVB : vertB x = [packN x.1, x.2.1.val, packN x.2.2.1, deadN x].flatMap vbytes ++ (vbytes x.2.2.2.1.size ++ x.2.2.2.1.data.toList) := rfl
          obtain ⟨L0, hL0E⟩ : ∃ L0, L0 = P0 ++ (vs.take j).flatMap vertB := ⟨_, rfl⟩
          rw [← hL0E] at WR hL0
          have hL1 : Hid ((L0 ++ [packN x.1, x.2.1.val, packN x.2.2.1, deadN x].flatMap vbytes).length ≤ 100000) := by
            have h1 := hL0.out
            rw [FVB, List.length_append] at h1
            rw [Hid, List.length_append]
            omega
          have FE : Hid (P0 ++ (vs.take (j + 1)).flatMap vertB = L0 ++ [packN x.1, x.2.1.val, packN x.2.2.1, deadN x].flatMap vbytes ++ (vbytes x.2.2.2.1.size ++ x.2.2.2.1.data.toList)) := by
            rw [Hid, FV.out, ← List.append_assoc, ← hL0E, FVB, List.append_assoc L0]
          have hL0' : Hid (L0.length ≤ 100000) := by have := hL0.out; rw [Hid]; omega
          clear hL0E FV FVB rx hx hb hL0
          have KZ : Hid (Blk (wr.alloc (.cells zeroX 134)) wr.heap.size 134 zeroX) := Blk.new _ _ _
          have KX : Hid (Blk ((wr.alloc (.cells zeroX 134)).setRow wr.heap.size (encX x).toArray) wr.heap.size 134 (encX x).toArray) := KZ.out.row _
          have BN : Hid (Below wr.heap.size wr ((wr.alloc (.cells zeroX 134)).setRow wr.heap.size (encX x).toArray)) := below_setRow (below_new wr _) (Nat.le_refl _) _
          go_upto_region 12 with (first
            | (refine wpList_load_mid rfl 134 _ (by rfl) b (o + j * 9) (by rfl) _ _ RX.out underVert rfl infoVert ?_)
            | (refine wpList_alloced (allocVert _) ?_)
            | (refine wpList_store_row rfl 134 _ _ (by rfl) wr.heap.size (encX x).toArray (by rfl) (by rfl) _ _ KZ.out infoVert rfl (encX_all _) ?_))
          generalize ((wr.alloc (.cells zeroX 134)).setRow wr.heap.size (encX x).toArray) = w9 at *
          have W9 : Hid (WrB w9 gw gw L0 (fun q => NN q ∨ q = wr.heap.size)) := WR.out.away BN.out fun q e => e.elim .inl fun e => .inr (by omega)
          have B9 := Lib.hid (B.out.trans (BN.out.mono GR.out))
          have ST9 : Hid (Stay NN w7 w9) := stay_trans ST.out (Stay.of_below BN.out)
          have G9 : Hid (gw ≤ w9.heap.size) := Nat.le_trans GR.out BN.out.size
          have HNX : Hid (∀ q, (NN q ∨ q = wr.heap.size) → q < w9.heap.size) := fun q e => e.elim (fun e => Nat.lt_of_lt_of_le (HN7.out q e) ST9.out.1) fun e => by rw [e]; exact KX.out.lt
          clear KZ BN WR B ST RX GR
          generalize wr.heap.size = gx at *
          obtain ⟨NX, hNX⟩ : ∃ NX : Nat → Prop, NX = (fun q => NN q ∨ q = gx) := ⟨_, rfl⟩
          have NXx : Hid (NX gx) := by rw [Hid, hNX]; exact .inr rfl
          have NXn : Hid (∀ q, NN q → NX q) := fun q e => by rw [hNX]; exact .inl e
          rw [← hNX] at W9
          replace HNX : Hid (∀ q, NX q → q < w9.heap.size) := by rw [hNX]; exact HNX.out
          clear hNX
          have q3 : ∀ z : Ext w9, z.w.cell? ⟨gx, 3, none⟩ = some (.int .u8 ((x.2.1.val : Nat) : Int)) := fun z => (KX.out.ext z.h).cell 3
          have R1 := Lib.hid (ext_sub KX.out (encX_id x))
          have R2 := Lib.hid (ext_sub KX.out (encX_file x))
          have HP1 := Lib.hid (fun u => fpack_any x.1 u)
          have HP2 := Lib.hid (fun u => fpack_any x.2.2.1 u)
          have HD := Lib.hid (fun u => fdead_any x u)
          have hp1 := packN_lt x.1
          have hp2 := packN_lt x.2.2.1
          have hd1 := deadN_le x
          have hk1 := x.2.1.isLt
          generalize packN x.1 = p1 at *
          generalize packN x.2.2.1 = p2 at *
          generalize deadN x = d1 at *
          simp only [Act.put, List.setIfInBounds_toArray, List.set_cons_zero, List.set_cons_succ]
          refine wp_region_made 11 mixedT (by kernel_rfl) ?_
          simp only [List.take_succ_cons, List.take_zero, List.drop_succ_cons, List.drop_zero]
          repeat (first
            | (refine wpQuiet_load_mid R1.out underVid rfl infoVid rfl rfl ?_; simp only [List.set_cons_succ, List.set_cons_zero])
            | (refine wpQuiet_load_mid R2.out underVid rfl infoVid rfl rfl ?_; simp only [List.set_cons_succ, List.set_cons_zero])
            | (refine wpQuiet_load_row KX.out underVert rfl infoVert rfl rfl ?_; simp only [List.set_cons_succ, List.set_cons_zero])
            | go_big_quiet_step ((first | (go_at_call 73; first | with_reducible exact ext_call (HP1.out _) | with_reducible exact ext_call (HP2.out _)) | (go_at_call 74; with_reducible exact ext_call (HD.out _)))))
          refine wpQuiet_nil ?_
          rintro _ ⟨z, rfl⟩
          have W10 := Lib.hid (W9.out.ext z.h)
          have KX10 := Lib.hid (KX.out.ext z.h)
          have B10 := Lib.hid (B9.out.trans (z.h.mono G9.out))
          have ST10 : Hid (Stay NN w7 z.w) := stay_trans ST9.out (Stay.of_below z.h)
          have G10 : Hid (gw ≤ z.w.heap.size) := Nat.le_trans G9.out z.h.size
          have HNX10 : Hid (∀ q, NX q → q < z.w.heap.size) := fun q e => Nat.lt_of_lt_of_le (HNX.out q e) z.h.size
          clear q3 R1 R2 HP1 HP2 HD W9 KX B9 ST9 G9 HNX
          generalize z.w = w10 at *
          clear z
          go_wp2_with fail
          refine (wbNum W10.out G10.out HNX10.out [p1, x.2.1.val, p2, d1] (fun n hn => by simp at hn; omega) (by simp) hL0'.out _ rfl).mono ?_
          rintro e w11 ⟨rfl, W11, b11, st11⟩
          have W11 := Lib.hid W11
          have KX11 := Lib.hid (KX10.out.keep (st11.2 gx KX10.out.lt NXx.out))
          have B11 := Lib.hid (B10.out.trans b11)
          have ST11 : Hid (Stay NN w7 w11) := stay_trans ST10.out (st11.mono NXn.out)
          have G11 : Hid (gw ≤ w11.heap.size) := Nat.le_trans G10.out st11.1
          have HNX11 : Hid (∀ q, NX q → q < w11.heap.size) := fun q e => Nat.lt_of_lt_of_le (HNX10.out q e) st11.1
          have y7 : w11.cell? ⟨gx, 7, none⟩ = some (.string x.2.2.2.1) := KX11.out.cell 7
          clear b11 st11 W10 KX10 B10 ST10 G10 HNX10
          go_wp2_with fail
          refine (wbText W11.out G11.out HNX11.out x.2.2.2.1 HTx.out hL1.out).mono ?_
          rintro e w12 ⟨rfl, W12, b12, st12⟩
          rw [← FE.out] at W12
          have W12 : Hid (WrB w12 gw gw (P0 ++ (vs.take (j + 1)).flatMap vertB) NN) := W12.away (Below.refl _ _) fun q m => .inl (NXn.out q m)
          have B12 := Lib.hid (B11.out.trans b12)
          have ST12 : Hid (Stay NN w7 w12) := stay_trans ST11.out (st12.mono NXn.out)
          clear b12 st12 W11 KX11 B11 ST11 G11 HNX11 y7 NXx NXn FE
          go_wp2_with fail
          go_roundw
          case rel => exact ⟨j + 1, by omega, by go_num, W12.out, B12.out, ST12.out⟩
          case measure => simp [intOf]; omega
        · have hji : ¬ (j : Int) < (nv : Int) := by omega
          have hjn : j = nv := by omega
          have hP1 := HLV.out nv
          have etk : vs.take nv = vs := List.take_of_length_le (by have := hnvE.out; omega)
          rw [hjn, etk] at WR
          rw [etk] at hP1
          clear hjn etk HLV SV7 IV7
          obtain ⟨P1, hP1E⟩ : ∃ P1, P1 = P0 ++ vs.flatMap vertB := ⟨_, rfl⟩
          rw [← hP1E] at WR GE HLE hP1
          clear hP1E
          replace hP1 := Lib.hid hP1
          have HNR : Hid (∀ q, NN q → q < wr.heap.size) := fun q e => Nat.lt_of_lt_of_le (HN7.out q e) ST.out.1
          go_wp2_with fail
          refine (wbNum WR.out GR.out HNR.out [ne] (fun n hn => by simp at hn; omega) (by simp) hP1.out _ rfl).mono ?_
          rintro e w9 ⟨rfl, W9, b9, st9⟩
          have e9 : Hid (P1 ++ [ne].flatMap vbytes = P1 ++ vbytes ne) := by rw [Hid]; simp
          rw [e9.out] at W9
          have W9 := Lib.hid W9
          have B9 := Lib.hid (B.out.trans b9)
          have ST9 : Hid (Stay NN w7 w9) := stay_trans ST.out st9
          clear b9 st9 e9 WR B ST GR HNR hP1
          obtain ⟨P2, hP2E⟩ : ∃ P2, P2 = P1 ++ vbytes ne := ⟨_, rfl⟩
          rw [← hP2E] at W9 GE HLE
          clear hP2E
          go_wp2_with fail
          go_loopw [61] (fun iv wr => ∃ i : Nat, i ≤ ne ∧ iv = .int .i64 (i : Int) ∧ Hid (WrB wr gw gw (P2 ++ (es.take i).flatMap edgeB) NN) ∧ Hid (Below gw w7 wr) ∧ Hid (Stay NN w7 wr)) (fun iv _ => ne - (intOf iv).toNat)
          case atStart => exact ⟨0, by omega, rfl, by rw [List.take_zero, List.flatMap_nil, List.append_nil]; exact W9.out, B9.out, ST9.out⟩
          case round =>
            clear W9 B9 ST9
            obtain ⟨i, hi, rfl, WR, B, ST⟩ := hrel
            have hi0 : (0 : Int) ≤ (i : Int) := by omega
            have GR : Hid (gw ≤ wr.heap.size) := Nat.le_trans G7.out B.out.size
            by_cases hlt3 : i < ne
            · have hii : (i : Int) < (ne : Int) := by omega
              obtain ⟨b, o, x, rfl, hb, hx, rx⟩ := EdgesAt.at_ (⟨hneE.out.symm, (SE.out.stay IE.out (Nat.le_refl _) ST.out).more ST.out.1⟩ : EdgesAt wr AE ne es) hlt3
              have RX := Lib.hid rx
              have FV := Lib.hid (edgeB_next hx)
              have hL0 : Hid ((P2 ++ (es.take i).flatMap edgeB).length ≤ 100000) := HLE.out i
              have FVB : edgeB x = [packN x.1, packN x.2].flatMap vbytes := rfl
              obtain ⟨L0, hL0E⟩ : ∃ L0, L0 = P2 ++ (es.take i).flatMap edgeB := ⟨_, rfl⟩
              rw [← hL0E] at WR hL0
              have FE : Hid (P2 ++ (es.take (i + 1)).flatMap edgeB = L0 ++ [packN x.1, packN x.2].flatMap vbytes) := by
                rw [Hid, FV.out, ← List.append_assoc, ← hL0E, FVB]
              clear hL0E FV FVB rx hx hb
              have KZ : Hid (Blk (wr.alloc (.cells (encE (vid0, vid0)).toArray 137)) wr.heap.size 137 (encE (vid0, vid0)).toArray) := Blk.new _ _ _
              have KX : Hid (Blk ((wr.alloc (.cells (encE (vid0, vid0)).toArray 137)).setRow wr.heap.size (encE x).toArray) wr.heap.size 137 (encE x).toArray) := KZ.out.row _
              have BN : Hid (Below wr.heap.size wr ((wr.alloc (.cells (encE (vid0, vid0)).toArray 137)).setRow wr.heap.size (encE x).toArray)) := below_setRow (below_new wr _) (Nat.le_refl _) _
              go_upto_region 19 with (first
                | (refine wpList_load_mid rfl 137 _ (by rfl) b (o + i * 6) (by rfl) _ _ RX.out underEdge rfl infoEdge ?_)
                | (refine wpList_alloced (allocEdgeF _) ?_)
                | (refine wpList_store_row rfl 137 _ _ (by rfl) wr.heap.size (encE x).toArray (by rfl) (by rfl) _ _ KZ.out infoEdge rfl (encE_allF _) ?_))
              generalize ((wr.alloc (.cells (encE (vid0, vid0)).toArray 137)).setRow wr.heap.size (encE x).toArray) = w9 at *
              have W9 : Hid (WrB w9 gw gw L0 NN) := WR.out.ext BN.out
              have B9 := Lib.hid (B.out.trans (BN.out.mono GR.out))
              have ST9 : Hid (Stay NN w7 w9) := stay_trans ST.out (Stay.of_below BN.out)
              have G9 : Hid (gw ≤ w9.heap.size) := Nat.le_trans GR.out BN.out.size
              clear KZ BN WR B ST RX GR
              generalize wr.heap.size = gx at *
              have R1 := Lib.hid (ext_sub KX.out (encE_one' x))
              have R2 := Lib.hid (ext_sub KX.out (encE_two x))
              have HP1 := Lib.hid (fun u => fpack_any x.1 u)
              have HP2 := Lib.hid (fun u => fpack_any x.2 u)
              have hp1 := packN_lt x.1
              have hp2 := packN_lt x.2
              generalize packN x.1 = p1 at *
              generalize packN x.2 = p2 at *
              simp only [Act.put, List.setIfInBounds_toArray, List.set_cons_zero, List.set_cons_succ]
              refine wp_region_made 6 mixedT (by kernel_rfl) ?_
              simp only [List.take_succ_cons, List.take_zero, List.drop_succ_cons, List.drop_zero]
              repeat (first
                | (refine wpQuiet_load_mid R1.out underVid rfl infoVid rfl rfl ?_; simp only [List.set_cons_succ, List.set_cons_zero])
                | (refine wpQuiet_load_mid R2.out underVid rfl infoVid rfl rfl ?_; simp only [List.set_cons_succ, List.set_cons_zero])
                | go_big_quiet_step ((go_at_call 73; first | with_reducible exact ext_call (HP1.out _) | with_reducible exact ext_call (HP2.out _))))
              refine wpQuiet_nil ?_
              rintro _ ⟨z, rfl⟩
              have W10 := Lib.hid (W9.out.ext z.h)
              have B10 := Lib.hid (B9.out.trans (z.h.mono G9.out))
              have ST10 : Hid (Stay NN w7 z.w) := stay_trans ST9.out (Stay.of_below z.h)
              have G10 : Hid (gw ≤ z.w.heap.size) := Nat.le_trans G9.out z.h.size
              have HNX10 : Hid (∀ q, NN q → q < z.w.heap.size) := fun q e => Nat.lt_of_lt_of_le (HN7.out q e) ST10.out.1
              clear R1 R2 HP1 HP2 W9 KX B9 ST9 G9
              generalize z.w = w10 at *
              clear z
              go_wp2_with fail
              refine (wbNum W10.out G10.out HNX10.out [p1, p2] (fun n hn => by simp at hn; omega) (by simp) hL0.out _ rfl).mono ?_
              rintro e w11 ⟨rfl, W11, b11, st11⟩
              rw [← FE.out] at W11
              have W11 := Lib.hid W11
              have B11 := Lib.hid (B10.out.trans b11)
              have ST11 : Hid (Stay NN w7 w11) := stay_trans ST10.out st11
              clear b11 st11 W10 B10 ST10 G10 HNX10 FE
              go_wp2_with fail
              go_roundw
              case rel => exact ⟨i + 1, by omega, by go_num, W11.out, B11.out, ST11.out⟩
              case measure => simp [intOf]; omega
            · have hii : ¬ (i : Int) < (ne : Int) := by omega
              have hin : i = ne := by omega
              have etk : es.take ne = es := List.take_of_length_le (by have := hneE.out; omega)
              have hT := HLE.out ne
              rw [hin, etk, ← GE.out] at WR
              rw [etk, ← GE.out] at hT
              clear hin etk HLE SE IE GE
              generalize gB v vs es = l at *
              have KE := Lib.hid (KW7.out.below B.out GL.out)
              have BE := Lib.hid (BW7.out.trans (B.out.mono (Nat.le_of_lt GL.out)))
              have HKE := Lib.hid (shaK_ext HK.out BE.out)
              have HBE := Lib.hid (shaB_ext HB.out BE.out)
              obtain ⟨F, h1, _, _⟩ := WR.out.ex
              have HBy := Lib.hid (wrBytes_any h1 (by omega))
              clear h1 WR B ST GR KW7 BW7
              replace hT := Lib.hid hT
              go_wp2_with fail
              refine HBy.out.mono ?_
              rintro e w15 ⟨vv, rfl, own, b15⟩
              obtain ⟨A5, c5, rfl, ba⟩ := own_bytes own rfl
              have H15 := Lib.hid ba
              have K15 := Lib.hid (KE.out.ext b15)
              have B15 := Lib.hid (BE.out.trans (b15.mono BE.out.size))
              have HK15 := Lib.hid (shaK_ext HKE.out b15)
              have HB15 := Lib.hid (shaB_ext HBE.out b15)
              clear own ba b15 HBy KE BE HKE HBE
              go_wp2_with fail
              have BL := Lib.hid (below_new w15 (.cells #[.slice A5 l.length c5] 46))
              refine (sum_any l _ w15.heap.size 1 A5 l.length c5 ((Blk.new w15 46 #[.slice A5 l.length c5]).cell 0) (by rw [World.alloc]; simp only [Array.size_push]; omega) (H15.out.ext BL.out) (by have := hT.out; omega) (shaK_ext HK15.out BL.out) (shaB_ext HB15.out BL.out)).mono ?_
              rintro e w16 ⟨rfl, b16⟩
              have b4 := Lib.hid (BL.out.trans (b16.mono BL.out.size))
              have B16 := Lib.hid (B15.out.trans (b4.out.mono B15.out.size))
              have K16 := Lib.hid (K15.out.ext b4.out)
              have BN := Lib.hid (below_setRow B16.out (Nat.le_refl _) (bytesS (sumS kS hS l)))
              clear b16 BL B15 K15 H15 HK15 HB15 b4
              go_wp2_with (refine wpList_store_row rfl 37 _ _ (by rfl) w.heap.size (bytesS (sumS kS hS l)) (by rfl) (by rfl) _ _ K16.out (by rw [infoB32, bytesS_size, sumS_len]) (by rw [bytesS_size, bytesS_size, sumS_len, List.length_replicate]) (bytesS_one _) ?_)
              refine bodyPost_ret (results_cellS rfl _ _ w.heap.size _ (bytesS (sumS kS hS l)) _ rfl (K16.out.row _) Tryz.underlying37 rfl (by rw [infoB32, bytesS_size, sumS_len])) rfl ?_
              exact ⟨rfl, BN.out⟩
end Go.Proofs.YtihggkmjalofiaaGreatDoor
