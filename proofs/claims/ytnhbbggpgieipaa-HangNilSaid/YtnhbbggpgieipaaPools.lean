/- Texts of general use, one behind another. -/
import Derived.Test.YtnhbbggpgieipaaIdxf
import Derived.Test.YtnhbbggpgieipaaMrange
import Derived.Test.YtnhbbggpgieipaaSets

/- A pool of patches as it lies; the names of those that wait, rising: walked. -/
namespace Go.Proofs.Ytnhbbggpgieipaa
open Go.RowKit

/-- the entries of a map of patches by their names: each patch's lists lie in blocks of D -/
def EntsIn (w : World) (D : Nat → Prop) (E : List (Value × Value)) (M : List PatV) : Prop :=
  E.length = M.length ∧ ∀ (k : Nat) (e : Value × Value) (p : PatV), E[k]? = some e → M[k]? = some p → e.1 = .agg (encP p.1).toArray ∧ ∃ r, e.2 = .agg r.toArray ∧ PatIn w D r p
theorem EntsIn.stay {w w' : World} {D : Nat → Prop} {E : List (Value × Value)} {M : List PatV} (h : EntsIn w D E M) (hk : Stay D w w') : EntsIn w' D E M :=
  ⟨h.1, fun k e p h1 h2 => by obtain ⟨a, r, b, c⟩ := h.2 k e p h1 h2; exact ⟨a, r, b, c.stay hk⟩⟩
theorem EntsIn.keys {w : World} {D : Nat → Prop} {E : List (Value × Value)} {M : List PatV} (h : EntsIn w D E M) : E.map (·.1) = M.map fun p => Value.agg (encP p.1).toArray := by
  apply List.ext_getElem?
  intro i
  rw [List.getElem?_map, List.getElem?_map]
  rcases Nat.lt_or_ge i E.length with hi | hi
  · have hj : i < M.length := h.1 ▸ hi
    obtain ⟨a, _⟩ := h.2 i _ _ (List.getElem?_eq_getElem hi) (List.getElem?_eq_getElem hj)
    rw [List.getElem?_eq_getElem hi, List.getElem?_eq_getElem hj, Option.map_some, Option.map_some, a]
  · rw [List.getElem?_eq_none hi, List.getElem?_eq_none (by rw [← h.1]; exact hi)]; rfl
/-- a pool as it lies: its own blocks are those of F; L: those that wait, rising -/
structure PoolAt (w : World) (F : Nat → Prop) (g : Nat) (room : Int) (L : List PatV) : Prop where
  lt : ∀ k, F k → k < w.heap.size
  self : F g
  rise : L.Pairwise fun a b => keyP a.1 < keyP b.1
  good : ∀ p ∈ L, patB p = true
  few : L.length ≤ 32
  ex : ∃ gm E M D, Blk w g 119 #[.int .i64 room, .map (some gm)] ∧ F gm ∧ g ≠ gm ∧ MapIs Try.prog 41 w gm E ∧ M.Perm L ∧ EntsIn w D E M ∧ ∀ k, D k → F k ∧ k ≠ g ∧ k ≠ gm
theorem PoolAt.stay {w w' : World} {F : Nat → Prop} {g : Nat} {room : Int} {L : List PatV} (h : PoolAt w F g room L) (hk : Stay F w w') : PoolAt w' F g room L := by
  obtain ⟨h1, h2, h3, h4, h5, gm, E, M, D, k1, k2, k3, k4, k5, k6, k7⟩ := h
  exact ⟨fun k hF => Nat.lt_of_lt_of_le (h1 k hF) hk.1, h2, h3, h4, h5, gm, E, M, D, k1.keep (hk.2 g (h1 g h2) h2), k2, k3, k4.keep (hk.2 gm (h1 gm k2) k2), k5, k6.stay (hk.mono fun k e => (k7 k e).1), k7⟩
theorem PoolAt.ext {w w' : World} {F : Nat → Prop} {g : Nat} {room : Int} {L : List PatV} (h : PoolAt w F g room L) (hb : Below w.heap.size w w') : PoolAt w' F g room L := h.stay (Stay.of_below hb)
theorem kMapP : Try.prog.underlying 117 = some (.map 41 45) := by kernel_rfl
def idsV (L : List PatV) : List PidV := L.map (·.1)
theorem perm_of_map {α β : Type} [DecidableEq α] {f : α → β} (inj : ∀ x y, f x = f y → x = y) : ∀ {a b : List α}, (a.map f).Perm (b.map f) → a.Perm b
  | [], b, h => by
    have := h.length_eq
    simp only [List.map_nil, List.length_nil, List.length_map] at this
    rw [List.length_eq_zero_iff.1 this.symm]
  | x :: a, b, h => by
    have hx : f x ∈ b.map f := h.subset (by simp)
    obtain ⟨y, hy, e⟩ := List.mem_map.1 hx
    have e := inj _ _ e
    subst e
    have hb := List.perm_cons_erase hy
    have h2 := h.trans (hb.map f)
    rw [List.map_cons, List.map_cons] at h2
    exact ((perm_of_map inj h2.cons_inv).cons y).trans hb.symm
/-- what a sort makes of names that are each there once: they rise -/
theorem rise_eqP {d l : List PidV} (hp : d.Perm l) (hd : d.Pairwise fun a b => keyP a ≤ keyP b) (hl : l.Pairwise fun a b => keyP a < keyP b) : d = l := by
  refine List.Perm.eq_of_pairwise (le := fun a b => keyP a ≤ keyP b) (fun a b ha hb h1 h2 => ?_) hd (hl.imp fun h => by omega) hp
  have hb' : b ∈ l := hb
  have ha' : a ∈ l := hp.subset ha
  obtain ⟨i, hi, rfl⟩ := List.getElem_of_mem ha'
  obtain ⟨j, hj, rfl⟩ := List.getElem_of_mem hb'
  have hpw := List.pairwise_iff_getElem.1 hl
  rcases Nat.lt_trichotomy i j with c | c | c
  · have := hpw i j hi hj c; omega
  · subst c; rfl
  · have := hpw j i hj hi c; omega

theorem Blk.range {w : World} {g : Nat} {t : TypeId} {l : List Value} (h : Blk w g t l.toArray) : w.rangeAt g 0 l := fun j v hv => by
  rw [Nat.zero_add, h.cell, List.getElem?_toArray]; exact hv
set_option maxRecDepth 100000 in
set_option maxHeartbeats 2000000 in
theorem ids_any {w : World} {F : Nat → Prop} {g : Nat} {room : Int} {L : List PatV} (hP : PoolAt w F g room L) :
    Calls Try.prog 81 #[.pointer (some ⟨g, 0, none⟩)] w (OwnedRet w 41 2 L.length ((idsV L).flatMap encP)) := by
  obtain ⟨hlt, hself, hrise, hgood, hfew, gm, E, M, D, kB, kF, kne, kM, kP, kE, kD⟩ := hP
  have hEM := kE.keys
  have hlen : E.length = L.length := by rw [kE.1]; exact kP.length_eq
  have hgm : gm < w.heap.size := hlt gm kF
  have KB := Lib.hid kB
  have KM := Lib.hid kM
  have HK : Hid (∀ p ∈ E, ∃ x : PidV, p.1 = .agg (encP x).toArray) := fun p hp => by
    have : p.1 ∈ E.map (·.1) := List.mem_map.2 ⟨p, hp, rfl⟩
    rw [hEM] at this
    obtain ⟨q, _, e⟩ := List.mem_map.1 this
    exact ⟨q.1, e.symm⟩
  have HE : Hid (∀ ks : List PidV, (ks.map fun x => Value.agg (encP x).toArray).Perm (E.map (·.1)) → ks.Perm (idsV L)) := fun ks hks => by
    rw [hEM] at hks
    have e : (M.map fun p => Value.agg (encP p.1).toArray) = (idsV M).map fun x => Value.agg (encP x).toArray := by simp [idsV]
    rw [e] at hks
    exact (perm_of_map (fun a b h => encP_inj h) hks).trans (kP.map (fun p : PatV => p.1))
  have HR : Hid ((idsV L).Pairwise fun a b => keyP a < keyP b) := by rw [Hid, idsV, List.pairwise_map]; exact hrise
  clear hlt hself hrise hgood kB kF kM kP kE kD hEM
  have y0 : w.cell? ⟨g, 0, none⟩ = some (.int .i64 room) := KB.out.cell 0
  have y1 : w.cell? ⟨g, 1, none⟩ = some (.map (some gm)) := KB.out.cell 1
  obtain ⟨i, z, hi, hz, hsz, hby, hzs⟩ := pidSl.hi
  go_enter Try.func81, Try.ntmps81
  have hg0 := Lib.hid KB.out.lt
  go_wp2_with (first
    | (at_len; refine wpList_lenIs rfl _ 117 rfl _ kMapP (by rfl) KM.out ?_)
    | (at_make; refine wpList_make_own _ rfl _ _ 42 rfl w.heap.size 41 i z 2 Try.underlying42 hi hz hsz _ _ _ E.length (by rfl) (by rfl) rfl (by rw [hby]; omega) (by unfold maxLen; omega) (Nat.le_refl _) ?_; intro w1 own1 gr1
       have B1 : Hid (Below w.heap.size w w1) := ⟨gr1.os, gr1.tape, gr1.output, gr1.size, fun k hk => gr1.block k hk (by simp)⟩
       have O1 := Lib.hid own1
       have KM1 := Lib.hid (KM.out.below B1.out hgm)
       have y1' : w1.cell? ⟨g, 1, none⟩ = some (.map (some gm)) := (World.cell?_of_block (a := ⟨g, 1, none⟩) (B1.out.block g hg0.out)).trans y1
       clear own1 gr1)
    | (at_range; refine wpList_rangeIs rfl _ 117 rfl _ kMapP (by rfl) KM1.out ?_; intro ob R1))
  go_frame
  have B2 := Lib.hid (B1.out.trans ((below_new w1 ob).mono B1.out.size))
  have O2 : Hid ((w1.alloc ob).ownsRow w.heap.size 41 2 (.slice (some ⟨w.heap.size, 0, none⟩) 0 L.length) 0 []) := by rw [← hlen]; exact own_ext O1.out (below_new w1 ob)
  have R2 := Lib.hid R1
  have hlt1 : w.heap.size < w1.heap.size := (O1.out.lt w.heap.size rfl).2
  clear R1 O1 KM1 B1 y1' y0 y1
  generalize w1.alloc ob = w2 at *
  generalize w1.heap.size = r at *
  go_loopw [3] (fun v wr => ∃ (ks : List PidV) (todo : List (Value × Value)), Hid (wr.ownsRow w.heap.size 41 2 v ks.length (ks.flatMap encP)) ∧ Hid (RangeIs Try.prog 41 wr gm r E todo) ∧ Hid ((ks.map (fun x => Value.agg (encP x).toArray) ++ todo.map (·.1)).Perm (E.map (·.1))) ∧ Hid (∀ k, v.ownBlock = some k → k ≠ r) ∧ Hid (Below w.heap.size w wr)) (fun _ wr => wr.rangeLeft gm r)
  case atStart => exact ⟨[], E, O2.out, R2.out, List.Perm.refl _, fun k e => by have e : some w.heap.size = some k := e; injection e with e; omega, B2.out⟩
  case round =>
    clear O2 R2 B2
    obtain ⟨ks, todo, O, R, PM, NE, B⟩ := hrel
    have hlk := PM.out.length_eq
    rw [List.length_append, List.length_map, List.length_map, List.length_map] at hlk
    go_wp2_with (at_next; refine wpList_nextIs rfl _ rfl (by rfl) R.out ?_ ?_)
    · intro h0
      subst h0
      have HS := Lib.hid (sortP ks wr w.heap.size ks.length _ rfl (by omega) O.out)
      have hks := Lib.hid (HE.out ks (by simpa using PM.out))
      clear O R PM NE
      go_wp2_with fail
      refine HS.out.mono ?_
      rintro e w5 ⟨rfl, b5, d, dp, dr, o5⟩
      have e1 : Hid (d = idsV L) := rise_eqP (dp.trans hks.out) dr HR.out
      have e2 : Hid (ks.length = L.length) := by rw [Hid, hks.out.length_eq]; simp [idsV]
      have O5 := Lib.hid o5
      have B5 := Lib.hid (B.out.trans b5)
      clear dp dr o5 b5 hks HS
      go_wp2
      go_ret
      refine ⟨_, rfl, ?_, B5.out⟩
      have := O5.out
      rw [e1.out, e2.out] at this
      exact this
    · intro pk pv todo' w3 hp hpl hR3 hB hoth hsz hen
      obtain ⟨x, hx⟩ := HK.out _ hpl
      obtain rfl : pk = .agg (encP x).toArray := hx
      have O3 : Hid (w3.ownsRow w.heap.size 41 2 _ ks.length (ks.flatMap encP)) := own_keepF O.out fun k e => hoth k (NE.out k e)
      have B3 := Lib.hid (B.out.trans (hB w.heap.size (by omega)))
      have hpl2 := hp.length_eq
      simp only [List.length_cons] at hpl2
      have M3 : Hid (Below w3.heap.size w3 ((w3.alloc (.cells #[.int .u8 0, .int .u16 0] 41)).setRow w3.heap.size (encP x).toArray)) := below_setRow ((Below.refl _ _).alloc (Nat.le_refl _) _) (Nat.le_refl _) _
      have K4 : Hid (Blk ((w3.alloc (.cells #[.int .u8 0, .int .u16 0] 41)).setRow w3.heap.size (encP x).toArray) w3.heap.size 41 (encP x).toArray) := (Blk.new _ _ _).row _
      have HP := Lib.hid hp
      have R3 := Lib.hid hR3
      have hml : Hid (wr.rangeLeft gm r = todo.length) := R.out.left_eq
      clear hp hR3 hpl hB hoth hsz O R B
      have i1 : (Try.prog.info? 41).map (·.size) = some (encP x).toArray.size := infoPid
      have i2 : (encP x).toArray.all (·.oneCell') = true := by simp [encP, Value.oneCell']
      have O4 := Lib.hid (own_ext O3.out M3.out)
      have B4 := Lib.hid (B3.out.trans (M3.out.mono B3.out.size))
      have R4 := Lib.hid (R3.out.keep (M3.out.block gm R3.out.map.lt) (M3.out.block r R3.out.lt))
      have RX := Lib.hid (K4.out.range)
      clear O3 B3 R3 M3 K4
      go_wp2_with (first
        | (refine wpList_alloced (allocPI _) ?_)
        | (refine wpList_store_row rfl 41 _ _ (by rfl) w3.heap.size (encP x).toArray (by rfl) (by rfl) _ _ (Blk.new _ _ _) i1 rfl i2 ?_
           generalize ((w3.alloc (.cells #[.int .u8 0, .int .u16 0] 41)).setRow w3.heap.size (encP x).toArray) = w4 at *)
        | (refine wpList_load_mid rfl 41 _ (by rfl) w3.heap.size 0 (by rfl) _ _ RX.out underPid rfl infoPid ?_)
        | (refine wpList_lit1 pidSl (encP_len x) (by omega) (by rfl) ?_)
        | (at_builtin; refine wpList_pushF pidSl O4.out (encP x) rfl (encP_one x) B4.out.size (by omega) (by unfold maxLen; omega) (by rfl) (by rfl) (by rfl) ?_; intro v1 w6 own1 kp hv1))
      have O6 : Hid (w6.ownsRow w.heap.size 41 2 v1 (ks ++ [x]).length ((ks ++ [x]).flatMap encP)) := by
        rw [Hid, List.length_append, List.flatMap_append]; simpa using own1
      have hgr : ∀ k, u3.ownBlock = some k → k ≠ gm := fun k e => own_ne_map O4.out R4.out.map e
      have R6 : Hid (RangeIs Try.prog 41 w6 gm r E todo') := R4.out.keep (kp.block gm R4.out.map.lt fun e => hgr gm e rfl) (kp.block r R4.out.lt fun e => NE.out r e rfl)
      have N6 : Hid (∀ k, v1.ownBlock = some k → k ≠ r) := fun k e => (hv1 k e).elim (NE.out k) (fun h e2 => by have := R4.out.lt; omega)
      have B6 := Lib.hid (B4.out.trans (kp.below (fun k e => (O4.out.lt k e).1) B4.out.size))
      have P6 : Hid (((ks ++ [x]).map (fun x => Value.agg (encP x).toArray) ++ todo'.map (·.1)).Perm (E.map (·.1))) := by
        refine List.Perm.trans ?_ PM.out
        rw [List.map_append, List.append_assoc]
        exact ((HP.out.map (·.1)).symm.append_left _)
      have hme : Hid (w6.rangeLeft gm r < wr.rangeLeft gm r) := by
        rw [Hid, R6.out.left_eq, hml.out]; omega
      clear own1 kp hv1 O4 B4 R4 RX NE PM HP hml hgr
      go_roundw
      case rel => exact ⟨ks ++ [x], todo', O6.out, R6.out, P6.out, N6.out, B6.out⟩
      case measure => exact hme.out
end Go.Proofs.Ytnhbbggpgieipaa

/- A pool: how many wait, for how many there is room; of a nil pool there is nothing: walked. -/
namespace Go.Proofs.Ytnhbbggpgieipaa
open Go.RowKit

set_option maxRecDepth 100000 in
set_option maxHeartbeats 1000000 in
theorem ids_nil (w : World) : Calls Try.prog 81 #[.pointer none] w (RetB w (.slice none 0 0)) := by
  go_enter Try.func81, Try.ntmps81
  go_wp2
  go_ret
  exact ⟨rfl, Below.refl _ _⟩
set_option maxRecDepth 100000 in
set_option maxHeartbeats 1000000 in
theorem lenPl_any {w : World} {F : Nat → Prop} {g : Nat} {room : Int} {L : List PatV} (hP : PoolAt w F g room L) : Calls Try.prog 49 #[.pointer (some ⟨g, 0, none⟩)] w (RetB w (.int .i64 (L.length : Int))) := by
  have HI := Lib.hid (ids_any hP)
  clear hP
  go_enter Try.func49, Try.ntmps49
  go_wp2_with fail
  refine HI.out.mono ?_
  rintro e w1 ⟨v, rfl, o1, b1⟩
  obtain ⟨A, c, rfl, _, _⟩ := Sl.of_own o1
  have B1 := Lib.hid b1
  clear o1 b1 HI
  go_wp2
  go_ret
  exact ⟨rfl, B1.out⟩
set_option maxRecDepth 100000 in
set_option maxHeartbeats 1000000 in
theorem lenPl_nil (w : World) : Calls Try.prog 49 #[.pointer none] w (RetB w (.int .i64 0)) := by
  go_enter Try.func49, Try.ntmps49
  go_wp2_with fail
  refine (ids_nil _).mono ?_
  rintro e w1 ⟨rfl, b1⟩
  have B1 := Lib.hid b1
  clear b1
  go_wp2
  go_ret
  exact ⟨rfl, B1.out⟩
set_option maxRecDepth 100000 in
set_option maxHeartbeats 1000000 in
theorem roomPl_any {w : World} {F : Nat → Prop} {g : Nat} {room : Int} {L : List PatV} (hP : PoolAt w F g room L) : Calls Try.prog 50 #[.pointer (some ⟨g, 0, none⟩)] w (RetB w (.int .i64 room)) := by
  obtain ⟨gm, E, M, D, kB, _⟩ := hP.ex
  have y0 : w.cell? ⟨g, 0, none⟩ = some (.int .i64 room) := kB.cell 0
  clear kB hP
  go_enter Try.func50, Try.ntmps50
  go_wp2
  go_ret
  exact ⟨rfl, Below.refl _ _⟩
set_option maxRecDepth 100000 in
set_option maxHeartbeats 1000000 in
theorem roomPl_nil (w : World) : Calls Try.prog 50 #[.pointer none] w (RetB w (.int .i64 0)) := by
  go_enter Try.func50, Try.ntmps50
  go_wp2
  go_ret
  exact ⟨rfl, Below.refl _ _⟩
set_option maxRecDepth 100000 in
set_option maxHeartbeats 1000000 in
theorem dropPl_nil (d : PidV) (w : World) : Calls Try.prog 47 #[.pointer none, .agg (encP d).toArray] w (RetB w (.bool false)) := by
  have B0 : Hid (Below w.heap.size w (w.alloc (.cells (encP d).toArray 41))) := below_new _ _
  go_enter Try.func47, Try.ntmps47
  go_wp2
  go_ret
  exact ⟨rfl, B0.out⟩
set_option maxRecDepth 100000 in
set_option maxHeartbeats 1000000 in
theorem putPl_nil (cs : Array Value) (w : World) : Calls Try.prog 46 #[.pointer none, .agg cs] w (RetB w (.int .i64 1)) := by
  have B0 : Hid (Below w.heap.size w (w.alloc (.cells cs 45))) := below_new _ _
  go_enter Try.func46, Try.ntmps46
  go_wp2
  go_ret
  exact ⟨rfl, B0.out⟩
theorem makeP (w : World) : (Instr.makeMap 117 none).run Try.prog w = .ok (.map (some w.heap.size)) (w.alloc (.map #[] 0)) := by kernel_rfl
theorem buildP (room : Int) (gm : Nat) (w : World) : (Instr.build 119 #[(0, .int .i64 room), (1, .map (some gm))]).run Try.prog w = .ok (.agg #[.int .i64 room, .map (some gm)]) w := by kernel_rfl
/-- for how many a pool has room -/
def roomV (n : Int) : Int := min (max n 0) 32
/-- a new pool is handed back -/
def RetPl (w : World) (room : Int) (e : Ending) (w' : World) : Prop := ∃ g, e = .returned (.pointer (some ⟨g, 0, none⟩)) ∧ PoolAt w' (fun k => w.heap.size ≤ k ∧ k < w'.heap.size) g room [] ∧ Below w.heap.size w w'
theorem newPl_at (w : World) (n : Int) : PoolAt ((w.alloc (.map #[] 0)).alloc (.cells #[.int .i64 n, .map (some w.heap.size)] 119)) (fun k => w.heap.size ≤ k ∧ k < ((w.alloc (.map #[] 0)).alloc (.cells #[.int .i64 n, .map (some w.heap.size)] 119)).heap.size) (w.heap.size + 1) n [] :=
  ⟨fun k h => h.2, by simp, List.Pairwise.nil, by simp, by simp, w.heap.size, [], [], fun _ => False, Blk.newAt (by simp) _ _, (by simp; omega), by omega, (MapIs.made _ _ _).alloc _, List.Perm.refl _, ⟨rfl, fun _ _ _ h => by simp at h⟩, fun _ h => False.elim h⟩
set_option maxRecDepth 100000 in
set_option maxHeartbeats 2000000 in
theorem newPl_any (n : Int) (w : World) : Calls Try.prog 53 #[.int .i64 n] w (RetPl w (roomV n)) := by
  have E : ∀ m, Hid (PoolAt ((w.alloc (.map #[] 0)).alloc (.cells #[.int .i64 m, .map (some w.heap.size)] 119)) (fun k => w.heap.size ≤ k ∧ k < ((w.alloc (.map #[] 0)).alloc (.cells #[.int .i64 m, .map (some w.heap.size)] 119)).heap.size) (w.heap.size + 1) m []) := newPl_at w
  have B : ∀ m, Hid (Below w.heap.size w ((w.alloc (.map #[] 0)).alloc (.cells #[.int .i64 m, .map (some w.heap.size)] 119))) := fun m => ((Below.refl _ _).alloc (Nat.le_refl _) _).alloc (by simp) _
  have hmk := makeP
  go_enter Try.func53, Try.ntmps53
  go_wp2_with (refine wpList_built (buildP _ _ _) (by rfl) ?_)
  go_ret
  exact ⟨_, rfl, (E _).out, (B _).out⟩
end Go.Proofs.Ytnhbbggpgieipaa

/- Of a nil pool nothing is pruned, nothing is ready, there is nothing: walked. -/
namespace Go.Proofs.Ytnhbbggpgieipaa
open Go.RowKit

set_option maxRecDepth 100000 in
set_option maxHeartbeats 1000000 in
theorem prunePl_nil (v : List Int) (w : World) : Calls Try.prog 48 #[.pointer none, .agg (vecA v)] w (RetB w (.int .i64 0)) := by
  have B0 : Hid (Below w.heap.size w (w.alloc (.cells (vecA v) 25))) := below_new _ _
  go_enter Try.func48, Try.ntmps48
  go_upto_region 1 with fail
  generalize (w.alloc (.cells (vecA v) 25)) = w2 at *
  go_wp2_with fail
  refine (ids_nil w2).mono ?_
  rintro e w3 ⟨rfl, b3⟩
  have B3 := Lib.hid (B0.out.trans (b3.mono B0.out.size))
  clear b3
  go_wp2_with fail
  go_loop [11, 5] (fun i s => i = .int .i64 0 ∧ s = .int .i64 0) (fun _ _ => 0)
  case atStart => exact ⟨rfl, rfl⟩
  case round =>
    obtain ⟨rfl, rfl⟩ := hrel
    go_wp2
    go_ret
    exact ⟨rfl, B3.out⟩
set_option maxRecDepth 100000 in
set_option maxHeartbeats 1000000 in
theorem allPl_nil (w : World) : Calls Try.prog 51 #[.pointer none] w (RetB w (.slice none 0 0)) := by
  go_enter Try.func51, Try.ntmps51
  go_wp2_with fail
  refine (ids_nil w).mono ?_
  rintro e w3 ⟨rfl, b3⟩
  have B3 := Lib.hid b3
  clear b3
  go_wp2_with fail
  go_loop [9, 3] (fun i s => i = .int .i64 0 ∧ s = .slice none 0 0) (fun _ _ => 0)
  case atStart => exact ⟨rfl, rfl⟩
  case round =>
    obtain ⟨rfl, rfl⟩ := hrel
    go_wp2
    go_ret
    exact ⟨rfl, B3.out⟩
set_option maxRecDepth 100000 in
set_option maxHeartbeats 1000000 in
theorem readyPl_nil (v : List Int) (w : World) : Calls Try.prog 45 #[.pointer none, .agg (vecA v)] w (RetB w (.tuple #[.agg #[.int .u8 0, .int .u16 0, .slice none 0 0, .slice none 0 0], .bool false])) := by
  have B0 : Hid (Below w.heap.size w ((w.alloc (.cells (vecA v) 25)).alloc (.cells #[.int .u8 0, .int .u16 0, .slice none 0 0, .slice none 0 0] 45))) := ((Below.refl _ _).alloc (Nat.le_refl _) _).alloc (by simp) _
  have K2 : Hid (Blk ((w.alloc (.cells (vecA v) 25)).alloc (.cells #[.int .u8 0, .int .u16 0, .slice none 0 0, .slice none 0 0] 45)) (w.heap.size + 1) 45 #[.int .u8 0, .int .u16 0, .slice none 0 0, .slice none 0 0]) := Blk.newAt (by simp) _ _
  have hgr : Hid (w.heap.size ≤ w.heap.size + 1) := Nat.le_succ _
  go_enter Try.func45, Try.ntmps45
  go_upto_region 1 with fail
  generalize ((w.alloc (.cells (vecA v) 25)).alloc (.cells #[.int .u8 0, .int .u16 0, .slice none 0 0, .slice none 0 0] 45)) = w2 at *
  generalize w.heap.size + 1 = gr at *
  go_wp2_with fail
  refine (ids_nil w2).mono ?_
  rintro e w3 ⟨rfl, b3⟩
  have B3 := Lib.hid (B0.out.trans (b3.mono B0.out.size))
  have K3 := Lib.hid (K2.out.ext b3)
  clear b3 K2 B0
  go_wp2_with fail
  go_loop [11] (fun i => i = .int .i64 0) (fun _ => 0)
  case atStart => rfl
  case round =>
    obtain rfl := hrel
    go_wp2_with (first
      | (refine wpList_built (buildPatZ _) (by rfl) ?_)
      | (refine wpList_store_row rfl 45 _ _ (by rfl) gr #[.int .u8 0, .int .u16 0, .slice none 0 0, .slice none 0 0] (by rfl) (by rfl) _ _ K3.out infoPat rfl zeroC_one ?_))
    refine bodyPost_ret (results_row_tmp rfl _ _ gr _ #[.int .u8 0, .int .u16 0, .slice none 0 0, .slice none 0 0] _ rfl (K3.out.row _) underPat rfl infoPat) rfl ?_
    exact ⟨rfl, below_setRow B3.out hgr.out _⟩
end Go.Proofs.Ytnhbbggpgieipaa

/- A pool's entries: found by a name, added, taken out. Plain law. -/
namespace Go.Proofs.Ytnhbbggpgieipaa
open Go.RowKit

section
variable {w : World} {D : Nat → Prop} {E : List (Value × Value)} {M : List PatV}
theorem EntsIn.nil (w : World) (D : Nat → Prop) : EntsIn w D [] [] := ⟨rfl, fun _ _ _ h => by simp at h⟩
theorem EntsIn.cons {e : Value × Value} {p : PatV} : EntsIn w D (e :: E) (p :: M) ↔ (e.1 = .agg (encP p.1).toArray ∧ ∃ r, e.2 = .agg r.toArray ∧ PatIn w D r p) ∧ EntsIn w D E M := by
  constructor
  · intro h
    exact ⟨h.2 0 e p rfl rfl, by simpa using h.1, fun k e' p' h1 h2 => h.2 (k + 1) e' p' (by simpa using h1) (by simpa using h2)⟩
  · rintro ⟨h1, h2, h3⟩
    refine ⟨by simp [h2], fun k e' p' g1 g2 => ?_⟩
    match k, g1, g2 with
    | 0, g1, g2 =>
      obtain rfl : e = e' := by simpa using g1
      obtain rfl : p = p' := by simpa using g2
      exact h1
    | k + 1, g1, g2 => exact h3 k e' p' (by simpa using g1) (by simpa using g2)
theorem EntsIn.find : ∀ {E : List (Value × Value)} {M : List PatV}, EntsIn w D E M → ∀ {d : PidV} {v : Value}, ((Value.agg (encP d).toArray), v) ∈ E → ∃ p, p ∈ M ∧ p.1 = d ∧ ∃ r, v = .agg r.toArray ∧ PatIn w D r p
  | [], M, _, _, _, hm => by cases hm
  | e :: E, [], h, _, _, _ => by have := h.1; simp at this
  | e :: E, p :: M, h, d, v, hm => by
    obtain ⟨⟨h1, r, h2, h3⟩, h4⟩ := EntsIn.cons.1 h
    rcases List.mem_cons.1 hm with rfl | hm
    · exact ⟨p, by simp, (encP_inj h1).symm, r, h2, h3⟩
    · obtain ⟨q, g1, g2⟩ := h4.find hm
      exact ⟨q, by simp [g1], g2⟩
theorem EntsIn.has : ∀ {E : List (Value × Value)} {M : List PatV}, EntsIn w D E M → ∀ {p : PatV}, p ∈ M → ∃ r, ((Value.agg (encP p.1).toArray), Value.agg r.toArray) ∈ E ∧ PatIn w D r p
  | [], M, h, p, hp => by
    have := h.1
    rw [List.length_nil] at this
    rw [List.length_eq_zero_iff.1 this.symm] at hp; cases hp
  | e :: E, [], _, _, hp => by cases hp
  | e :: E, q :: M, h, p, hp => by
    obtain ⟨⟨h1, r, h2, h3⟩, h4⟩ := EntsIn.cons.1 h
    rcases List.mem_cons.1 hp with rfl | hp
    · exact ⟨r, by rw [← h1, ← h2]; simp, h3⟩
    · obtain ⟨r, g1, g2⟩ := h4.has hp
      exact ⟨r, by simp [g1], g2⟩
theorem EntsIn.sub {E' : List (Value × Value)} (hs : E'.Sublist E) : ∀ {M : List PatV}, EntsIn w D E M → ∃ M', M'.Sublist M ∧ EntsIn w D E' M' := by
  induction hs with
  | slnil => intro M h; exact ⟨M, List.Sublist.refl _, h⟩
  | cons a _ ih =>
    intro M h
    match M, h with
    | [], h => have := h.1; simp at this
    | p :: M, h =>
      obtain ⟨M', g1, g2⟩ := ih (EntsIn.cons.1 h).2
      exact ⟨M', g1.cons p, g2⟩
  | cons_cons a _ ih =>
    intro M h
    match M, h with
    | [], h => have := h.1; simp at this
    | p :: M, h =>
      obtain ⟨M', g1, g2⟩ := ih (EntsIn.cons.1 h).2
      exact ⟨p :: M', g1.cons_cons p, EntsIn.cons.2 ⟨(EntsIn.cons.1 h).1, g2⟩⟩
theorem EntsIn.snoc {e : Value × Value} {p : PatV} (h : EntsIn w D E M) (he : e.1 = .agg (encP p.1).toArray) {r : List Value} (hr : e.2 = .agg r.toArray) (hp : PatIn w D r p) : EntsIn w D (E ++ [e]) (M ++ [p]) := by
  refine ⟨by simp [h.1], fun k e' p' h1 h2 => ?_⟩
  rcases Nat.lt_or_ge k E.length with hk | hk
  · rw [List.getElem?_append_left hk] at h1
    rw [List.getElem?_append_left (by rw [← h.1]; exact hk)] at h2
    exact h.2 k e' p' h1 h2
  · rw [List.getElem?_append_right hk] at h1
    rw [List.getElem?_append_right (by rw [← h.1]; exact hk), ← h.1] at h2
    match k - E.length, h1, h2 with
    | 0, h1, h2 =>
      obtain rfl : e = e' := by simpa using h1
      obtain rfl : p = p' := by simpa using h2
      exact ⟨he, r, hr, hp⟩
    | _ + 1, h1, h2 => simp at h1
theorem EntsIn.mono {D' : Nat → Prop} (h : EntsIn w D E M) (hd : ∀ k, D k → D' k) : EntsIn w D' E M :=
  ⟨h.1, fun k e p h1 h2 => by obtain ⟨a, r, b, c⟩ := h.2 k e p h1 h2; exact ⟨a, r, b, c.mono hd⟩⟩
end
theorem rise_nodup {L : List PatV} (h : L.Pairwise fun a b => keyP a.1 < keyP b.1) : L.Nodup := h.imp fun {a b} hlt e => by subst e; omega
/-- what is left in the map when a name is taken out -/
theorem drop_perm {w : World} {D : Nat → Prop} {E E' : List (Value × Value)} {M L : List PatV} {d : PidV} (hE : EntsIn w D E M) (hp : M.Perm L) (hr : L.Pairwise fun a b => keyP a.1 < keyP b.1) (hs : E'.Sublist E) (hm : ∀ e, e ∈ E' ↔ e ∈ E ∧ e.1 ≠ .agg (encP d).toArray) :
    ∃ M', EntsIn w D E' M' ∧ M'.Perm (L.filter fun p => p.1 != d) := by
  obtain ⟨M', h1, h2⟩ := hE.sub hs
  have hM : M.Nodup := (hp.nodup_iff).2 (rise_nodup hr)
  refine ⟨M', h2, List.Perm.trans ?_ (hp.filter _)⟩
  refine (List.perm_ext_iff_of_nodup (h1.nodup hM) (hM.filter _)).2 fun p => ?_
  rw [List.mem_filter]
  constructor
  · intro hpm
    refine ⟨h1.subset hpm, ?_⟩
    obtain ⟨r, g1, _⟩ := h2.has hpm
    have := ((hm _).1 g1).2
    simp only [bne_iff_ne, ne_eq]
    rintro rfl
    exact this rfl
  · rintro ⟨hpm, hne⟩
    simp only [bne_iff_ne, ne_eq] at hne
    obtain ⟨r, g1, _⟩ := hE.has hpm
    obtain ⟨q, g3, g4, _⟩ := h2.find ((hm _).2 ⟨g1, fun e => hne (encP_inj e)⟩)
    have hq : q ∈ M := h1.subset g3
    have hkey : ∀ a b : PatV, a ∈ M → b ∈ M → a.1 = b.1 → a = b := fun a b ha hb e => by
      obtain ⟨i, hi, rfl⟩ := List.getElem_of_mem (hp.subset ha)
      obtain ⟨j, hj, rfl⟩ := List.getElem_of_mem (hp.subset hb)
      have hpw := List.pairwise_iff_getElem.1 hr
      rcases Nat.lt_trichotomy i j with c | c | c
      · have := hpw i j hi hj c; rw [e] at this; omega
      · subst c; rfl
      · have := hpw j i hj hi c; rw [e] at this; omega
    rw [← hkey q p hq hpm g4]; exact g3
/-- a patch among those that wait, rising -/
def insP (L : List PatV) (p : PatV) : List PatV := (L.filter fun a => decide (keyP a.1 < keyP p.1)) ++ p :: L.filter fun a => decide (keyP p.1 < keyP a.1)
theorem insP_rise {L : List PatV} (h : L.Pairwise fun a b => keyP a.1 < keyP b.1) (p : PatV) : (insP L p).Pairwise fun a b => keyP a.1 < keyP b.1 := by
  unfold insP
  refine List.pairwise_append.2 ⟨h.filter _, List.pairwise_cons.2 ⟨fun b hb => by simpa using (List.mem_filter.1 hb).2, h.filter _⟩, fun a ha b hb => ?_⟩
  have h1 : keyP a.1 < keyP p.1 := by simpa using (List.mem_filter.1 ha).2
  rcases List.mem_cons.1 hb with rfl | hb
  · exact h1
  · have h2 : keyP p.1 < keyP b.1 := by simpa using (List.mem_filter.1 hb).2
    omega
theorem insP_perm {L : List PatV} {p : PatV} (h : ∀ q ∈ L, keyP q.1 ≠ keyP p.1) : (insP L p).Perm (L ++ [p]) := by
  unfold insP
  have e : (L.filter fun a => decide (keyP p.1 < keyP a.1)) = L.filter fun a => !decide (keyP a.1 < keyP p.1) := by
    refine List.filter_congr fun q hq => ?_
    have := h q hq
    by_cases h1 : keyP q.1 < keyP p.1
    · have h2 : ¬ keyP p.1 < keyP q.1 := by omega
      simp [h1, h2]
    · have h2 : keyP p.1 < keyP q.1 := by omega
      simp [h1, h2]
  rw [e]
  refine List.perm_middle.trans (((List.filter_append_perm _ L).cons p).trans ?_)
  exact (List.perm_append_singleton p L).symm
theorem kZeroPat (u : World) : (zeroValue 45).run Try.prog u = .ok (.agg #[.int .u8 0, .int .u16 0, .slice none 0 0, .slice none 0 0]) u := by kernel_rfl
/-- a patch that waits is found by its name, in any world where the map stands -/
theorem PoolAt.look {w : World} {F : Nat → Prop} {g : Nat} {room : Int} {L : List PatV} (h : PoolAt w F g room L) {p : PatV} (hp : p ∈ L) :
    ∃ gm r, Blk w g 119 #[.int .i64 room, .map (some gm)] ∧ gm < w.heap.size ∧ PatIn w F r p ∧
      ∀ w', w'.heap[gm]? = w.heap[gm]? → (Instr.lookup 117 (.map (some gm)) (.agg (encP p.1).toArray) false).run Try.prog w' = .ok (.agg r.toArray) w' := by
  obtain ⟨hlt, hself, hrise, hgood, hfew, gm, E, M, D, kB, kF, kne, kM, kP, kE, kD⟩ := h
  obtain ⟨r, hr, hpi⟩ := kE.has (kP.mem_iff.2 hp)
  obtain ⟨kl, hkl⟩ := kKeyP p.1
  obtain ⟨v, hg, hl⟩ := kM.look kLawI kMapP kZeroPat hkl
  have e : v = .agg r.toArray := GetL.one kM.apart hg (.inr hr)
  subst e
  exact ⟨gm, r, kB, hlt gm kF, hpi.mono (fun k e => (kD k e).1), hl⟩
end Go.Proofs.Ytnhbbggpgieipaa

/- What a pool answers, and what waits then: plain laws. -/
namespace Go.Proofs.Ytnhbbggpgieipaa
open Go.RowKit

/-- the error of a patch that is put into a pool -/
def polE (room : Int) (L : List PatV) (p : PatV) : Nat :=
  if patB p = true then
    match findP L p.1 with
    | some q => if q = p then 7 else 8
    | none => if room ≤ (L.length : Int) then 11 else 0
  else 1
def polL (room : Int) (L : List PatV) (p : PatV) : List PatV := if polE room L p = 0 then insP L p else L
def dropL (L : List PatV) (d : PidV) : List PatV := L.filter fun p => p.1 != d
def fitB (v : List Int) (p : PatV) : Bool := nextB v p.1 && p.2.1.all (hasP v)
def readyL (v : List Int) (L : List PatV) : Option PatV := L.find? (fitB v)
theorem polE_1 {room : Int} {L : List PatV} {p : PatV} (h : patB p = false) : polE room L p = 1 := by unfold polE; rw [h]; rfl
theorem polE_7 {room : Int} {L : List PatV} {p q : PatV} (h : patB p = true) (hf : findP L p.1 = some q) (e : q = p) : polE room L p = 7 := by unfold polE; rw [if_pos h, hf]; simp only; rw [if_pos e]
theorem polE_8 {room : Int} {L : List PatV} {p q : PatV} (h : patB p = true) (hf : findP L p.1 = some q) (e : q ≠ p) : polE room L p = 8 := by unfold polE; rw [if_pos h, hf]; simp only; rw [if_neg e]
theorem polE_11 {room : Int} {L : List PatV} {p : PatV} (h : patB p = true) (hf : findP L p.1 = none) (e : room ≤ (L.length : Int)) : polE room L p = 11 := by unfold polE; rw [if_pos h, hf]; simp only; rw [if_pos e]
theorem polE_0 {room : Int} {L : List PatV} {p : PatV} (h : patB p = true) (hf : findP L p.1 = none) (e : ¬ room ≤ (L.length : Int)) : polE room L p = 0 := by unfold polE; rw [if_pos h, hf]; simp only; rw [if_neg e]
theorem polE_zero {room : Int} {L : List PatV} {p : PatV} (h : polE room L p = 0) : patB p = true ∧ findP L p.1 = none ∧ (L.length : Int) < room := by
  unfold polE at h
  split at h
  · rename_i hg
    split at h
    · split at h <;> cases h
    · rename_i hf
      split at h
      · cases h
      · exact ⟨hg, hf, by omega⟩
  · cases h
/-- those that wait: rising, good, few -/
structure PolOk (room : Int) (L : List PatV) : Prop where
  rise : L.Pairwise fun a b => keyP a.1 < keyP b.1
  good : ∀ p ∈ L, patB p = true
  few : (L.length : Int) ≤ room
  most : room ≤ 32
  least : 0 ≤ room
theorem PolOk.nil {room : Int} (h0 : 0 ≤ room) (h : room ≤ 32) : PolOk room [] := ⟨List.Pairwise.nil, by simp, by simpa using h0, h, h0⟩
theorem PolOk.sub {room : Int} {L L' : List PatV} (h : PolOk room L) (hs : L'.Sublist L) : PolOk room L' :=
  ⟨h.rise.sublist hs, fun p hp => h.good p (hs.subset hp), by have := hs.length_le; have := h.few; omega, h.most, h.least⟩
theorem PolOk.drop {room : Int} {L : List PatV} (h : PolOk room L) (d : PidV) : PolOk room (dropL L d) := h.sub List.filter_sublist
theorem insP_len {L : List PatV} {p : PatV} (h : findP L p.1 = none) : (insP L p).length = L.length + 1 := by
  have := (insP_perm (L := L) (p := p) fun q hq e => findP_none.1 h q hq (keyP_inj _ _ e)).length_eq
  simpa using this
theorem mem_insP {L : List PatV} {p q : PatV} (h : findP L p.1 = none) : q ∈ insP L p ↔ q ∈ L ∨ q = p := by
  rw [(insP_perm (L := L) (p := p) fun q hq e => findP_none.1 h q hq (keyP_inj _ _ e)).mem_iff]
  simp
theorem PolOk.put {room : Int} {L : List PatV} (h : PolOk room L) (p : PatV) : PolOk room (polL room L p) := by
  unfold polL
  split
  · rename_i h0
    obtain ⟨h1, h2, h3⟩ := polE_zero h0
    refine ⟨insP_rise h.rise p, fun q hq => ?_, by rw [insP_len h2]; omega, h.most, h.least⟩
    rcases (mem_insP h2).1 hq with hq | rfl
    · exact h.good q hq
    · exact h1
  · exact h
theorem PolOk.few32 {room : Int} {L : List PatV} (h : PolOk room L) : L.length ≤ 32 := by have := h.few; have := h.most; omega
theorem roomV_ok (n : Int) : 0 ≤ roomV n ∧ roomV n ≤ 32 := by unfold roomV; omega
theorem PoolAt.ok {w : World} {F : Nat → Prop} {g : Nat} {room : Int} {L : List PatV} (h : PoolAt w F g room L) (h0 : 0 ≤ room) (h1 : room ≤ 32) (h2 : (L.length : Int) ≤ room) : PolOk room L := ⟨h.rise, h.good, h2, h1, h0⟩
/-- rising names are each there once -/
theorem rise_key {L : List PatV} (hr : L.Pairwise fun a b => keyP a.1 < keyP b.1) {a b : PatV} (ha : a ∈ L) (hb : b ∈ L) (e : a.1 = b.1) : a = b := by
  obtain ⟨i, hi, rfl⟩ := List.getElem_of_mem ha
  obtain ⟨j, hj, rfl⟩ := List.getElem_of_mem hb
  have hpw := List.pairwise_iff_getElem.1 hr
  rcases Nat.lt_trichotomy i j with c | c | c
  · have := hpw i j hi hj c; rw [e] at this; omega
  · subst c; rfl
  · have := hpw j i hj hi c; rw [e] at this; omega
theorem rise_find {L : List PatV} (hr : L.Pairwise fun a b => keyP a.1 < keyP b.1) {p : PatV} (hp : p ∈ L) : findP L p.1 = some p := by
  cases hf : findP L p.1 with
  | none => exact absurd rfl (findP_none.1 hf p hp)
  | some q =>
    obtain ⟨h1, h2⟩ := findP_some hf
    rw [rise_key hr h1 hp h2]
theorem dropL_none {L : List PatV} {d : PidV} (h : findP L d = none) : dropL L d = L := by
  unfold dropL
  rw [List.filter_eq_self]
  intro p hp
  simpa using findP_none.1 h p hp
theorem dropL_len {L : List PatV} {d : PidV} : (dropL L d).length = L.length ↔ findP L d = none := by
  unfold dropL
  rw [List.length_filter_eq_length_iff, findP_none]
  simp
/-- what is left of the first k, and all behind -/
def prunK (v : List Int) (L : List PatV) (k : Nat) : List PatV := lackP v (L.take k) ++ L.drop k
theorem prunK_0 (v : List Int) (L : List PatV) : prunK v L 0 = L := by simp [prunK, lackP]
theorem prunK_all {v : List Int} {L : List PatV} {k : Nat} (h : L.length ≤ k) : prunK v L k = lackP v L := by
  unfold prunK; rw [List.take_of_length_le h, List.drop_of_length_le h, List.append_nil]
theorem prunK_sub (v : List Int) (L : List PatV) (k : Nat) : (prunK v L k).Sublist L := by
  have : ((lackP v (L.take k)) ++ L.drop k).Sublist (L.take k ++ L.drop k) := List.Sublist.append List.filter_sublist (List.Sublist.refl _)
  rw [List.take_append_drop] at this
  exact this
theorem prunK_no {v : List Int} {L : List PatV} {k : Nat} {p : PatV} (h : L[k]? = some p) (hh : hasP v p.1 = false) : prunK v L (k + 1) = prunK v L k := by
  obtain ⟨hk, e⟩ := List.getElem?_eq_some_iff.1 h
  unfold prunK
  rw [lackP_snoc h, hh, if_neg (by decide), List.drop_eq_getElem_cons hk, e]
  simp
theorem prunK_yes {v : List Int} {L : List PatV} (hr : L.Pairwise fun a b => keyP a.1 < keyP b.1) {k : Nat} {p : PatV} (h : L[k]? = some p) (hh : hasP v p.1 = true) : prunK v L (k + 1) = dropL (prunK v L k) p.1 ∧ p ∈ prunK v L k := by
  obtain ⟨hk, e⟩ := List.getElem?_eq_some_iff.1 h
  have hd : L.drop k = p :: L.drop (k + 1) := by rw [List.drop_eq_getElem_cons hk, e]
  refine ⟨?_, by unfold prunK; rw [hd]; simp⟩
  have hx : L = L.take k ++ p :: L.drop (k + 1) := by rw [← hd, List.take_append_drop]
  have hpw := hr
  rw [hx] at hpw
  obtain ⟨_, h2, h3⟩ := List.pairwise_append.1 hpw
  have h4 := (List.pairwise_cons.1 h2).1
  unfold prunK dropL
  rw [lackP_snoc h, hh, if_pos rfl, hd, List.filter_append, List.filter_cons]
  have e1 : (lackP v (L.take k)).filter (fun q => q.1 != p.1) = lackP v (L.take k) := List.filter_eq_self.2 fun q hq => by
    have := h3 q (List.mem_filter.1 hq).1 p (by simp)
    simp only [bne_iff_ne, ne_eq]
    intro c; rw [c] at this; omega
  have e2 : (L.drop (k + 1)).filter (fun q => q.1 != p.1) = L.drop (k + 1) := List.filter_eq_self.2 fun q hq => by
    have := h4 q hq
    simp only [bne_iff_ne, ne_eq]
    intro c; rw [c] at this; omega
  rw [e1, e2]
  simp
theorem prunK_len {v : List Int} {L : List PatV} {k : Nat} {p : PatV} (h : L[k]? = some p) (hh : hasP v p.1 = true) : (prunK v L k).length = (prunK v L (k + 1)).length + 1 := by
  obtain ⟨hk, e⟩ := List.getElem?_eq_some_iff.1 h
  unfold prunK
  rw [lackP_snoc h, hh, if_pos rfl, List.drop_eq_getElem_cons hk]
  simp only [List.length_append, List.length_cons]; omega
theorem readyL_none {v : List Int} {L : List PatV} (h : ∀ p ∈ L, fitB v p = false) : readyL v L = none := by
  unfold readyL
  rw [List.find?_eq_none]
  intro p hp; simp [h p hp]
theorem readyL_at {v : List Int} {L : List PatV} {k : Nat} {p : PatV} (hk : L[k]? = some p) (h : ∀ q ∈ L.take k, fitB v q = false) (hp : fitB v p = true) : readyL v L = some p := by
  obtain ⟨hl, e⟩ := List.getElem?_eq_some_iff.1 hk
  have hx : L = L.take k ++ p :: L.drop (k + 1) := by rw [← e, ← List.drop_eq_getElem_cons hl, List.take_append_drop]
  unfold readyL
  rw [hx, List.find?_append, List.find?_eq_none.2 (fun q hq => by simp [h q hq])]
  simp [hp]
end Go.Proofs.Ytnhbbggpgieipaa
