/- Texts of general use, one behind another. -/
import Derived.Test.YtihggkmjalofiaaGreatDoorIdxz
import Derived.Test.YtihggkmjalofiaaGreatDoorSets
import Derived.Test.YtihggkmjalofiaaGreatDoorGen
import Derived.Laws.BitsAllLaws
import Derived.IntWalk
import Derived.Test.YtihggkmjalofiaaGreatDoorPidw
import Derived.Laws.Shifts
import Derived.Deep.DeepCutAuto

/- A pool of patches as it lies; the names of those that wait, rising: walked. -/
namespace Go.Proofs.YtihggkmjalofiaaGreatDoor
open Go.RowKit

/-- the entries of a map of patches by their names: each patch's lists lie in blocks of D -/
def EntsIn (w : World) (D : Nat → Prop) (E : List (Value × Value)) (M : List PatV) : Prop :=
  E.length = M.length ∧ ∀ (k : Nat) (e : Value × Value) (p : PatV), E[k]? = some e → M[k]? = some p → e.1 = .agg (encP p.1).toArray ∧ ∃ r, e.2 = .agg r.toArray ∧ PatIn w D r p
theorem EntsIn.stay {w w' : World} {D : Nat → Prop} {E : List (Value × Value)} {M : List PatV} (h : EntsIn w D E M) (hk : Stay D w w') : EntsIn w' D E M :=
  ⟨h.1, fun k e p h1 h2 => by obtain ⟨a, r, b, c⟩ := h.2 k e p h1 h2; exact ⟨a, r, b, c.stay hk⟩⟩
theorem EntsIn.keys {w : World} {D : Nat → Prop} {E : List (Value × Value)} {M : List PatV} (h : EntsIn w D E M) : E.map (·.1) = M.map fun p => Value.agg (encP p.1).toArray := by
  apply List.ext_getElem?
  intro i
  rw [List.getElem?_map, List.getElem?_map]
  rcases Nat.lt_or_ge i E.length with hi | hi
  · have hj : i < M.length := h.1 ▸ hi
    obtain ⟨a, _⟩ := h.2 i _ _ (List.getElem?_eq_getElem hi) (List.getElem?_eq_getElem hj)
    rw [List.getElem?_eq_getElem hi, List.getElem?_eq_getElem hj, Option.map_some, Option.map_some, a]
  · rw [List.getElem?_eq_none hi, List.getElem?_eq_none (by rw [← h.1]; exact hi)]; rfl
/-- a pool as it lies: its own blocks are those of F; L: those that wait, rising -/
structure PoolAt (w : World) (F : Nat → Prop) (g : Nat) (room : Int) (L : List PatV) : Prop where
  lt : ∀ k, F k → k < w.heap.size
  self : F g
  rise : L.Pairwise fun a b => keyP a.1 < keyP b.1
  good : ∀ p ∈ L, patB p = true
  few : L.length ≤ 32
  ex : ∃ gm E M D, Blk w g 305 #[.int .i64 room, .map (some gm)] ∧ F gm ∧ g ≠ gm ∧ MapIs Tryz.prog 27 w gm E ∧ M.Perm L ∧ EntsIn w D E M ∧ ∀ k, D k → F k ∧ k ≠ g ∧ k ≠ gm
theorem PoolAt.stay {w w' : World} {F : Nat → Prop} {g : Nat} {room : Int} {L : List PatV} (h : PoolAt w F g room L) (hk : Stay F w w') : PoolAt w' F g room L := by
  obtain ⟨h1, h2, h3, h4, h5, gm, E, M, D, k1, k2, k3, k4, k5, k6, k7⟩ := h
  exact ⟨fun k hF => Nat.lt_of_lt_of_le (h1 k hF) hk.1, h2, h3, h4, h5, gm, E, M, D, k1.keep (hk.2 g (h1 g h2) h2), k2, k3, k4.keep (hk.2 gm (h1 gm k2) k2), k5, k6.stay (hk.mono fun k e => (k7 k e).1), k7⟩
theorem PoolAt.ext {w w' : World} {F : Nat → Prop} {g : Nat} {room : Int} {L : List PatV} (h : PoolAt w F g room L) (hb : Below w.heap.size w w') : PoolAt w' F g room L := h.stay (Stay.of_below hb)
theorem kMapP : Tryz.prog.underlying 303 = some (.map 27 31) := by kernel_rfl
theorem Blk.range {w : World} {g : Nat} {t : TypeId} {l : List Value} (h : Blk w g t l.toArray) : w.rangeAt g 0 l := fun j v hv => by
  rw [Nat.zero_add, h.cell, List.getElem?_toArray]; exact hv
end Go.Proofs.YtihggkmjalofiaaGreatDoor

/- A pool: how many wait, for how many there is room; of a nil pool there is nothing: walked. -/
namespace Go.Proofs.YtihggkmjalofiaaGreatDoor
open Go.RowKit

end Go.Proofs.YtihggkmjalofiaaGreatDoor

/- Of a nil pool nothing is pruned, nothing is ready, there is nothing: walked. -/
namespace Go.Proofs.YtihggkmjalofiaaGreatDoor
open Go.RowKit

end Go.Proofs.YtihggkmjalofiaaGreatDoor

/- A pool's entries: found by a name, added, taken out. Plain law. -/
namespace Go.Proofs.YtihggkmjalofiaaGreatDoor
open Go.RowKit

section
variable {w : World} {D : Nat → Prop} {E : List (Value × Value)} {M : List PatV}
theorem EntsIn.nil (w : World) (D : Nat → Prop) : EntsIn w D [] [] := ⟨rfl, fun _ _ _ h => by simp at h⟩
theorem EntsIn.cons {e : Value × Value} {p : PatV} : EntsIn w D (e :: E) (p :: M) ↔ (e.1 = .agg (encP p.1).toArray ∧ ∃ r, e.2 = .agg r.toArray ∧ PatIn w D r p) ∧ EntsIn w D E M := by
  constructor
  · intro h
    exact ⟨h.2 0 e p rfl rfl, by simpa using h.1, fun k e' p' h1 h2 => h.2 (k + 1) e' p' (by simpa using h1) (by simpa using h2)⟩
  · rintro ⟨h1, h2, h3⟩
    refine ⟨by simp [h2], fun k e' p' g1 g2 => ?_⟩
    match k, g1, g2 with
    | 0, g1, g2 =>
      obtain rfl : e = e' := by simpa using g1
      obtain rfl : p = p' := by simpa using g2
      exact h1
    | k + 1, g1, g2 => exact h3 k e' p' (by simpa using g1) (by simpa using g2)
theorem EntsIn.find : ∀ {E : List (Value × Value)} {M : List PatV}, EntsIn w D E M → ∀ {d : PidV} {v : Value}, ((Value.agg (encP d).toArray), v) ∈ E → ∃ p, p ∈ M ∧ p.1 = d ∧ ∃ r, v = .agg r.toArray ∧ PatIn w D r p
  | [], M, _, _, _, hm => by cases hm
  | e :: E, [], h, _, _, _ => by have := h.1; simp at this
  | e :: E, p :: M, h, d, v, hm => by
    obtain ⟨⟨h1, r, h2, h3⟩, h4⟩ := EntsIn.cons.1 h
    rcases List.mem_cons.1 hm with rfl | hm
    · exact ⟨p, by simp, (encP_inj h1).symm, r, h2, h3⟩
    · obtain ⟨q, g1, g2⟩ := h4.find hm
      exact ⟨q, by simp [g1], g2⟩
theorem EntsIn.has : ∀ {E : List (Value × Value)} {M : List PatV}, EntsIn w D E M → ∀ {p : PatV}, p ∈ M → ∃ r, ((Value.agg (encP p.1).toArray), Value.agg r.toArray) ∈ E ∧ PatIn w D r p
  | [], M, h, p, hp => by
    have := h.1
    rw [List.length_nil] at this
    rw [List.length_eq_zero_iff.1 this.symm] at hp; cases hp
  | e :: E, [], _, _, hp => by cases hp
  | e :: E, q :: M, h, p, hp => by
    obtain ⟨⟨h1, r, h2, h3⟩, h4⟩ := EntsIn.cons.1 h
    rcases List.mem_cons.1 hp with rfl | hp
    · exact ⟨r, by rw [← h1, ← h2]; simp, h3⟩
    · obtain ⟨r, g1, g2⟩ := h4.has hp
      exact ⟨r, by simp [g1], g2⟩
theorem EntsIn.sub {E' : List (Value × Value)} (hs : E'.Sublist E) : ∀ {M : List PatV}, EntsIn w D E M → ∃ M', M'.Sublist M ∧ EntsIn w D E' M' := by
  induction hs with
  | slnil => intro M h; exact ⟨M, List.Sublist.refl _, h⟩
  | cons a _ ih =>
    intro M h
    match M, h with
    | [], h => have := h.1; simp at this
    | p :: M, h =>
      obtain ⟨M', g1, g2⟩ := ih (EntsIn.cons.1 h).2
      exact ⟨M', g1.cons p, g2⟩
  | cons_cons a _ ih =>
    intro M h
    match M, h with
    | [], h => have := h.1; simp at this
    | p :: M, h =>
      obtain ⟨M', g1, g2⟩ := ih (EntsIn.cons.1 h).2
      exact ⟨p :: M', g1.cons_cons p, EntsIn.cons.2 ⟨(EntsIn.cons.1 h).1, g2⟩⟩
theorem EntsIn.snoc {e : Value × Value} {p : PatV} (h : EntsIn w D E M) (he : e.1 = .agg (encP p.1).toArray) {r : List Value} (hr : e.2 = .agg r.toArray) (hp : PatIn w D r p) : EntsIn w D (E ++ [e]) (M ++ [p]) := by
  refine ⟨by simp [h.1], fun k e' p' h1 h2 => ?_⟩
  rcases Nat.lt_or_ge k E.length with hk | hk
  · rw [List.getElem?_append_left hk] at h1
    rw [List.getElem?_append_left (by rw [← h.1]; exact hk)] at h2
    exact h.2 k e' p' h1 h2
  · rw [List.getElem?_append_right hk] at h1
    rw [List.getElem?_append_right (by rw [← h.1]; exact hk), ← h.1] at h2
    match k - E.length, h1, h2 with
    | 0, h1, h2 =>
      obtain rfl : e = e' := by simpa using h1
      obtain rfl : p = p' := by simpa using h2
      exact ⟨he, r, hr, hp⟩
    | _ + 1, h1, h2 => simp at h1
theorem EntsIn.mono {D' : Nat → Prop} (h : EntsIn w D E M) (hd : ∀ k, D k → D' k) : EntsIn w D' E M :=
  ⟨h.1, fun k e p h1 h2 => by obtain ⟨a, r, b, c⟩ := h.2 k e p h1 h2; exact ⟨a, r, b, c.mono hd⟩⟩
end
/-- a patch among those that wait, rising -/
def insP (L : List PatV) (p : PatV) : List PatV := (L.filter fun a => decide (keyP a.1 < keyP p.1)) ++ p :: L.filter fun a => decide (keyP p.1 < keyP a.1)
theorem insP_rise {L : List PatV} (h : L.Pairwise fun a b => keyP a.1 < keyP b.1) (p : PatV) : (insP L p).Pairwise fun a b => keyP a.1 < keyP b.1 := by
  unfold insP
  refine List.pairwise_append.2 ⟨h.filter _, List.pairwise_cons.2 ⟨fun b hb => by simpa using (List.mem_filter.1 hb).2, h.filter _⟩, fun a ha b hb => ?_⟩
  have h1 : keyP a.1 < keyP p.1 := by simpa using (List.mem_filter.1 ha).2
  rcases List.mem_cons.1 hb with rfl | hb
  · exact h1
  · have h2 : keyP p.1 < keyP b.1 := by simpa using (List.mem_filter.1 hb).2
    omega
theorem insP_perm {L : List PatV} {p : PatV} (h : ∀ q ∈ L, keyP q.1 ≠ keyP p.1) : (insP L p).Perm (L ++ [p]) := by
  unfold insP
  have e : (L.filter fun a => decide (keyP p.1 < keyP a.1)) = L.filter fun a => !decide (keyP a.1 < keyP p.1) := by
    refine List.filter_congr fun q hq => ?_
    have := h q hq
    by_cases h1 : keyP q.1 < keyP p.1
    · have h2 : ¬ keyP p.1 < keyP q.1 := by omega
      simp [h1, h2]
    · have h2 : keyP p.1 < keyP q.1 := by omega
      simp [h1, h2]
  rw [e]
  refine List.perm_middle.trans (((List.filter_append_perm _ L).cons p).trans ?_)
  exact (List.perm_append_singleton p L).symm
theorem kZeroPat (u : World) : (zeroValue 31).run Tryz.prog u = .ok (.agg #[.int .u8 0, .int .u16 0, .slice none 0 0, .slice none 0 0]) u := by kernel_rfl
/-- a patch that waits is found by its name, in any world where the map stands -/
theorem PoolAt.look {w : World} {F : Nat → Prop} {g : Nat} {room : Int} {L : List PatV} (h : PoolAt w F g room L) {p : PatV} (hp : p ∈ L) :
    ∃ gm r, Blk w g 305 #[.int .i64 room, .map (some gm)] ∧ gm < w.heap.size ∧ PatIn w F r p ∧
      ∀ w', w'.heap[gm]? = w.heap[gm]? → (Instr.lookup 303 (.map (some gm)) (.agg (encP p.1).toArray) false).run Tryz.prog w' = .ok (.agg r.toArray) w' := by
  obtain ⟨hlt, hself, hrise, hgood, hfew, gm, E, M, D, kB, kF, kne, kM, kP, kE, kD⟩ := h
  obtain ⟨r, hr, hpi⟩ := kE.has (kP.mem_iff.2 hp)
  obtain ⟨kl, hkl⟩ := kKeyP p.1
  obtain ⟨v, hg, hl⟩ := kM.look kLawI kMapP kZeroPat hkl
  have e : v = .agg r.toArray := GetL.one kM.apart hg (.inr hr)
  subst e
  exact ⟨gm, r, kB, hlt gm kF, hpi.mono (fun k e => (kD k e).1), hl⟩
end Go.Proofs.YtihggkmjalofiaaGreatDoor

/- What a pool answers, and what waits then: plain laws. -/
namespace Go.Proofs.YtihggkmjalofiaaGreatDoor
open Go.RowKit

/-- the error of a patch that is put into a pool -/
def polE (room : Int) (L : List PatV) (p : PatV) : Nat :=
  if patB p = true then
    match findP L p.1 with
    | some q => if q = p then 7 else 8
    | none => if room ≤ (L.length : Int) then 11 else 0
  else 1
def polL (room : Int) (L : List PatV) (p : PatV) : List PatV := if polE room L p = 0 then insP L p else L
def dropL (L : List PatV) (d : PidV) : List PatV := L.filter fun p => p.1 != d
theorem polE_zero {room : Int} {L : List PatV} {p : PatV} (h : polE room L p = 0) : patB p = true ∧ findP L p.1 = none ∧ (L.length : Int) < room := by
  unfold polE at h
  split at h
  · rename_i hg
    split at h
    · split at h <;> cases h
    · rename_i hf
      split at h
      · cases h
      · exact ⟨hg, hf, by omega⟩
  · cases h
/-- those that wait: rising, good, few -/
structure PolOk (room : Int) (L : List PatV) : Prop where
  rise : L.Pairwise fun a b => keyP a.1 < keyP b.1
  good : ∀ p ∈ L, patB p = true
  few : (L.length : Int) ≤ room
  most : room ≤ 32
  least : 0 ≤ room
theorem PolOk.nil {room : Int} (h0 : 0 ≤ room) (h : room ≤ 32) : PolOk room [] := ⟨List.Pairwise.nil, by simp, by simpa using h0, h, h0⟩
theorem PolOk.sub {room : Int} {L L' : List PatV} (h : PolOk room L) (hs : L'.Sublist L) : PolOk room L' :=
  ⟨h.rise.sublist hs, fun p hp => h.good p (hs.subset hp), by have := hs.length_le; have := h.few; omega, h.most, h.least⟩
theorem PolOk.drop {room : Int} {L : List PatV} (h : PolOk room L) (d : PidV) : PolOk room (dropL L d) := h.sub List.filter_sublist
theorem insP_len {L : List PatV} {p : PatV} (h : findP L p.1 = none) : (insP L p).length = L.length + 1 := by
  have := (insP_perm (L := L) (p := p) fun q hq e => findP_none.1 h q hq (keyP_inj _ _ e)).length_eq
  simpa using this
theorem mem_insP {L : List PatV} {p q : PatV} (h : findP L p.1 = none) : q ∈ insP L p ↔ q ∈ L ∨ q = p := by
  rw [(insP_perm (L := L) (p := p) fun q hq e => findP_none.1 h q hq (keyP_inj _ _ e)).mem_iff]
  simp
theorem PolOk.put {room : Int} {L : List PatV} (h : PolOk room L) (p : PatV) : PolOk room (polL room L p) := by
  unfold polL
  split
  · rename_i h0
    obtain ⟨h1, h2, h3⟩ := polE_zero h0
    refine ⟨insP_rise h.rise p, fun q hq => ?_, by rw [insP_len h2]; omega, h.most, h.least⟩
    rcases (mem_insP h2).1 hq with hq | rfl
    · exact h.good q hq
    · exact h1
  · exact h
theorem PoolAt.ok {w : World} {F : Nat → Prop} {g : Nat} {room : Int} {L : List PatV} (h : PoolAt w F g room L) (h0 : 0 ≤ room) (h1 : room ≤ 32) (h2 : (L.length : Int) ≤ room) : PolOk room L := ⟨h.rise, h.good, h2, h1, h0⟩
end Go.Proofs.YtihggkmjalofiaaGreatDoor

/- Texts of general use, one behind another. -/

/- A number as its bits: plain laws. No program in sight. -/
namespace Go.Proofs.YtihggkmjalofiaaGreatDoor
open Go.RowKit

/-- 64 bits, by their places -/
def bl (f : Nat → Bool) : List Bool := (List.range 64).map f
end Go.Proofs.YtihggkmjalofiaaGreatDoor

/- A number as its bits, mixed: walked. -/
namespace Go.Proofs.YtihggkmjalofiaaGreatDoor
open Go.RowKit

end Go.Proofs.YtihggkmjalofiaaGreatDoor

/- Numbers mixed: walked. -/
namespace Go.Proofs.YtihggkmjalofiaaGreatDoor
open Go.RowKit

end Go.Proofs.YtihggkmjalofiaaGreatDoor

/- Hints of which patches there are: plain laws. -/
namespace Go.Proofs.YtihggkmjalofiaaGreatDoor
open Go.RowKit

/-- a hint: four numbers -/
def BlOk (xs : List Nat) : Prop := xs.length = 4 ∧ ∀ x ∈ xs, x < 18446744073709551616
def putBit (xs : List Nat) (q : Nat) : List Nat := xs.set (q / 64) (xs.getD (q / 64) 0 ||| 2 ^ (q % 64))
def bitAt (xs : List Nat) (q : Nat) : Bool := (xs.getD (q / 64) 0).testBit (q % 64)
theorem getD_set_ne' {xs : List Nat} {i j v : Nat} (h : i ≠ j) : (xs.set i v).getD j 0 = xs.getD j 0 := by
  rw [List.getD_eq_getElem?_getD, List.getD_eq_getElem?_getD, List.getElem?_set_ne h]
theorem getD_set_eq' {xs : List Nat} {i v : Nat} (h : i < xs.length) : (xs.set i v).getD i 0 = v := by
  rw [List.getD_eq_getElem?_getD, List.getElem?_set_self h]; rfl
def encBl (xs : List Nat) : List Value := xs.map fun (x : Nat) => Value.int .u64 (x : Int)
theorem getD_lt {xs : List Nat} (h : BlOk xs) (i : Nat) : xs.getD i 0 < 18446744073709551616 := by
  rw [List.getD_eq_getElem?_getD]
  rcases Nat.lt_or_ge i xs.length with h1 | h1
  · rw [List.getElem?_eq_getElem h1]; exact h.2 _ (List.getElem_mem h1)
  · rw [List.getElem?_eq_none h1]; decide
end Go.Proofs.YtihggkmjalofiaaGreatDoor

/- Hints of which patches there are: the program's, walked. -/
namespace Go.Proofs.YtihggkmjalofiaaGreatDoor
open Go.RowKit

end Go.Proofs.YtihggkmjalofiaaGreatDoor

/- Hints: a patch put, asked for; the program's, walked. -/
namespace Go.Proofs.YtihggkmjalofiaaGreatDoor
open Go.RowKit

theorem or_bit {y c : Nat} (hy : y < 18446744073709551616) (hc : c < 64) : bits .or .u64 (y : Int) ((2 ^ c : Nat) : Int) = ((y ||| 2 ^ c : Nat) : Int) :=
  u64_or_nat y _ hy (show 2 ^ c < 2 ^ 64 from Nat.pow_lt_pow_right (by omega) hc)
theorem wrap_pow {c : Nat} (hc : c < 64) : IntKind.u64.wrap (2 ^ c) = ((2 ^ c : Nat) : Int) := by
  have h1 : 2 ^ c < 2 ^ 64 := Nat.pow_lt_pow_right (by omega) hc
  have e : (2 : Int) ^ c = ((2 ^ c : Nat) : Int) := by simp
  rw [e]
  generalize 2 ^ c = z at h1
  exact IntWalk.u64_in _ (by omega)
theorem or_run {y c : Nat} (hy : y < 18446744073709551616) (hc : c < 64) (w : World) : (binOp .or 76 (.int .u64 (y : Int)) (.int .u64 ((2 ^ c : Nat) : Int))).run Tryz.prog w = .ok (.int .u64 ((y ||| 2 ^ c : Nat) : Int)) w := by
  rw [← or_bit hy hc]
  simp [go_sem]
theorem wpList_comp {P : Program} {ops : Array Oper} {rest : List Oper} {a : Act} {w : World} {Q : Exit → Act → World → Prop} {d : Option Tmp} {ty t rt : TypeId} {pos : String} {after : Array Edge} {op : BinOp} {x y : Operand} {xv yv v : Value} (hx : a.eval x = xv) (hy : a.eval y = yv) (hg : (eqGuard op t x y xv yv).run P w = .ok () w) (hr : (binOp op t xv yv).run P w = .ok v w)
    (h : wpList P ops Q rest (a.put d v) w) : wpList P ops Q (⟨d, .binOp op t x y rt, ty, pos, after, none⟩ :: rest) a w :=
  wpList_plain rfl fun _ hK => wp_computed hx hy hg hr (hK _ _ h)
theorem store64_run (g i y : Nat) (w : World) {u : Value} (h : w.cell? ⟨g, i, none⟩ = some u) (hf : w.frozen? ⟨g, i, none⟩ = false) : (Instr.storeAt 76 (.pointer (some ⟨g, i, none⟩)) (.int .u64 (y : Int))).run Tryz.prog w = .ok () (w.setCell ⟨g, i, none⟩ (.int .u64 (y : Int))) := by simp [go_sem, h, hf]
section
variable {P : Program} {ops : Array Oper} {rest : List Oper} {a : Act} {w w' : World} {Q : Exit → Act → World → Prop} {d : Option Tmp} {ty t s : TypeId} {pos : String} {after : Array Edge} {x y : Operand} {pv iv v : Value}
theorem wpList_st (hx : a.eval x = pv) (hy : a.eval y = v) (hr : (Instr.storeAt s pv v).run P w = .ok () w') (h : wpList P ops Q rest a w') : wpList P ops Q (⟨none, .store s x y, ty, pos, after, none⟩ :: rest) a w :=
  wpList_plain rfl fun _ hK => by
    unfold Oper.wp execOp
    simp only [hx, hy, Sem.run_bind, hr, Result.andThen_ok, Sem.run_pure]
    exact hK _ _ h
end
end Go.Proofs.YtihggkmjalofiaaGreatDoor

/- Hints: the document's, walked. -/
namespace Go.Proofs.YtihggkmjalofiaaGreatDoor
open Go.RowKit

end Go.Proofs.YtihggkmjalofiaaGreatDoor

/- Hints: the document's asking; a hint of patches: walked. -/
namespace Go.Proofs.YtihggkmjalofiaaGreatDoor
open Go.RowKit

end Go.Proofs.YtihggkmjalofiaaGreatDoor

/- Hints: the hint of patches, walked. -/
namespace Go.Proofs.YtihggkmjalofiaaGreatDoor
open Go.RowKit

end Go.Proofs.YtihggkmjalofiaaGreatDoor

/- Whoever comes first, the same waits; what waits is in the hint: plain laws. -/
namespace Go.Proofs.YtihggkmjalofiaaGreatDoor
open Go.RowKit

theorem snoc_ind {α : Type} {P : List α → Prop} (h0 : P []) (hs : ∀ l a, P l → P (l ++ [a])) (l : List α) : P l := by
  have key : ∀ m : List α, P m.reverse := fun m => by
    induction m with
    | nil => exact h0
    | cons a m ih => rw [List.reverse_cons]; exact hs _ _ ih
  have := key l.reverse
  rwa [List.reverse_reverse] at this
end Go.Proofs.YtihggkmjalofiaaGreatDoor
