/- Texts of general use, one behind another. -/
import Derived.Test.YtfnhmbflmifhcaaGreatIdxz
import Derived.Test.YtfnhmbflmifhcaaGreatMrc
import Derived.Test.YtfnhmbflmifhcaaGreatSets

/- A pool of patches as it lies; the names of those that wait, rising: walked. -/
namespace Go.Proofs.YtfnhmbflmifhcaaGreat
open Go.RowKit

/-- the entries of a map of patches by their names: each patch's lists lie in blocks of D -/
def EntsIn (w : World) (D : Nat → Prop) (E : List (Value × Value)) (M : List PatV) : Prop :=
  E.length = M.length ∧ ∀ (k : Nat) (e : Value × Value) (p : PatV), E[k]? = some e → M[k]? = some p → e.1 = .agg (encP p.1).toArray ∧ ∃ r, e.2 = .agg r.toArray ∧ PatIn w D r p
theorem EntsIn.stay {w w' : World} {D : Nat → Prop} {E : List (Value × Value)} {M : List PatV} (h : EntsIn w D E M) (hk : Stay D w w') : EntsIn w' D E M :=
  ⟨h.1, fun k e p h1 h2 => by obtain ⟨a, r, b, c⟩ := h.2 k e p h1 h2; exact ⟨a, r, b, c.stay hk⟩⟩
theorem EntsIn.keys {w : World} {D : Nat → Prop} {E : List (Value × Value)} {M : List PatV} (h : EntsIn w D E M) : E.map (·.1) = M.map fun p => Value.agg (encP p.1).toArray := by
  apply List.ext_getElem?
  intro i
  rw [List.getElem?_map, List.getElem?_map]
  rcases Nat.lt_or_ge i E.length with hi | hi
  · have hj : i < M.length := h.1 ▸ hi
    obtain ⟨a, _⟩ := h.2 i _ _ (List.getElem?_eq_getElem hi) (List.getElem?_eq_getElem hj)
    rw [List.getElem?_eq_getElem hi, List.getElem?_eq_getElem hj, Option.map_some, Option.map_some, a]
  · rw [List.getElem?_eq_none hi, List.getElem?_eq_none (by rw [← h.1]; exact hi)]; rfl
theorem Blk.range {w : World} {g : Nat} {t : TypeId} {l : List Value} (h : Blk w g t l.toArray) : w.rangeAt g 0 l := fun j v hv => by
  rw [Nat.zero_add, h.cell, List.getElem?_toArray]; exact hv
end Go.Proofs.YtfnhmbflmifhcaaGreat

/- A pool: how many wait, for how many there is room; of a nil pool there is nothing: walked. -/
namespace Go.Proofs.YtfnhmbflmifhcaaGreat
open Go.RowKit

end Go.Proofs.YtfnhmbflmifhcaaGreat

/- Of a nil pool nothing is pruned, nothing is ready, there is nothing: walked. -/
namespace Go.Proofs.YtfnhmbflmifhcaaGreat
open Go.RowKit

end Go.Proofs.YtfnhmbflmifhcaaGreat

/- A pool's entries: found by a name, added, taken out. Plain law. -/
namespace Go.Proofs.YtfnhmbflmifhcaaGreat
open Go.RowKit

section
variable {w : World} {D : Nat → Prop} {E : List (Value × Value)} {M : List PatV}
theorem EntsIn.nil (w : World) (D : Nat → Prop) : EntsIn w D [] [] := ⟨rfl, fun _ _ _ h => by simp at h⟩
theorem EntsIn.cons {e : Value × Value} {p : PatV} : EntsIn w D (e :: E) (p :: M) ↔ (e.1 = .agg (encP p.1).toArray ∧ ∃ r, e.2 = .agg r.toArray ∧ PatIn w D r p) ∧ EntsIn w D E M := by
  constructor
  · intro h
    exact ⟨h.2 0 e p rfl rfl, by simpa using h.1, fun k e' p' h1 h2 => h.2 (k + 1) e' p' (by simpa using h1) (by simpa using h2)⟩
  · rintro ⟨h1, h2, h3⟩
    refine ⟨by simp [h2], fun k e' p' g1 g2 => ?_⟩
    match k, g1, g2 with
    | 0, g1, g2 =>
      obtain rfl : e = e' := by simpa using g1
      obtain rfl : p = p' := by simpa using g2
      exact h1
    | k + 1, g1, g2 => exact h3 k e' p' (by simpa using g1) (by simpa using g2)
theorem EntsIn.find : ∀ {E : List (Value × Value)} {M : List PatV}, EntsIn w D E M → ∀ {d : PidV} {v : Value}, ((Value.agg (encP d).toArray), v) ∈ E → ∃ p, p ∈ M ∧ p.1 = d ∧ ∃ r, v = .agg r.toArray ∧ PatIn w D r p
  | [], M, _, _, _, hm => by cases hm
  | e :: E, [], h, _, _, _ => by have := h.1; simp at this
  | e :: E, p :: M, h, d, v, hm => by
    obtain ⟨⟨h1, r, h2, h3⟩, h4⟩ := EntsIn.cons.1 h
    rcases List.mem_cons.1 hm with rfl | hm
    · exact ⟨p, by simp, (encP_inj h1).symm, r, h2, h3⟩
    · obtain ⟨q, g1, g2⟩ := h4.find hm
      exact ⟨q, by simp [g1], g2⟩
theorem EntsIn.has : ∀ {E : List (Value × Value)} {M : List PatV}, EntsIn w D E M → ∀ {p : PatV}, p ∈ M → ∃ r, ((Value.agg (encP p.1).toArray), Value.agg r.toArray) ∈ E ∧ PatIn w D r p
  | [], M, h, p, hp => by
    have := h.1
    rw [List.length_nil] at this
    rw [List.length_eq_zero_iff.1 this.symm] at hp; cases hp
  | e :: E, [], _, _, hp => by cases hp
  | e :: E, q :: M, h, p, hp => by
    obtain ⟨⟨h1, r, h2, h3⟩, h4⟩ := EntsIn.cons.1 h
    rcases List.mem_cons.1 hp with rfl | hp
    · exact ⟨r, by rw [← h1, ← h2]; simp, h3⟩
    · obtain ⟨r, g1, g2⟩ := h4.has hp
      exact ⟨r, by simp [g1], g2⟩
theorem EntsIn.sub {E' : List (Value × Value)} (hs : E'.Sublist E) : ∀ {M : List PatV}, EntsIn w D E M → ∃ M', M'.Sublist M ∧ EntsIn w D E' M' := by
  induction hs with
  | slnil => intro M h; exact ⟨M, List.Sublist.refl _, h⟩
  | cons a _ ih =>
    intro M h
    match M, h with
    | [], h => have := h.1; simp at this
    | p :: M, h =>
      obtain ⟨M', g1, g2⟩ := ih (EntsIn.cons.1 h).2
      exact ⟨M', g1.cons p, g2⟩
  | cons_cons a _ ih =>
    intro M h
    match M, h with
    | [], h => have := h.1; simp at this
    | p :: M, h =>
      obtain ⟨M', g1, g2⟩ := ih (EntsIn.cons.1 h).2
      exact ⟨p :: M', g1.cons_cons p, EntsIn.cons.2 ⟨(EntsIn.cons.1 h).1, g2⟩⟩
theorem EntsIn.snoc {e : Value × Value} {p : PatV} (h : EntsIn w D E M) (he : e.1 = .agg (encP p.1).toArray) {r : List Value} (hr : e.2 = .agg r.toArray) (hp : PatIn w D r p) : EntsIn w D (E ++ [e]) (M ++ [p]) := by
  refine ⟨by simp [h.1], fun k e' p' h1 h2 => ?_⟩
  rcases Nat.lt_or_ge k E.length with hk | hk
  · rw [List.getElem?_append_left hk] at h1
    rw [List.getElem?_append_left (by rw [← h.1]; exact hk)] at h2
    exact h.2 k e' p' h1 h2
  · rw [List.getElem?_append_right hk] at h1
    rw [List.getElem?_append_right (by rw [← h.1]; exact hk), ← h.1] at h2
    match k - E.length, h1, h2 with
    | 0, h1, h2 =>
      obtain rfl : e = e' := by simpa using h1
      obtain rfl : p = p' := by simpa using h2
      exact ⟨he, r, hr, hp⟩
    | _ + 1, h1, h2 => simp at h1
theorem EntsIn.mono {D' : Nat → Prop} (h : EntsIn w D E M) (hd : ∀ k, D k → D' k) : EntsIn w D' E M :=
  ⟨h.1, fun k e p h1 h2 => by obtain ⟨a, r, b, c⟩ := h.2 k e p h1 h2; exact ⟨a, r, b, c.mono hd⟩⟩
end
/-- a patch among those that wait, rising -/
def insP (L : List PatV) (p : PatV) : List PatV := (L.filter fun a => decide (keyP a.1 < keyP p.1)) ++ p :: L.filter fun a => decide (keyP p.1 < keyP a.1)
theorem insP_rise {L : List PatV} (h : L.Pairwise fun a b => keyP a.1 < keyP b.1) (p : PatV) : (insP L p).Pairwise fun a b => keyP a.1 < keyP b.1 := by
  unfold insP
  refine List.pairwise_append.2 ⟨h.filter _, List.pairwise_cons.2 ⟨fun b hb => by simpa using (List.mem_filter.1 hb).2, h.filter _⟩, fun a ha b hb => ?_⟩
  have h1 : keyP a.1 < keyP p.1 := by simpa using (List.mem_filter.1 ha).2
  rcases List.mem_cons.1 hb with rfl | hb
  · exact h1
  · have h2 : keyP p.1 < keyP b.1 := by simpa using (List.mem_filter.1 hb).2
    omega
theorem insP_perm {L : List PatV} {p : PatV} (h : ∀ q ∈ L, keyP q.1 ≠ keyP p.1) : (insP L p).Perm (L ++ [p]) := by
  unfold insP
  have e : (L.filter fun a => decide (keyP p.1 < keyP a.1)) = L.filter fun a => !decide (keyP a.1 < keyP p.1) := by
    refine List.filter_congr fun q hq => ?_
    have := h q hq
    by_cases h1 : keyP q.1 < keyP p.1
    · have h2 : ¬ keyP p.1 < keyP q.1 := by omega
      simp [h1, h2]
    · have h2 : keyP p.1 < keyP q.1 := by omega
      simp [h1, h2]
  rw [e]
  refine List.perm_middle.trans (((List.filter_append_perm _ L).cons p).trans ?_)
  exact (List.perm_append_singleton p L).symm
theorem kZeroPat (u : World) : (zeroValue 37).run Tryz.prog u = .ok (.agg #[.int .u8 0, .int .u16 0, .slice none 0 0, .slice none 0 0]) u := by kernel_rfl
end Go.Proofs.YtfnhmbflmifhcaaGreat

/- What a pool answers, and what waits then: plain laws. -/
namespace Go.Proofs.YtfnhmbflmifhcaaGreat
open Go.RowKit

/-- the error of a patch that is put into a pool -/
def polE (room : Int) (L : List PatV) (p : PatV) : Nat :=
  if patB p = true then
    match findP L p.1 with
    | some q => if q = p then 7 else 8
    | none => if room ≤ (L.length : Int) then 11 else 0
  else 1
def polL (room : Int) (L : List PatV) (p : PatV) : List PatV := if polE room L p = 0 then insP L p else L
def dropL (L : List PatV) (d : PidV) : List PatV := L.filter fun p => p.1 != d
theorem polE_zero {room : Int} {L : List PatV} {p : PatV} (h : polE room L p = 0) : patB p = true ∧ findP L p.1 = none ∧ (L.length : Int) < room := by
  unfold polE at h
  split at h
  · rename_i hg
    split at h
    · split at h <;> cases h
    · rename_i hf
      split at h
      · cases h
      · exact ⟨hg, hf, by omega⟩
  · cases h
/-- those that wait: rising, good, few -/
structure PolOk (room : Int) (L : List PatV) : Prop where
  rise : L.Pairwise fun a b => keyP a.1 < keyP b.1
  good : ∀ p ∈ L, patB p = true
  few : (L.length : Int) ≤ room
  most : room ≤ 32
  least : 0 ≤ room
theorem PolOk.nil {room : Int} (h0 : 0 ≤ room) (h : room ≤ 32) : PolOk room [] := ⟨List.Pairwise.nil, by simp, by simpa using h0, h, h0⟩
theorem PolOk.sub {room : Int} {L L' : List PatV} (h : PolOk room L) (hs : L'.Sublist L) : PolOk room L' :=
  ⟨h.rise.sublist hs, fun p hp => h.good p (hs.subset hp), by have := hs.length_le; have := h.few; omega, h.most, h.least⟩
theorem PolOk.drop {room : Int} {L : List PatV} (h : PolOk room L) (d : PidV) : PolOk room (dropL L d) := h.sub List.filter_sublist
theorem insP_len {L : List PatV} {p : PatV} (h : findP L p.1 = none) : (insP L p).length = L.length + 1 := by
  have := (insP_perm (L := L) (p := p) fun q hq e => findP_none.1 h q hq (keyP_inj _ _ e)).length_eq
  simpa using this
theorem mem_insP {L : List PatV} {p q : PatV} (h : findP L p.1 = none) : q ∈ insP L p ↔ q ∈ L ∨ q = p := by
  rw [(insP_perm (L := L) (p := p) fun q hq e => findP_none.1 h q hq (keyP_inj _ _ e)).mem_iff]
  simp
theorem PolOk.put {room : Int} {L : List PatV} (h : PolOk room L) (p : PatV) : PolOk room (polL room L p) := by
  unfold polL
  split
  · rename_i h0
    obtain ⟨h1, h2, h3⟩ := polE_zero h0
    refine ⟨insP_rise h.rise p, fun q hq => ?_, by rw [insP_len h2]; omega, h.most, h.least⟩
    rcases (mem_insP h2).1 hq with hq | rfl
    · exact h.good q hq
    · exact h1
  · exact h
end Go.Proofs.YtfnhmbflmifhcaaGreat
