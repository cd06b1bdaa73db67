/- Arguments opened: structs and arrays of scalars by value, slices of such, whatever their number of cells; no program in sight but as a variable. -/
import Derived.Test.YtmfdggolnfoniaaDoorBase
import Derived.ProofKit
import Derived.OpenShut
import Derived.Deep.Slices
import Derived.Deep.AppendLies
import Derived.Deep.Draws
import Derived.Laws.OwnMore
namespace Go.Proofs.YtmfdggolnfoniaaDoor
open Go.ChangeShapes Go.WideShapes Go.RowKit Go.Deep

/-- the kinds of cells that hold a scalar -/
inductive Sc where
  | int (k : IntKind) | bool | str
def Sc.ok : Sc → Value → Prop
  | .int k, v => ∃ n, v = .int k n ∧ (Lit.int k n).wf = true
  | .bool, v => ∃ b, v = .bool b
  | .str, v => ∃ s, v = .string s ∧ s.size ≤ maxLen
/-- cells of these kinds, one by one -/
def FlatOk : List Sc → List Value → Prop
  | [], [] => True
  | k :: ks, v :: vs => k.ok v ∧ FlatOk ks vs
  | _, _ => False
theorem FlatOk.len : ∀ {ks : List Sc} {vs : List Value}, FlatOk ks vs → vs.length = ks.length
  | [], [], _ => rfl
  | _ :: ks, _ :: vs, h => by simp [FlatOk.len h.2]
  | [], _ :: _, h => h.elim
  | _ :: _, [], h => h.elim
theorem FlatOk.append : ∀ {ks ks' : List Sc} {vs vs' : List Value}, FlatOk ks vs → FlatOk ks' vs' → FlatOk (ks ++ ks') (vs ++ vs')
  | [], _, [], _, _, h' => h'
  | _ :: _, _, _ :: _, _, h, h' => ⟨h.1, FlatOk.append h.2 h'⟩
  | [], _, _ :: _, _, h, _ => h.elim
  | _ :: _, _, [], _, h, _ => h.elim

/-- the kinds of a type's cells, if it is made of scalars alone -/
def flatLoop (go : TypeId → Option (List Sc)) : List Field → Nat → Option (List Sc)
  | [], _ => some []
  | f :: fs, off => if f.offset = off then (go f.type).bind fun ks => (flatLoop go fs (off + ks.length)).map (ks ++ ·) else none
def flat (P : Program) : Nat → TypeId → Option (List Sc)
  | 0, _ => none
  | n + 1, t =>
    match P.underlying t with
    | some .bool => some [.bool]
    | some (.int k) => some [.int k]
    | some .string => some [.str]
    | some (.struct fs) => (flatLoop (flat P n) fs.toList 0).bind fun ks => if P.cellsOf t = ks.length then some ks else none
    | some (.array m e) => (flat P n e).bind fun ks => if P.cellsOf e = ks.length ∧ P.cellsOf t = m * ks.length then some (List.replicate m ks).flatten else none
    | _ => none

section
variable {H : Type} {enc : TypeId × Value → H} {P : Program} {w : World} {base : Nat} {spare : Nat → Bool} {held : Bool}

theorem flatLoop_ok (go : TypeId → Option (List Sc)) (hgo : ∀ t ks n cs x, go t = some ks → DataW.trod enc P w base spare held n t cs = some x → FlatOk ks cs) :
    ∀ (fs : List Field) (off : Nat) (ks : List Sc) (cs : List Value) (n : Nat), flatLoop go fs off = some ks →
      (∀ f ∈ fs, ∃ x, DataW.trod enc P w base spare held n f.type ((cs.drop f.offset).take (P.cellsOf f.type)) = some x) → off + ks.length = cs.length → FlatOk ks (cs.drop off)
  | [], off, ks, cs, n, h, _, hl => by
    simp only [flatLoop, Option.some.injEq] at h
    subst h
    rw [List.drop_eq_nil_of_le (by simp at hl; omega)]
    trivial
  | f :: fs, off, ks, cs, n, h, hx, hl => by
    simp only [flatLoop] at h
    split at h
    case isFalse => cases h
    case isTrue ho =>
      obtain ⟨k1, h1, h2⟩ := Option.bind_eq_some_iff.1 h
      obtain ⟨k2, h3, rfl⟩ := Option.map_eq_some_iff.1 h2
      obtain ⟨x, hx1⟩ := hx f (by simp)
      have o1 := hgo f.type k1 n _ x h1 hx1
      have l1 := o1.len
      rw [ho] at o1 l1
      have o2 := flatLoop_ok go hgo fs (off + k1.length) k2 cs n h3 (fun g hg => hx g (by simp [hg])) (by rw [List.length_append] at hl; omega)
      rw [List.length_append] at hl
      have hle : k1.length ≤ P.cellsOf f.type := by rw [← l1, List.length_take]; omega
      have e1 : ((cs.drop off).take (P.cellsOf f.type)) = (cs.drop off).take k1.length := by
        rw [← l1]; rw [List.length_take]
        rcases Nat.le_total (P.cellsOf f.type) (cs.drop off).length with hh | hh
        · rw [Nat.min_eq_left hh]
        · rw [Nat.min_eq_right hh, List.take_length, List.take_of_length_le hh]
      rw [e1] at o1
      have e2 : cs.drop off = (cs.drop off).take k1.length ++ cs.drop (off + k1.length) := by
        rw [← List.drop_drop, List.take_append_drop]
      rw [e2]
      exact o1.append o2

theorem flatRep_ok {ks : List Sc} {cs : List Value} : ∀ (m off : Nat), (∀ i, i < m → FlatOk ks ((cs.drop (off + i * ks.length)).take ks.length)) → off + m * ks.length = cs.length → FlatOk (List.replicate m ks).flatten (cs.drop off)
  | 0, off, _, hl => by
    rw [List.drop_eq_nil_of_le (by omega)]
    trivial
  | m + 1, off, h, hl => by
    have h0 := h 0 (by omega)
    rw [Nat.zero_mul, Nat.add_zero] at h0
    rw [Nat.succ_mul] at hl
    have hr := flatRep_ok m (off + ks.length) (fun i hi => by
      have := h (i + 1) (by omega)
      rw [Nat.succ_mul] at this
      rw [show off + ks.length + i * ks.length = off + (i * ks.length + ks.length) by omega]
      exact this) (by omega)
    have e : cs.drop off = (cs.drop off).take ks.length ++ cs.drop (off + ks.length) := by rw [← List.drop_drop, List.take_append_drop]
    rw [e, List.replicate_succ, List.flatten_cons]
    exact h0.append hr

theorem flat_ok : ∀ (n : Nat) (t : TypeId) (ks : List Sc) (m : Nat) (cs : List Value) (x : DataW H × List MemPlace), flat P n t = some ks → DataW.trod enc P w base spare held m t cs = some x → FlatOk ks cs := by
  intro n
  induction n with
  | zero => intro t ks m cs x h; simp [flat] at h
  | succ n ih =>
    intro t ks m cs x h hx
    simp only [flat] at h
    split at h
    · rename_i hu
      obtain rfl : [Sc.bool] = ks := by injection h
      cases m with
      | zero => simp [DataW.trod] at hx
      | succ m =>
        unfold DataW.trod at hx
        rw [hu] at hx
        match cs, hx with
        | [.bool b], _ => exact ⟨⟨b, rfl⟩, trivial⟩
    · rename_i k hu
      obtain rfl : [Sc.int k] = ks := by injection h
      cases m with
      | zero => simp [DataW.trod] at hx
      | succ m =>
        unfold DataW.trod at hx
        rw [hu] at hx
        match cs, hx with
        | [.int k' z], hx =>
          simp only at hx
          split at hx
          case isTrue hk => obtain ⟨rfl, hw⟩ := hk; exact ⟨⟨z, rfl, hw⟩, trivial⟩
          case isFalse => cases hx
    · rename_i hu
      obtain rfl : [Sc.str] = ks := by injection h
      cases m with
      | zero => simp [DataW.trod] at hx
      | succ m =>
        unfold DataW.trod at hx
        rw [hu] at hx
        match cs, hx with
        | [.string s], hx =>
          simp only at hx
          split at hx
          case isTrue hk => exact ⟨⟨s, rfl, hk⟩, trivial⟩
          case isFalse => cases hx
    · rename_i fs hu
      obtain ⟨ks', h1, h2⟩ := Option.bind_eq_some_iff.1 h
      split at h2
      case isFalse => cases h2
      case isTrue hc =>
        simp only [Option.some.injEq] at h2
        subst h2
        obtain ⟨xs, m', _, _, hlen, hxl, hf⟩ := DataW.trod_struct hu hx
        have := flatLoop_ok (flat P n) (fun t ks n' cs x h h' => ih t ks n' cs x h h') fs.toList 0 ks' cs m' h1 (fun f hf' => by
          obtain ⟨i, hi, rfl⟩ := List.getElem_of_mem hf'
          have hi' : i < fs.size := by simpa using hi
          have e := hf i fs[i] (Array.getElem?_eq_getElem hi')
          rw [List.getElem?_eq_getElem (by omega)] at e
          exact ⟨_, e⟩) (by rw [hlen, hc]; omega)
        simpa using this
    · rename_i mm e hu
      obtain ⟨ks', h1, h2⟩ := Option.bind_eq_some_iff.1 h
      split at h2
      case isFalse => cases h2
      case isTrue hc =>
        simp only [Option.some.injEq] at h2
        subst h2
        obtain ⟨hce, hct⟩ := hc
        obtain ⟨xs, m', _, _, hlen, hxl, hf⟩ := DataW.trod_array hu hx
        rw [hce] at hf
        have := flatRep_ok (ks := ks') (cs := cs) mm 0 (fun i hi => by
          have e := hf i hi
          rw [List.getElem?_eq_getElem (by omega)] at e
          rw [Nat.zero_add]
          exact ih _ ks' m' _ _ h1 e) (by rw [hlen, hct]; omega)
        simpa using this
    · cases h

/-- a struct or an array of scalars by value -/
theorem open_flat {r : Reach} {b0 : Nat} {t : TypeId} {v : Value} {d : DataW H} {p : List MemPlace} {ks : List Sc} (hf : flat P 9 t = some ks)
    (ha : (match P.underlying t with | some (.struct _) => true | some (.array _ _) => true | _ => false) = true)
    (hv : Value.okWide P w r b0 t v) (h : DataW.Trod enc P w base spare held t v d p) : ∃ cs : List Value, v = .agg cs.toArray ∧ FlatOk ks cs := by
  obtain ⟨m, hm⟩ := h
  have hok := flat_ok 9 t ks m _ _ hf hm
  have : ∃ cs, v = .agg cs := by
    unfold Value.okWide at hv
    split at hv
    · obtain ⟨cs, h1, _⟩ := hv; exact ⟨cs, h1⟩
    · obtain ⟨cs, h1, _⟩ := hv; exact ⟨cs, h1⟩
    · rename_i h1 h2
      split at ha
      · rename_i h3; exact absurd h3 (h1 _)
      · rename_i h3; exact absurd h3 (h2 _ _)
      · cases ha
  obtain ⟨cs, rfl⟩ := this
  exact ⟨cs.toList, by simp, hok⟩

theorem flatten_len {c : Nat} : ∀ (rows : List (List Value)), (∀ x ∈ rows, x.length = c) → rows.flatten.length = rows.length * c
  | [], _ => by simp
  | r :: rows, h => by
    rw [List.flatten_cons, List.length_append, flatten_len rows (fun x hx => h x (by simp [hx])), h r (by simp), List.length_cons, Nat.succ_mul]; omega
theorem flatten_get {c : Nat} : ∀ (rows : List (List Value)), (∀ x ∈ rows, x.length = c) → ∀ i j, j < c → rows.flatten[i * c + j]? = rows[i]?.bind (·[j]?)
  | [], _, i, j, _ => by simp
  | r :: rows, h, 0, j, hj => by
    have hr := h r (by simp)
    rw [List.flatten_cons, Nat.zero_mul, Nat.zero_add, List.getElem?_append_left (by omega)]; simp
  | r :: rows, h, i + 1, j, hj => by
    have hr := h r (by simp)
    rw [List.flatten_cons, List.getElem?_append_right (by rw [hr, Nat.succ_mul]; omega), hr, show (i + 1) * c + j - c = i * c + j by rw [Nat.succ_mul]; omega,
      flatten_get rows (fun x hx => h x (by simp [hx])) i j hj]
    simp

/-- a slice that reads as rows of cells: 'size' cells an element, all below block 'B' -/
def Sl (w : World) (B size : Nat) (A : Option Addr) (n : Nat) (xs : List Value) : Prop :=
  xs.length = n * size ∧ (0 < n → ∃ b o, A = some ⟨b, o, none⟩ ∧ b < B ∧ ∀ j, j < n * size → w.cell? ⟨b, o + j, none⟩ = xs[j]?)

/-- a slice of elements made of scalars -/
theorem open_slices {r : Reach} {b0 : Nat} {t e : TypeId} {v : Value} {d : DataW H} {p : List MemPlace} {ks : List Sc} (ht : P.underlying t = some (.slice e)) (hf : flat P 9 e = some ks) (hc : P.cellsOf e = ks.length)
    (hpos : 0 < ks.length) (hv : Value.okWide P w r b0 t v) (h : DataW.Trod enc P w 0 (fun _ => true) held t v d p) :
    ∃ (A : Option Addr) (n c : Nat) (rows : List (List Value)), v = .slice A n c ∧ n ≤ c ∧ c ≤ maxLen ∧ rows.length = n ∧ (∀ x ∈ rows, FlatOk ks x) ∧ Sl w w.heap.size ks.length A n rows.flatten := by
  obtain ⟨a0, n, c, rfl⟩ := okWide_slice ht hv
  obtain ⟨m, hm⟩ := h
  rcases open_slice ht hm with ⟨hcs, _⟩ | ⟨a, len, cap, mm, k, D, Pl, hcs, _, hl, hcm, hmm, _, hi⟩
  · simp only [Value.cells, List.cons.injEq, Value.slice.injEq, and_true] at hcs
    obtain ⟨rfl, rfl, rfl⟩ := hcs
    exact ⟨_, _, _, [], rfl, Nat.le_refl _, by simp, rfl, by simp, by simp [Sl]⟩
  · simp only [Value.cells, List.cons.injEq, Value.slice.injEq, and_true] at hcs
    obtain ⟨rfl, rfl, rfl⟩ := hcs
    simp only [if_true] at hmm
    subst hmm
    have hrow : ∀ i, i < n → ∃ cs', w.cells? 0 (a.add (i * ks.length)) ks.length = some cs' ∧ FlatOk ks cs' := fun i hin => by
      obtain ⟨cs', h1, h2⟩ := hi i (by omega)
      rw [hc] at h1
      exact ⟨cs', h1, flat_ok 9 e ks _ _ _ hf h2⟩
    let f : Nat → List Value := fun i => (w.cells? 0 (a.add (i * ks.length)) ks.length).getD []
    have hf1 : ∀ i, i < n → w.cells? 0 (a.add (i * ks.length)) ks.length = some (f i) ∧ FlatOk ks (f i) := fun i hin => by
      obtain ⟨cs', h1, h2⟩ := hrow i hin
      have : f i = cs' := by show (w.cells? 0 (a.add (i * ks.length)) ks.length).getD [] = cs'; rw [h1]; rfl
      rw [this]; exact ⟨h1, h2⟩
    refine ⟨_, _, _, (List.range n).map f, rfl, hl, hcm, by simp, fun x hx => ?_, ?_, fun hn => ?_⟩
    · obtain ⟨i, hin, rfl⟩ := List.mem_map.1 hx
      exact (hf1 i (List.mem_range.1 hin)).2
    · have := flatten_len (c := ks.length) ((List.range n).map f) (fun x hx => by
        obtain ⟨i, hin, rfl⟩ := List.mem_map.1 hx
        exact (hf1 i (List.mem_range.1 hin)).2.len)
      simpa using this
    · have h0 := (World.cells?_some (hf1 0 hn).1).2
      have hl0 := (hf1 0 hn).2.len
      have c0 := h0.2 0 hpos
      rw [List.getElem?_eq_getElem (by omega)] at c0
      have e0 : (a.add (0 * ks.length)).add 0 = a := by simp [Addr.add]
      rw [e0] at c0
      have hs := World.cell?_spot c0
      obtain ⟨b, o, sp⟩ := a
      simp only at hs
      subst hs
      refine ⟨b, o, rfl, ?_, fun j hj => ?_⟩
      · rcases Nat.lt_or_ge b w.heap.size with h | h
        · exact h
        · simp [World.cell?, Array.getElem?_eq_none h] at c0
      · have hq : j / ks.length < n := (Nat.div_lt_iff_lt_mul hpos).2 hj
        have hr := Nat.mod_lt j hpos
        obtain ⟨h1, h2⟩ := hf1 (j / ks.length) hq
        have hc1 := (World.cells?_some h1).2.2 (j % ks.length) hr
        rw [add_add, Nat.mul_comm (j / ks.length), Nat.div_add_mod] at hc1
        have ea : (⟨b, o, none⟩ : Addr).add j = ⟨b, o + j, none⟩ := by unfold Addr.add; split <;> simp_all
        rw [ea] at hc1
        rw [hc1]
        have := flatten_get (c := ks.length) ((List.range n).map f) (fun x hx => by
          obtain ⟨i, hin, rfl⟩ := List.mem_map.1 hx
          exact (hf1 i (List.mem_range.1 hin)).2.len) (j / ks.length) (j % ks.length) hr
        rw [Nat.mul_comm (j / ks.length), Nat.div_add_mod] at this
        rw [this]
        simp [hq]

/-- what the opening of a slice of scalars' rows gives -/
structure RowsAt (ks : List Sc) (w : World) (A : Option Addr) (n c : Nat) (rows : List (List Value)) : Prop where
  le : n ≤ c
  cap : c ≤ maxLen
  len : rows.length = n
  ok : ∀ x ∈ rows, FlatOk ks x
  sl : Sl w w.heap.size ks.length A n rows.flatten
theorem open_rows {r : Reach} {b0 : Nat} {t e : TypeId} {v : Value} {d : DataW H} {p : List MemPlace} {ks : List Sc} (ht : P.underlying t = some (.slice e)) (hf : flat P 9 e = some ks) (hc : P.cellsOf e = ks.length)
    (hpos : 0 < ks.length) (hv : Value.okWide P w r b0 t v) (h : DataW.Trod enc P w 0 (fun _ => true) held t v d p) :
    ∃ (A : Option Addr) (n c : Nat) (rows : List (List Value)), v = .slice A n c ∧ RowsAt ks w A n c rows := by
  obtain ⟨A, n, c, rows, h1, h2, h3, h4, h5, h6⟩ := open_slices ht hf hc hpos hv h
  exact ⟨A, n, c, rows, h1, h2, h3, h4, h5, h6⟩
end

/-- rows, each of one make: a list -/
theorem rows_map {α : Type} (enc : α → List Value) (good : α → Prop) : ∀ (rows : List (List Value)), (∀ r ∈ rows, ∃ x, r = enc x ∧ good x) → ∃ l : List α, rows = l.map enc ∧ ∀ x ∈ l, good x
  | [], _ => ⟨[], rfl, by simp⟩
  | r :: rows, h => by
    obtain ⟨x, hx, gx⟩ := h r (by simp)
    obtain ⟨l, hl, gl⟩ := rows_map enc good rows (fun r hr => h r (by simp [hr]))
    exact ⟨x :: l, by simp [hx, hl], fun y hy => (List.mem_cons.1 hy).elim (fun e => e ▸ gx) (gl y)⟩
theorem flatOk_ints {k : IntKind} : ∀ (m : Nat) (cs : List Value), FlatOk (List.replicate m (.int k)) cs → ∃ zs : List Int, cs = zs.map (Value.int k) ∧ zs.length = m ∧ ∀ z ∈ zs, (Lit.int k z).wf = true
  | 0, [], _ => ⟨[], rfl, rfl, by simp⟩
  | 0, _ :: _, h => h.elim
  | m + 1, [], h => h.elim
  | m + 1, v :: cs, h => by
    obtain ⟨⟨z, rfl, hz⟩, h'⟩ := h
    obtain ⟨zs, rfl, hl, hw⟩ := flatOk_ints m cs h'
    exact ⟨z :: zs, rfl, by simp [hl], fun y hy => (List.mem_cons.1 hy).elim (fun e => e ▸ hz) (hw y)⟩
theorem flatten_one {α : Type} (f : α → Value) (l : List α) : (l.map fun x => [f x]).flatten = l.map f := by
  induction l with
  | nil => rfl
  | cons x l ih => simp [ih]
theorem RowsAt.ints {k : IntKind} {w : World} {A : Option Addr} {n c : Nat} {rows : List (List Value)} (h : RowsAt [.int k] w A n c rows) :
    ∃ zs : List Int, zs.length = n ∧ (∀ z ∈ zs, (Lit.int k z).wf = true) ∧ Sl w w.heap.size 1 A n (zs.map (Value.int k)) := by
  obtain ⟨zs, hz, hw⟩ := rows_map (fun z => [Value.int k z]) (fun z => (Lit.int k z).wf = true) rows (fun r hr => by
    obtain ⟨zs, rfl, hl, hw⟩ := flatOk_ints 1 r (h.ok r hr)
    match zs, hl with
    | [z], _ => exact ⟨z, rfl, hw z (by simp)⟩)
  have hsl := h.sl
  rw [hz, flatten_one] at hsl
  exact ⟨zs, by rw [← h.len, hz]; simp, hw, hsl⟩
theorem RowsAt.strs {w : World} {A : Option Addr} {n c : Nat} {rows : List (List Value)} (h : RowsAt [.str] w A n c rows) :
    ∃ ss : List ByteArray, ss.length = n ∧ (∀ s ∈ ss, s.size ≤ maxLen) ∧ Sl w w.heap.size 1 A n (ss.map Value.string) := by
  obtain ⟨ss, hz, hw⟩ := rows_map (fun z => [Value.string z]) (fun z => z.size ≤ maxLen) rows (fun r hr => by
    have := h.ok r hr
    match r, this with
    | [v], ⟨⟨s, hs, hm⟩, _⟩ => exact ⟨s, by rw [hs], hm⟩)
  have hsl := h.sl
  rw [hz, flatten_one] at hsl
  exact ⟨ss, by rw [← h.len, hz]; simp, hw, hsl⟩

section
variable {w w' : World} {B size n : Nat} {A : Option Addr} {xs : List Value}
theorem Sl.keep (h : Sl w B size A n xs) (hk : ∀ b o, b < B → w'.cell? ⟨b, o, none⟩ = w.cell? ⟨b, o, none⟩) : Sl w' B size A n xs :=
  ⟨h.1, fun hn => by
    obtain ⟨b, o, e, hb, hc⟩ := h.2 hn
    exact ⟨b, o, e, hb, fun j hj => (hk b _ hb).trans (hc j hj)⟩⟩
theorem Sl.below {C : Nat} (h : Sl w B size A n xs) (hb : Below C w w') (hC : B ≤ C) : Sl w' B size A n xs := h.keep fun b o hlt => hb.cell (p := ⟨b, o, none⟩) (by show b < C; omega)
theorem Sl.more {C : Nat} (h : Sl w B size A n xs) (hC : B ≤ C) : Sl w C size A n xs :=
  ⟨h.1, fun hn => by
    obtain ⟨b, o, e, hb, hc⟩ := h.2 hn
    exact ⟨b, o, e, by omega, hc⟩⟩
theorem Sl.at_ {k : Nat} (h : Sl w B 1 A n xs) (hk : k < n) : ∃ b o u, A = some ⟨b, o, none⟩ ∧ b < B ∧ xs[k]? = some u ∧ w.cell? ⟨b, o + k, none⟩ = some u := by
  obtain ⟨b, o, e, hb, hc⟩ := h.2 (by omega)
  have hl : k < xs.length := by have := h.1; omega
  exact ⟨b, o, xs[k], e, hb, List.getElem?_eq_getElem hl, by rw [hc k (by omega)]; exact List.getElem?_eq_getElem hl⟩
end

/-- a callee that leaves the world alone, met in a region that draws its order -/
theorem quiet_ret {P : Program} {f : FuncId} {args : Array Value} {w : World} {n : Nat} {v : Value}
    (h : Calls P f args (w.drewN n) (Ret (w.drewN n) v)) : Calls P f args (w.drewN n) fun e w'' => e = .returned v ∧ ∃ m, w'' = w.drewN m :=
  h.mono fun _ _ ⟨he, hm⟩ => ⟨he, n, hm.symm⟩
theorem quiet_retD {P : Program} {f : FuncId} {args : Array Value} {w : World} {n : Nat} {v : Value}
    (h : Calls P f args (w.drewN n) (RetD (w.drewN n) v)) : Calls P f args (w.drewN n) fun e w'' => e = .returned v ∧ ∃ m, w'' = w.drewN m :=
  h.mono fun _ _ ⟨he, m, hm⟩ => ⟨he, n + m, by rw [hm, World.drewN_drewN]⟩
end Go.Proofs.YtmfdggolnfoniaaDoor
