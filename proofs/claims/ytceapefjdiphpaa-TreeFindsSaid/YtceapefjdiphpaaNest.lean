/- Arguments opened: structs, arrays and slices, one within another, to whatever depth; no program in sight but as a variable. -/
import Derived.Test.YtceapefjdiphpaaMid
namespace Go.Proofs.Ytceapefjdiphpaa
open Go.ChangeShapes Go.WideShapes Go.RowKit Go.Deep

/-- what a cell holds: a scalar, or a slice whose elements' cells are of these shapes -/
inductive Sh where
  | int (k : IntKind) | bool | str | sl (e : List Sh)
mutual
def Sh.ok (w : World) (B : Nat) : Sh → Value → Prop
  | .int k, v => ∃ n, v = .int k n ∧ (Lit.int k n).wf = true
  | .bool, v => ∃ b, v = .bool b
  | .str, v => ∃ s, v = .string s ∧ s.size ≤ maxLen
  | .sl es, v => ∃ (A : Option Addr) (n c : Nat) (rows : List (List Value)), v = .slice A n c ∧ n ≤ c ∧ c ≤ maxLen ∧ rows.length = n ∧ (∀ r ∈ rows, Sh.oks w B es r) ∧ Sl w B es.length A n rows.flatten
def Sh.oks (w : World) (B : Nat) : List Sh → List Value → Prop
  | [], [] => True
  | s :: ss, v :: vs => s.ok w B v ∧ Sh.oks w B ss vs
  | _, _ => False
end
theorem Sh.oks_len {w : World} {B : Nat} : ∀ {ss : List Sh} {vs : List Value}, Sh.oks w B ss vs → vs.length = ss.length
  | [], [], _ => rfl
  | _ :: ss, _ :: vs, h => by rw [Sh.oks] at h; simp [Sh.oks_len h.2]
  | [], _ :: _, h => by rw [Sh.oks] at h <;> first | exact h.elim | (intros; simp_all)
  | _ :: _, [], h => by rw [Sh.oks] at h <;> first | exact h.elim | (intros; simp_all)
theorem Sh.oks_append {w : World} {B : Nat} : ∀ {ss ss' : List Sh} {vs vs' : List Value}, Sh.oks w B ss vs → Sh.oks w B ss' vs' → Sh.oks w B (ss ++ ss') (vs ++ vs')
  | [], _, [], _, _, h' => h'
  | _ :: _, _, _ :: _, _, h, h' => by rw [Sh.oks] at h; rw [List.cons_append, List.cons_append, Sh.oks]; exact ⟨h.1, Sh.oks_append h.2 h'⟩
  | [], _, _ :: _, _, h, _ => by have := Sh.oks_len h; simp at this
  | _ :: _, _, [], _, h, _ => by have := Sh.oks_len h; simp at this

def shapeLoop (go : TypeId → Option (List Sh)) : List Field → Nat → Option (List Sh)
  | [], _ => some []
  | f :: fs, off => if f.offset = off then (go f.type).bind fun ks => (shapeLoop go fs (off + ks.length)).map (ks ++ ·) else none
/-- the shapes of a type's cells -/
def shape (P : Program) : Nat → TypeId → Option (List Sh)
  | 0, _ => none
  | n + 1, t =>
    match P.underlying t with
    | some .bool => some [.bool]
    | some (.int k) => some [.int k]
    | some .string => some [.str]
    | some (.slice e) => (shape P n e).bind fun es => if P.cellsOf e = es.length ∧ 0 < es.length then some [.sl es] else none
    | some (.struct fs) => (shapeLoop (shape P n) fs.toList 0).bind fun ks => if P.cellsOf t = ks.length then some ks else none
    | some (.array m e) => (shape P n e).bind fun ks => if P.cellsOf e = ks.length ∧ P.cellsOf t = m * ks.length then some (List.replicate m ks).flatten else none
    | _ => none

section
variable {H : Type} {enc : TypeId × Value → H} {P : Program} {w : World} {held : Bool}
theorem shapeLoop_ok (go : TypeId → Option (List Sh)) (hgo : ∀ t ks n cs x, go t = some ks → DataW.trod enc P w 0 (fun _ => true) held n t cs = some x → Sh.oks w w.heap.size ks cs) :
    ∀ (fs : List Field) (off : Nat) (ks : List Sh) (cs : List Value) (n : Nat), shapeLoop go fs off = some ks →
      (∀ f ∈ fs, ∃ x, DataW.trod enc P w 0 (fun _ => true) held n f.type ((cs.drop f.offset).take (P.cellsOf f.type)) = some x) → off + ks.length = cs.length → Sh.oks w w.heap.size ks (cs.drop off)
  | [], off, ks, cs, n, h, _, hl => by
    simp only [shapeLoop, Option.some.injEq] at h
    subst h
    rw [List.drop_eq_nil_of_le (by simp at hl; omega), Sh.oks]
    trivial
  | f :: fs, off, ks, cs, n, h, hx, hl => by
    simp only [shapeLoop] at h
    split at h
    case isFalse => cases h
    case isTrue ho =>
      obtain ⟨k1, h1, h2⟩ := Option.bind_eq_some_iff.1 h
      obtain ⟨k2, h3, rfl⟩ := Option.map_eq_some_iff.1 h2
      obtain ⟨x, hx1⟩ := hx f (by simp)
      have o1 := hgo f.type k1 n _ x h1 hx1
      have l1 := Sh.oks_len o1
      rw [ho] at o1 l1
      have o2 := shapeLoop_ok go hgo fs (off + k1.length) k2 cs n h3 (fun g hg => hx g (by simp [hg])) (by rw [List.length_append] at hl; omega)
      rw [List.length_append] at hl
      have hle : k1.length ≤ P.cellsOf f.type := by rw [← l1, List.length_take]; omega
      have e1 : ((cs.drop off).take (P.cellsOf f.type)) = (cs.drop off).take k1.length := by
        rw [← l1]; rw [List.length_take]
        rcases Nat.le_total (P.cellsOf f.type) (cs.drop off).length with hh | hh
        · rw [Nat.min_eq_left hh]
        · rw [Nat.min_eq_right hh, List.take_length, List.take_of_length_le hh]
      rw [e1] at o1
      have e2 : cs.drop off = (cs.drop off).take k1.length ++ cs.drop (off + k1.length) := by
        rw [← List.drop_drop, List.take_append_drop]
      rw [e2]
      exact Sh.oks_append o1 o2
theorem shapeRep_ok {ks : List Sh} {B : Nat} {cs : List Value} : ∀ (m off : Nat), (∀ i, i < m → Sh.oks w B ks ((cs.drop (off + i * ks.length)).take ks.length)) → off + m * ks.length = cs.length → Sh.oks w B (List.replicate m ks).flatten (cs.drop off)
  | 0, off, _, hl => by
    rw [List.drop_eq_nil_of_le (by omega)]
    show Sh.oks w B [] []
    rw [Sh.oks]; trivial
  | m + 1, off, h, hl => by
    have h0 := h 0 (by omega)
    rw [Nat.zero_mul, Nat.add_zero] at h0
    rw [Nat.succ_mul] at hl
    have hr := shapeRep_ok m (off + ks.length) (fun i hi => by
      have := h (i + 1) (by omega)
      rw [Nat.succ_mul] at this
      rw [show off + ks.length + i * ks.length = off + (i * ks.length + ks.length) by omega]
      exact this) (by omega)
    have e : cs.drop off = (cs.drop off).take ks.length ++ cs.drop (off + ks.length) := by rw [← List.drop_drop, List.take_append_drop]
    rw [e, List.replicate_succ, List.flatten_cons]
    exact Sh.oks_append h0 hr

theorem shape_ok : ∀ (n : Nat) (t : TypeId) (ks : List Sh) (m : Nat) (cs : List Value) (x : DataW H × List MemPlace), shape P n t = some ks → DataW.trod enc P w 0 (fun _ => true) held m t cs = some x → Sh.oks w w.heap.size ks cs := by
  intro n
  induction n with
  | zero => intro t ks m cs x h; simp [shape] at h
  | succ n ih =>
    intro t ks m cs x h hx
    simp only [shape] at h
    split at h
    · rename_i hu
      obtain rfl : [Sh.bool] = ks := by injection h
      cases m with
      | zero => simp [DataW.trod] at hx
      | succ m =>
        unfold DataW.trod at hx
        rw [hu] at hx
        match cs, hx with
        | [.bool b], _ => simp only [Sh.oks, Sh.ok, and_true]; exact ⟨b, rfl⟩
    · rename_i k hu
      obtain rfl : [Sh.int k] = ks := by injection h
      cases m with
      | zero => simp [DataW.trod] at hx
      | succ m =>
        unfold DataW.trod at hx
        rw [hu] at hx
        match cs, hx with
        | [.int k' z], hx =>
          simp only at hx
          split at hx
          case isTrue hk => obtain ⟨rfl, hw⟩ := hk; simp only [Sh.oks, Sh.ok, and_true]; exact ⟨z, rfl, hw⟩
          case isFalse => cases hx
    · rename_i hu
      obtain rfl : [Sh.str] = ks := by injection h
      cases m with
      | zero => simp [DataW.trod] at hx
      | succ m =>
        unfold DataW.trod at hx
        rw [hu] at hx
        match cs, hx with
        | [.string s], hx =>
          simp only at hx
          split at hx
          case isTrue hk => simp only [Sh.oks, Sh.ok, and_true]; exact ⟨s, rfl, hk⟩
          case isFalse => cases hx
    · rename_i e hu
      obtain ⟨es, h1, h2⟩ := Option.bind_eq_some_iff.1 h
      split at h2
      case isFalse => cases h2
      case isTrue hce =>
        obtain ⟨hc, hpos⟩ := hce
        simp only [Option.some.injEq] at h2
        subst h2
        rcases open_slice hu hx with ⟨hcs, _⟩ | ⟨a, len, cap, mm, k, D, Pl, hcs, _, hl, hcm, hmm, _, hi⟩
        · subst hcs
          simp only [Sh.oks, Sh.ok, and_true]
          exact ⟨none, 0, 0, [], rfl, Nat.le_refl _, by simp, rfl, by simp, by simp [Sl]⟩
        · subst hcs
          simp only [if_true] at hmm
          subst hmm
          have hrow : ∀ i, i < len → ∃ cs', w.cells? 0 (a.add (i * es.length)) es.length = some cs' ∧ Sh.oks w w.heap.size es cs' := fun i hin => by
            obtain ⟨cs', g1, g2⟩ := hi i (by omega)
            rw [hc] at g1
            exact ⟨cs', g1, ih e es _ _ _ h1 g2⟩
          let f : Nat → List Value := fun i => (w.cells? 0 (a.add (i * es.length)) es.length).getD []
          have hf1 : ∀ i, i < len → w.cells? 0 (a.add (i * es.length)) es.length = some (f i) ∧ Sh.oks w w.heap.size es (f i) := fun i hin => by
            obtain ⟨cs', g1, g2⟩ := hrow i hin
            have : f i = cs' := by show (w.cells? 0 (a.add (i * es.length)) es.length).getD [] = cs'; rw [g1]; rfl
            rw [this]; exact ⟨g1, g2⟩
          simp only [Sh.oks, Sh.ok, and_true]
          refine ⟨some a, len, _, (List.range len).map f, rfl, hl, hcm, by simp, fun x hx => ?_, ?_, fun hn => ?_⟩
          · obtain ⟨i, hin, rfl⟩ := List.mem_map.1 hx
            exact (hf1 i (List.mem_range.1 hin)).2
          · have := flatten_len (c := es.length) ((List.range len).map f) (fun x hx => by
              obtain ⟨i, hin, rfl⟩ := List.mem_map.1 hx
              exact Sh.oks_len (hf1 i (List.mem_range.1 hin)).2)
            simpa using this
          · have h0 := (World.cells?_some (hf1 0 hn).1).2
            have hl0 := Sh.oks_len (hf1 0 hn).2
            have c0 := h0.2 0 hpos
            rw [List.getElem?_eq_getElem (by omega)] at c0
            have e0 : (a.add (0 * es.length)).add 0 = a := by simp [Addr.add]
            rw [e0] at c0
            have hs := World.cell?_spot c0
            obtain ⟨b, o, sp⟩ := a
            simp only at hs
            subst hs
            refine ⟨b, o, rfl, ?_, fun j hj => ?_⟩
            · rcases Nat.lt_or_ge b w.heap.size with h | h
              · exact h
              · simp [World.cell?, Array.getElem?_eq_none h] at c0
            · have hq : j / es.length < len := (Nat.div_lt_iff_lt_mul hpos).2 hj
              have hr := Nat.mod_lt j hpos
              obtain ⟨g1, g2⟩ := hf1 (j / es.length) hq
              have hc1 := (World.cells?_some g1).2.2 (j % es.length) hr
              rw [add_add, Nat.mul_comm (j / es.length), Nat.div_add_mod] at hc1
              have ea : (⟨b, o, none⟩ : Addr).add j = ⟨b, o + j, none⟩ := by unfold Addr.add; split <;> simp_all
              rw [ea] at hc1
              rw [hc1]
              have := flatten_get (c := es.length) ((List.range len).map f) (fun x hx => by
                obtain ⟨i, hin, rfl⟩ := List.mem_map.1 hx
                exact Sh.oks_len (hf1 i (List.mem_range.1 hin)).2) (j / es.length) (j % es.length) hr
              rw [Nat.mul_comm (j / es.length), Nat.div_add_mod] at this
              rw [this]
              simp [hq]
    · rename_i fs hu
      obtain ⟨ks', h1, h2⟩ := Option.bind_eq_some_iff.1 h
      split at h2
      case isFalse => cases h2
      case isTrue hc =>
        simp only [Option.some.injEq] at h2
        subst h2
        obtain ⟨xs, m', _, _, hlen, hxl, hf⟩ := DataW.trod_struct hu hx
        have := shapeLoop_ok (shape P n) (fun t ks n' cs x h h' => ih t ks n' cs x h h') fs.toList 0 ks' cs m' h1 (fun f hf' => by
          obtain ⟨i, hi, rfl⟩ := List.getElem_of_mem hf'
          have hi' : i < fs.size := by simpa using hi
          have e := hf i fs[i] (Array.getElem?_eq_getElem hi')
          rw [List.getElem?_eq_getElem (by omega)] at e
          exact ⟨_, e⟩) (by rw [hlen, hc]; omega)
        simpa using this
    · rename_i mm e hu
      obtain ⟨ks', h1, h2⟩ := Option.bind_eq_some_iff.1 h
      split at h2
      case isFalse => cases h2
      case isTrue hc =>
        simp only [Option.some.injEq] at h2
        subst h2
        obtain ⟨hce, hct⟩ := hc
        obtain ⟨xs, m', _, _, hlen, hxl, hf⟩ := DataW.trod_array hu hx
        rw [hce] at hf
        have := shapeRep_ok (w := w) (B := w.heap.size) (ks := ks') (cs := cs) mm 0 (fun i hi => by
          have e := hf i hi
          rw [List.getElem?_eq_getElem (by omega)] at e
          rw [Nat.zero_add]
          exact ih _ ks' m' _ _ h1 e) (by rw [hlen, hct]; omega)
        simpa using this
    · cases h

/-- an argument's cells, whatever its type -/
theorem open_nest {t : TypeId} {v : Value} {d : DataW H} {p : List MemPlace} {ks : List Sh} (hf : shape P 9 t = some ks) (h : DataW.Trod enc P w 0 (fun _ => true) held t v d p) : Sh.oks w w.heap.size ks v.cells.toList := by
  obtain ⟨m, hm⟩ := h
  exact shape_ok 9 t ks m _ _ hf hm
/-- a slice -/
theorem open_nest_slice {r : Reach} {b0 : Nat} {t e : TypeId} {v : Value} {d : DataW H} {p : List MemPlace} {es : List Sh} (ht : P.underlying t = some (.slice e)) (hf : shape P 9 t = some [.sl es]) (hv : Value.okWide P w r b0 t v)
    (h : DataW.Trod enc P w 0 (fun _ => true) held t v d p) : ∃ (A : Option Addr) (n c : Nat) (rows : List (List Value)), v = .slice A n c ∧ n ≤ c ∧ c ≤ maxLen ∧ rows.length = n ∧ (∀ x ∈ rows, Sh.oks w w.heap.size es x) ∧ Sl w w.heap.size es.length A n rows.flatten := by
  obtain ⟨a0, n, c, rfl⟩ := okWide_slice ht hv
  have := open_nest hf h
  simp only [Value.cells, Sh.oks, Sh.ok, and_true] at this
  exact this
/-- a struct by value -/
theorem open_nest_struct {r : Reach} {b0 : Nat} {t : TypeId} {v : Value} {d : DataW H} {p : List MemPlace} {ks : List Sh} (hf : shape P 9 t = some ks)
    (ha : (match P.underlying t with | some (.struct _) => true | some (.array _ _) => true | _ => false) = true)
    (hv : Value.okWide P w r b0 t v) (h : DataW.Trod enc P w 0 (fun _ => true) held t v d p) : ∃ cs : List Value, v = .agg cs.toArray ∧ Sh.oks w w.heap.size ks cs := by
  have hok := open_nest hf h
  have : ∃ cs, v = .agg cs := by
    unfold Value.okWide at hv
    split at hv
    · obtain ⟨cs, h1, _⟩ := hv; exact ⟨cs, h1⟩
    · obtain ⟨cs, h1, _⟩ := hv; exact ⟨cs, h1⟩
    · rename_i h1 h2
      split at ha
      · rename_i h3; exact absurd h3 (h1 _)
      · rename_i h3; exact absurd h3 (h2 _ _)
      · cases ha
  obtain ⟨cs, rfl⟩ := this
  exact ⟨cs.toList, by simp, hok⟩
end
end Go.Proofs.Ytceapefjdiphpaa
