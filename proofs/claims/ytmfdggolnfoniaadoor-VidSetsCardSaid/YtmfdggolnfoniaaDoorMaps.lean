/- A map's block as the list of its entries, in the order of their making: a lookup, a store, an entry that is taken and stored, the length. No program in sight but as a variable. -/
import Derived.Test.YtmfdggolnfoniaaDoorQuiet
import Derived.Maps.OwnSet
import Derived.WideKeyEntry
import Derived.DeepKeys4
namespace Go.Proofs.YtmfdggolnfoniaaDoor
open Go.RowKit Go.MapKept
open Go.ChangeMaps (setBlock modify_eq_set)
open Go.WideMaps (KeyLaw)

def pairOf (e : MapEntry) : Value × Value := (e.key, e.val)
/-- block b is a map with just these entries -/
def MapIs (P : Program) (k : TypeId) (w : World) (b : Nat) (l : List (Value × Value)) : Prop :=
  ∃ es clock, w.heap[b]? = some (.map es clock) ∧ Stamped es clock ∧ (∀ e ∈ es.toList, ∃ kl, keyOf P k e.key = some kl) ∧ l = es.toList.map pairOf
/-- what a lookup of a key gives: the entry's, or the zero -/
def GetL (l : List (Value × Value)) (key z v : Value) : Prop := ((∀ p ∈ l, p.1 ≠ key) ∧ v = z) ∨ (key, v) ∈ l
/-- what a store makes of the entries -/
def PutL (l : List (Value × Value)) (key val : Value) (l' : List (Value × Value)) : Prop :=
  ((∀ p ∈ l, p.1 ≠ key) ∧ l' = l ++ [(key, val)]) ∨ ∃ j v0, l[j]? = some (key, v0) ∧ l' = l.set j (key, val)

/-- an owned row stays behind a callee that only makes memory -/
theorem own_ext {w w' : World} {base : Nat} {e : TypeId} {size n : Nat} {v : Value} {xs : List Value} (h : w.ownsRow base e size v n xs) (hb : Below w.heap.size w w') : w'.ownsRow base e size v n xs := by
  have hlt := h.lt
  obtain ⟨hl, h2⟩ := h
  rcases h2 with h2 | ⟨g, cap, cur, rfl, hg, hh, r⟩
  · exact ⟨hl, .inl h2⟩
  · exact ⟨hl, .inr ⟨g, cap, cur, rfl, hg, (hb.block g (hlt g rfl).2).trans hh, r⟩⟩

section
variable {P : Program} {k : TypeId} {w w' : World} {b : Nat} {l : List (Value × Value)}
theorem MapIs.made (P : Program) (k : TypeId) (w : World) : MapIs P k (w.alloc (.map #[] 0)) w.heap.size [] :=
  ⟨#[], 0, heap_alloc_new w _, stamped_empty 0, by simp, rfl⟩
theorem MapIs.lt (h : MapIs P k w b l) : b < w.heap.size := by
  obtain ⟨es, clock, hb, _⟩ := h
  rcases Nat.lt_or_ge b w.heap.size with h | h
  · exact h
  · rw [Array.getElem?_eq_none h] at hb; cases hb
theorem MapIs.keep (h : MapIs P k w b l) (hk : w'.heap[b]? = w.heap[b]?) : MapIs P k w' b l := by
  obtain ⟨es, clock, hb, r⟩ := h
  exact ⟨es, clock, hk.trans hb, r⟩
theorem MapIs.below {B : Nat} (h : MapIs P k w b l) (hb : Below B w w') (hB : b < B) : MapIs P k w' b l := h.keep (hb.block b hB)
theorem MapIs.ext (h : MapIs P k w b l) (hb : Below w.heap.size w w') : MapIs P k w' b l := h.below hb h.lt
theorem MapIs.drewN (h : MapIs P k w b l) (n : Nat) : MapIs P k (w.drewN n) b l := h
theorem MapIs.alloc (h : MapIs P k w b l) (o : Obj) : MapIs P k (w.alloc o) b l := h.keep (Below.heap_alloc w o b h.lt)
theorem MapIs.far (h : MapIs P k w b l) {p : Addr} (hp : b ≠ p.block) (u : Value) : MapIs P k (w.setCell p u) b l := h.keep (Below.heap_setCell w p u b hp)
theorem MapIs.rowFar (h : MapIs P k w b l) {g : Nat} (hg : b ≠ g) (cs : Array Value) : MapIs P k (w.setRow g cs) b l := h.keep (setRow_other w g b cs hg)
theorem MapIs.keys (h : MapIs P k w b l) : ∀ p ∈ l, ∃ kl, keyOf P k p.1 = some kl := by
  obtain ⟨es, clock, hb, hs, hk, rfl⟩ := h
  intro p hp
  obtain ⟨e, he, rfl⟩ := List.mem_map.1 hp
  exact hk e he
theorem MapIs.apart (h : MapIs P k w b l) : l.Pairwise (fun p q => p.1 ≠ q.1) := by
  obtain ⟨es, clock, hb, hs, hk, rfl⟩ := h
  rw [List.pairwise_map]
  exact ((stamped_iff es clock).1 hs).2.2

theorem setBlock_heap {o : Obj} (hb : b < w.heap.size) : (setBlock w b o).heap[b]? = some o := by simp [setBlock, hb]
theorem setBlock_other {o : Obj} {i : Nat} (h : i ≠ b) : (setBlock w b o).heap[i]? = w.heap[i]? := by
  simp only [setBlock]; rw [Array.getElem?_setIfInBounds_ne (fun e => h e.symm)]
theorem setBlock_below {B : Nat} {a : World} (h : Below B a w) (hB : B ≤ b) (o : Obj) : Below B a (setBlock w b o) :=
  ⟨h.os, h.tape, h.output, by simpa [setBlock] using h.size, fun i hi => (setBlock_other (by omega)).trans (h.block i hi)⟩
theorem Blk.setBlock {g : Nat} {t : TypeId} {cs : Array Value} (h : Blk w g t cs) (hg : g ≠ b) (o : Obj) : Blk (setBlock w b o) g t cs := (setBlock_other hg).trans h

/-- 'm[key]': the run, in any world with this block -/
theorem MapIs.look {t e : TypeId} (h : MapIs P k w b l) (K : KeyLaw P k) (ht : P.underlying t = some (.map k e)) {z : Value} (hz : ∀ u : World, (zeroValue e).run P u = .ok z u) {key : Value} {kl : Lit} (hkey : keyOf P k key = some kl) :
    ∃ v, GetL l key z v ∧ ∀ w', w'.heap[b]? = w.heap[b]? → (Instr.lookup t (.map (some b)) key false).run P w' = .ok v w' := by
  obtain ⟨es, clock, hb, hs, hk, rfl⟩ := h
  rcases K.find w hkey es.toList hk with ⟨h1, h2⟩ | ⟨j, e0, h1, h2, h3⟩
  · refine ⟨z, .inl ⟨fun p hp => ?_, rfl⟩, fun w' hw => ?_⟩
    · obtain ⟨x, hx, rfl⟩ := List.mem_map.1 hp; exact h2 x hx
    · have hb' := hw.trans hb
      rcases K.find w' hkey es.toList hk with ⟨g1, g2⟩ | ⟨j, e0, g1, g2, g3⟩
      · simp [Instr.lookup, run_underlying ht, MapKept.run_getObj_map hb', K.check w' _ hkey, g1, hz, Result.andThen]
      · exact absurd g3 (h2 e0 (List.mem_of_getElem? g2))
  · refine ⟨e0.val, .inr (List.mem_map.2 ⟨e0, List.mem_of_getElem? h2, by rw [pairOf, h3]⟩), fun w' hw => ?_⟩
    have hb' := hw.trans hb
    rcases K.find w' hkey es.toList hk with ⟨g1, g2⟩ | ⟨j', e1, g1, g2, g3⟩
    · exact absurd h3 (g2 e0 (List.mem_of_getElem? h2))
    · have hd : es.toList.Pairwise (fun x y => x.key ≠ y.key) := ((stamped_iff es clock).1 hs).2.2
      have he : e1 = e0 := by
        obtain ⟨hj, rfl⟩ := List.getElem?_eq_some_iff.1 h2
        obtain ⟨hj', rfl⟩ := List.getElem?_eq_some_iff.1 g2
        have hp := List.pairwise_iff_getElem.1 hd
        rcases Nat.lt_trichotomy j j' with c | c | c
        · exact absurd (h3.trans g3.symm) (hp j j' hj hj' c)
        · subst c; rfl
        · exact absurd (g3.trans h3.symm) (hp j' j hj' hj c)
      subst he
      simp [Instr.lookup, run_underlying ht, MapKept.run_getObj_map hb', K.check w' _ hkey, g1, Result.andThen]
/-- 'v, ok := m[key]' -/
theorem MapIs.look_ok {t e : TypeId} (h : MapIs P k w b l) (K : KeyLaw P k) (ht : P.underlying t = some (.map k e)) {z : Value} (hz : ∀ u : World, (zeroValue e).run P u = .ok z u) {key : Value} {kl : Lit} (hkey : keyOf P k key = some kl) :
    ∃ v ok, ((ok = false ∧ (∀ p ∈ l, p.1 ≠ key) ∧ v = z) ∨ (ok = true ∧ (key, v) ∈ l)) ∧ ∀ w', w'.heap[b]? = w.heap[b]? → (Instr.lookup t (.map (some b)) key true).run P w' = .ok (.tuple #[v, .bool ok]) w' := by
  obtain ⟨es, clock, hb, hs, hk, rfl⟩ := h
  rcases K.find w hkey es.toList hk with ⟨h1, h2⟩ | ⟨j, e0, h1, h2, h3⟩
  · refine ⟨z, false, .inl ⟨rfl, fun p hp => ?_, rfl⟩, fun w' hw => ?_⟩
    · obtain ⟨x, hx, rfl⟩ := List.mem_map.1 hp; exact h2 x hx
    · have hb' := hw.trans hb
      rcases K.find w' hkey es.toList hk with ⟨g1, g2⟩ | ⟨j, e0, g1, g2, g3⟩
      · simp [Instr.lookup, run_underlying ht, MapKept.run_getObj_map hb', K.check w' _ hkey, g1, hz, Result.andThen]
      · exact absurd g3 (h2 e0 (List.mem_of_getElem? g2))
  · refine ⟨e0.val, true, .inr ⟨rfl, List.mem_map.2 ⟨e0, List.mem_of_getElem? h2, by rw [pairOf, h3]⟩⟩, fun w' hw => ?_⟩
    have hb' := hw.trans hb
    rcases K.find w' hkey es.toList hk with ⟨g1, g2⟩ | ⟨j', e1, g1, g2, g3⟩
    · exact absurd h3 (g2 e0 (List.mem_of_getElem? h2))
    · have hd : es.toList.Pairwise (fun x y => x.key ≠ y.key) := ((stamped_iff es clock).1 hs).2.2
      have he : e1 = e0 := by
        obtain ⟨hj, rfl⟩ := List.getElem?_eq_some_iff.1 h2
        obtain ⟨hj', rfl⟩ := List.getElem?_eq_some_iff.1 g2
        have hp := List.pairwise_iff_getElem.1 hd
        rcases Nat.lt_trichotomy j j' with c | c | c
        · exact absurd (h3.trans g3.symm) (hp j j' hj hj' c)
        · subst c; rfl
        · exact absurd (g3.trans h3.symm) (hp j' j hj' hj c)
      subst he
      simp [Instr.lookup, run_underlying ht, MapKept.run_getObj_map hb', K.check w' _ hkey, g1, Result.andThen]
/-- 'm[key] = val' -/
theorem MapIs.put {t e : TypeId} (h : MapIs P k w b l) (K : KeyLaw P k) (ht : P.underlying t = some (.map k e)) {key val : Value} {kl : Lit} (hkey : keyOf P k key = some kl) :
    ∃ o l', (Instr.mapUpdate t (.map (some b)) key val).run P w = .ok () (setBlock w b o) ∧ PutL l key val l' ∧ MapIs P k (setBlock w b o) b l' := by
  have hlt := h.lt
  obtain ⟨es, clock, hb, hs, hk, rfl⟩ := h
  rcases K.find w hkey es.toList hk with ⟨h1, h2⟩ | ⟨j, e0, h1, h2, h3⟩
  · refine ⟨.map (es.push ⟨key, val, clock⟩) (clock + 1), _, ?_, .inl ⟨fun p hp => ?_, rfl⟩, es.push ⟨key, val, clock⟩, clock + 1, setBlock_heap hlt, stamped_push hs h2, fun x hx => ?_, by simp [pairOf]⟩
    · simp [Instr.mapUpdate, run_underlying ht, MapKept.run_getObj_map hb, K.check w false hkey, h1, MapKept.run_setObj_map _ hb, Result.andThen, setBlock]
    · obtain ⟨x, hx, rfl⟩ := List.mem_map.1 hp; exact h2 x hx
    · simp only [Array.toList_push, List.mem_append, List.mem_singleton] at hx
      rcases hx with hx | rfl
      · exact hk x hx
      · exact ⟨_, hkey⟩
  · have hj : es[j]? = some e0 := by simpa using h2
    have hkeyf : ∀ e', es[j]? = some e' → ({ e' with key := key, val := val } : MapEntry).key = e'.key := fun e' he' => by rw [hj] at he'; cases he'; exact h3.symm
    refine ⟨.map (es.modify j (fun e' => { e' with key := key, val := val })) clock, _, ?_, .inr ⟨j, e0.val, by rw [List.getElem?_map, h2]; simp [pairOf, h3], rfl⟩, es.modify j (fun e' => { e' with key := key, val := val }), clock, setBlock_heap hlt, stamped_modify hs _ _ (fun _ _ => rfl) (fun e' _ he' => hkeyf e' he'), fun x hx => ?_, ?_⟩
    · simp [Instr.mapUpdate, run_underlying ht, MapKept.run_getObj_map hb, K.check w false hkey, h1, hj, h3, K.stays w hkey, MapKept.run_setObj_map _ hb, Result.andThen, setBlock]
    · rcases MapFrom.mem_modify hx with hx | ⟨e', _, rfl⟩
      · exact hk x hx
      · exact ⟨_, hkey⟩
    · rw [Array.toList_modify, modify_eq_set _ _ _ _ h2, List.map_set]; rfl
theorem GetL.one {key z v v' : Value} (hp : l.Pairwise (fun p q => p.1 ≠ q.1)) (h : GetL l key z v) (h' : GetL l key z v') : v = v' := by
  rcases h with ⟨h1, rfl⟩ | h1 <;> rcases h' with ⟨h2, rfl⟩ | h2
  · rfl
  · exact absurd rfl (h1 _ h2)
  · exact absurd rfl (h2 _ h1)
  · obtain ⟨i, hi, e1⟩ := List.getElem_of_mem h1
    obtain ⟨j, hj, e2⟩ := List.getElem_of_mem h2
    have hp := List.pairwise_iff_getElem.1 hp
    rcases Nat.lt_trichotomy i j with c | c | c
    · exact absurd (by rw [e1, e2]) (hp i j hi hj c)
    · subst c; rw [e1] at e2; injection e2
    · exact absurd (by rw [e1, e2]) (hp j i hj hi c)
/-- 'm[key] op= val': what is there is looked up, the entry is taken, and stored; the look may come behind the taking -/
theorem MapIs.entry {t e : TypeId} (h : MapIs P k w b l) (K : KeyLaw P k) (ht : P.underlying t = some (.map k e)) {z : Value} (hz : ∀ u : World, (zeroValue e).run P u = .ok z u) (hl : l.length ≤ maxLen) {key : Value} {kl : Lit} (hkey : keyOf P k key = some kl) :
    ∃ (v0 : Value) (st : Nat) (o : Obj), GetL l key z v0 ∧ (∀ w' : World, w'.heap[b]? = w.heap[b]? → (Instr.lookup t (.map (some b)) key false).run P w' = .ok v0 w') ∧
      (∀ w' : World, w'.heap[b]? = w.heap[b]? → (Instr.mapEntry t (.map (some b)) key).run P w' = .ok (.tuple #[v0, .int .i64 st]) (setBlock w' b o)) ∧
      (∀ w' : World, w'.heap[b]? = some o → (Instr.lookup t (.map (some b)) key false).run P w' = .ok v0 w') ∧
      ∀ val, ∃ o' l', (∀ w2 : World, w2.heap[b]? = some o → (Instr.entryStore t (.map (some b)) (.int .i64 st) val).run P w2 = .ok () (setBlock w2 b o')) ∧ PutL l key val l' ∧ ∀ w2 : World, b < w2.heap.size → MapIs P k (setBlock w2 b o') b l' := by
  have hlt := h.lt
  have hput := fun val => h.put (val := val) K ht hkey
  obtain ⟨v1, hget, hlook⟩ := h.look K ht hz hkey
  have hap := h.apart
  obtain ⟨es, clock, hb, hs, hk, rfl⟩ := h
  have F : WideElems.Fit (H := Unit) P k (fun _ => some (.nil, [])) es clock := ⟨by simpa using hl, hs, fun x hx => by obtain ⟨kl', hkl⟩ := hk x hx; exact ⟨_, WideElems.rd_mk (yv := (.nil, [])) hkl rfl⟩⟩
  have hbw : ∀ w' : World, w'.heap[b]? = w.heap[b]? → ∃ (v0 : Value) (st : Nat) (es1 : Array MapEntry) (c1 : Nat), (Instr.mapEntry t (.map (some b)) key).run P w' = .ok (.tuple #[v0, .int .i64 st]) (setBlock w' b (.map es1 c1)) ∧ _ := fun w' hw' =>
    WideElems.entry_then_store (H := Unit) (R := fun _ => some (.nil, [])) (es := es) (clock := clock) (w := w') K ht hz (hw'.trans hb) F hkey
  rcases K.find w hkey es.toList hk with ⟨h1, h2⟩ | ⟨j, e0, h1, h2, h3⟩
  · have e1 : v1 = z := GetL.one hap hget (.inl ⟨fun p hp => by obtain ⟨x, hx, rfl⟩ := List.mem_map.1 hp; exact h2 x hx, rfl⟩)
    subst e1
    have hrun : ∀ w' : World, w'.heap[b]? = w.heap[b]? → (Instr.mapEntry t (.map (some b)) key).run P w' = .ok (.tuple #[v1, .int .i64 clock]) (setBlock w' b (.map (es.push ⟨key, v1, clock⟩) (clock + 1))) := fun w' hw' => by
      have hb' := hw'.trans hb
      rcases K.find w' hkey es.toList hk with ⟨g1, g2⟩ | ⟨j, e0, g1, g2, g3⟩
      · simp [Instr.mapEntry, run_underlying ht, MapKept.run_getObj_map hb', K.check w' false hkey, g1, hz, MapKept.run_setObj_map _ hb', Result.andThen, setBlock, goInt]
      · exact absurd g3 (h2 e0 (List.mem_of_getElem? g2))
    refine ⟨v1, clock, _, hget, hlook, hrun, fun w' hw' => ?_, fun val => ?_⟩
    · have hm : MapIs P k w' b ((es.push ⟨key, v1, clock⟩).toList.map pairOf) := ⟨_, _, hw', stamped_push hs h2, fun x hx => by
        simp only [Array.toList_push, List.mem_append, List.mem_singleton] at hx
        rcases hx with hx | rfl
        · exact hk x hx
        · exact ⟨_, hkey⟩, rfl⟩
      obtain ⟨v2, hg2, hl2⟩ := hm.look K ht hz hkey
      have := GetL.one hm.apart hg2 (v' := v1) (.inr (by simp [pairOf]))
      subst this
      exact hl2 w' rfl
    · obtain ⟨o', l', p1, p2, p3⟩ := hput val
      obtain ⟨v0, st, es1, c1, g1, _, g3⟩ := hbw w rfl
      rw [hrun w rfl] at g1
      simp only [Result.ok.injEq, Value.tuple.injEq, Array.mk.injEq, List.cons.injEq, Value.int.injEq, true_and, and_true] at g1
      obtain ⟨⟨rfl, e2⟩, e3⟩ := g1
      have e3 := congrArg (fun w : World => w.heap[b]?) e3
      simp only [setBlock_heap hlt, Option.some.injEq] at e3
      refine ⟨o', l', fun w2 hw2 => ?_, p2, fun w2 hw2 => ?_⟩
      · obtain ⟨es', c', q1, q2⟩ := g3 w2 val (by rw [hw2, e3])
        rw [q2] at p1
        injection p1 with _ p1
        have := congrArg (fun w : World => w.heap[b]?) p1
        simp only [setBlock_heap hlt, Option.some.injEq] at this
        rw [← this, e2]; exact q1
      · obtain ⟨es', c', q1, q2⟩ := p3
        rw [setBlock_heap hlt] at q1
        exact ⟨es', c', (setBlock_heap hw2).trans q1, q2⟩
  · have hm0 : (key, e0.val) ∈ es.toList.map pairOf := List.mem_map.2 ⟨e0, List.mem_of_getElem? h2, by rw [pairOf, h3]⟩
    have e1 : v1 = e0.val := GetL.one hap hget (.inr hm0)
    subst e1
    have hd : es.toList.Pairwise (fun x y => x.key ≠ y.key) := ((stamped_iff es clock).1 hs).2.2
    have hsame : es.modify j (fun e => { e with key := key }) = es := by
      apply Array.ext'
      rw [Array.toList_modify, modify_eq_set _ _ _ _ h2]
      have : ({ e0 with key := key } : MapEntry) = e0 := by rw [← h3]
      rw [this]
      exact WideElems.set_self _ _ _ h2
    have hrun : ∀ w' : World, w'.heap[b]? = w.heap[b]? → (Instr.mapEntry t (.map (some b)) key).run P w' = .ok (.tuple #[e0.val, .int .i64 e0.born]) (setBlock w' b (.map es clock)) := fun w' hw' => by
      have hb' := hw'.trans hb
      rcases K.find w' hkey es.toList hk with ⟨g1, g2⟩ | ⟨j', e1, g1, g2, g3⟩
      · exact absurd h3 (g2 e0 (List.mem_of_getElem? h2))
      · have he : e1 = e0 ∧ j' = j := by
          obtain ⟨hj, rfl⟩ := List.getElem?_eq_some_iff.1 h2
          obtain ⟨hj', rfl⟩ := List.getElem?_eq_some_iff.1 g2
          have hp := List.pairwise_iff_getElem.1 hd
          rcases Nat.lt_trichotomy j j' with c | c | c
          · exact absurd (h3.trans g3.symm) (hp j j' hj hj' c)
          · subst c; exact ⟨rfl, rfl⟩
          · exact absurd (g3.trans h3.symm) (hp j' j hj' hj c)
        obtain ⟨rfl, rfl⟩ := he
        have hj : es[j']? = some e1 := by simpa using h2
        simp [Instr.mapEntry, run_underlying ht, MapKept.run_getObj_map hb', K.check w' false hkey, g1, hj, h3, K.stays w' hkey, hsame, MapKept.run_setObj_map _ hb', Result.andThen, setBlock, goInt]
    refine ⟨e0.val, e0.born, _, hget, hlook, hrun, fun w' hw' => hlook w' (hw'.trans hb.symm), fun val => ?_⟩
    obtain ⟨o', l', p1, p2, p3⟩ := hput val
    obtain ⟨v0, st, es1, c1, g1, _, g3⟩ := hbw w rfl
    rw [hrun w rfl] at g1
    simp only [Result.ok.injEq, Value.tuple.injEq, Array.mk.injEq, List.cons.injEq, Value.int.injEq, true_and, and_true] at g1
    obtain ⟨⟨rfl, e2⟩, e3⟩ := g1
    have e3 := congrArg (fun w : World => w.heap[b]?) e3
    simp only [setBlock_heap hlt, Option.some.injEq] at e3
    refine ⟨o', l', fun w2 hw2 => ?_, p2, fun w2 hw2 => ?_⟩
    · obtain ⟨es', c', q1, q2⟩ := g3 w2 val (by rw [hw2, e3])
      rw [q2] at p1
      injection p1 with _ p1
      have := congrArg (fun w : World => w.heap[b]?) p1
      simp only [setBlock_heap hlt, Option.some.injEq] at this
      rw [← this, e2]; exact q1
    · obtain ⟨es', c', q1, q2⟩ := p3
      rw [setBlock_heap hlt] at q1
      exact ⟨es', c', (setBlock_heap hw2).trans q1, q2⟩
theorem MapIs.len {t e ty : TypeId} (h : MapIs P k w b l) (ht : P.underlying t = some (.map k e)) : (Builtin.len_ #[t] ty #[.map (some b)]).run P w = .ok (.int .i64 l.length) w := by
  obtain ⟨es, clock, hb, _, _, rfl⟩ := h
  simp [Builtin.len_, run_underlying ht, MapKept.run_getObj_map hb, Result.andThen, goInt]
theorem PutL.len {key val : Value} {l' : List (Value × Value)} (h : PutL l key val l') : l'.length = l.length ∨ l'.length = l.length + 1 := by
  rcases h with ⟨_, rfl⟩ | ⟨j, v0, _, rfl⟩ <;> simp
theorem PutL.keys {key val : Value} {l' : List (Value × Value)} (h : PutL l key val l') : (key ∉ l.map (·.1) ∧ l'.map (·.1) = l.map (·.1) ++ [key]) ∨ (key ∈ l.map (·.1) ∧ l'.map (·.1) = l.map (·.1)) := by
  rcases h with ⟨h1, rfl⟩ | ⟨j, v0, h1, rfl⟩
  · refine .inl ⟨fun hm => ?_, by simp⟩
    obtain ⟨p, hp, he⟩ := List.mem_map.1 hm
    exact h1 p hp he
  · refine .inr ⟨List.mem_map.2 ⟨_, List.mem_of_getElem? h1, rfl⟩, ?_⟩
    rw [List.map_set]
    apply List.ext_getElem?
    intro i
    rw [List.getElem?_set]
    split
    · rename_i hi; subst hi
      rw [List.getElem?_map, h1]
      split
      · rfl
      · rename_i hh; rw [List.length_map] at hh; exact absurd (List.getElem?_eq_some_iff.1 h1).1 hh
    · rfl
end

/-! A struct or an array of scalars is a key. -/
def keyLoop (P : Program) (go : TypeId → Option (List Sc)) : List Field → Nat → Option (List Sc)
  | [], _ => some []
  | f :: fs, off => if f.offset = off ∧ (f.name != "_") = true then (go f.type).bind fun ks => if P.cellsOf f.type = ks.length then (keyLoop P go fs (off + ks.length)).map (ks ++ ·) else none else none
def flatK (P : Program) : Nat → TypeId → Option (List Sc)
  | 0, _ => none
  | n + 1, t =>
    match P.underlying t with
    | some .bool => some [.bool]
    | some (.int k) => some [.int k]
    | some .string => some [.str]
    | some (.struct fs) => (keyLoop P (flatK P n) fs.toList 0).bind fun ks => if P.cellsOf t = ks.length then some ks else none
    | some (.array m e) => (flatK P n e).bind fun ks => if P.cellsOf e = ks.length ∧ P.cellsOf t = m * ks.length then some (List.replicate m ks).flatten else none
    | _ => none
theorem mapM_some {α β : Type} (f : α → Option β) : ∀ l : List α, (∀ x ∈ l, ∃ y, f x = some y) → ∃ ys, l.mapM f = some ys
  | [], _ => ⟨[], by simp⟩
  | x :: l, h => by
    obtain ⟨y, hy⟩ := h x (by simp)
    obtain ⟨ys, hys⟩ := mapM_some f l (fun z hz => h z (by simp [hz]))
    exact ⟨y :: ys, by simp [List.mapM_cons, hy, hys]⟩
theorem FlatOk.parts : ∀ {ks ks' : List Sc} {cs : List Value}, FlatOk (ks ++ ks') cs → FlatOk ks (cs.take ks.length) ∧ FlatOk ks' (cs.drop ks.length)
  | [], _, cs, h => ⟨trivial, by simpa using h⟩
  | k :: ks, ks', [], h => h.elim
  | k :: ks, ks', v :: vs, h => by
    obtain ⟨h1, h2⟩ := FlatOk.parts (ks := ks) (ks' := ks') h.2
    exact ⟨⟨h.1, h1⟩, h2⟩
theorem keyLoop_ok {P : Program} (go : TypeId → Option (List Sc)) : ∀ (fs : List Field) (off : Nat) (ks : List Sc) (cs : List Value), keyLoop P go fs off = some ks → FlatOk ks (cs.drop off) →
    ∀ f ∈ fs, f.name ≠ "_" ∧ ∃ ks', go f.type = some ks' ∧ P.cellsOf f.type = ks'.length ∧ FlatOk ks' ((cs.drop f.offset).take ks'.length)
  | [], _, _, _, _, _, f, hf => by cases hf
  | g :: fs, off, ks, cs, h, hok, f, hf => by
    simp only [keyLoop] at h
    split at h
    case isFalse => cases h
    case isTrue ho =>
      obtain ⟨ho, hn⟩ := ho
      obtain ⟨k1, h1, h2⟩ := Option.bind_eq_some_iff.1 h
      split at h2
      case isFalse => cases h2
      case isTrue hc =>
        obtain ⟨k2, h3, rfl⟩ := Option.map_eq_some_iff.1 h2
        obtain ⟨o1, o2⟩ := FlatOk.parts hok
        rw [List.drop_drop] at o2
        rcases List.mem_cons.1 hf with rfl | hf
        · exact ⟨by simpa using hn, k1, h1, hc, by rw [ho]; exact o1⟩
        · exact keyLoop_ok go fs (off + k1.length) k2 cs h3 o2 f hf
theorem flatRep_part {ks : List Sc} : ∀ (m : Nat) (cs : List Value), FlatOk (List.replicate m ks).flatten cs → ∀ i, i < m → FlatOk ks ((cs.drop (i * ks.length)).take ks.length)
  | 0, _, _, i, hi => by omega
  | m + 1, cs, h, i, hi => by
    rw [List.replicate_succ, List.flatten_cons] at h
    obtain ⟨h1, h2⟩ := FlatOk.parts h
    cases i with
    | zero => simpa using h1
    | succ i =>
      have := flatRep_part m _ h2 i (by omega)
      rwa [List.drop_drop, show ks.length + i * ks.length = (i + 1) * ks.length by rw [Nat.succ_mul]; omega] at this
theorem flatK_lits {P : Program} : ∀ (n : Nat) (t : TypeId) (ks : List Sc) (cs : List Value), flatK P n t = some ks → FlatOk ks cs → ∀ m, n ≤ m → ∃ ls, P.keyLits m t cs = some ls := by
  intro n
  induction n with
  | zero => intro t ks cs h; simp [flatK] at h
  | succ n ih =>
    intro t ks cs h hok m hm
    obtain ⟨m, rfl⟩ : ∃ m', m = m' + 1 := ⟨m - 1, by omega⟩
    simp only [flatK] at h
    split at h
    · rename_i hu
      obtain rfl : [Sc.bool] = ks := by injection h
      match cs, hok with
      | [v], ⟨⟨b, hb⟩, _⟩ => subst hb; exact ⟨[.bool b], by simp [Program.keyLits, hu]⟩
    · rename_i k hu
      obtain rfl : [Sc.int k] = ks := by injection h
      match cs, hok with
      | [v], ⟨⟨z, hz, hw⟩, _⟩ => subst hz; exact ⟨[.int k z], by simp [Program.keyLits, hu, hw]⟩
    · rename_i hu
      obtain rfl : [Sc.str] = ks := by injection h
      match cs, hok with
      | [v], ⟨⟨z, hz, hw⟩, _⟩ => subst hz; exact ⟨[.string z.data.toList], by simp [Program.keyLits, hu, hw]⟩
    · rename_i fs hu
      obtain ⟨ks', h1, h2⟩ := Option.bind_eq_some_iff.1 h
      split at h2
      case isFalse => cases h2
      case isTrue hc =>
        simp only [Option.some.injEq] at h2
        subst h2
        have hl := hok.len
        have hf := keyLoop_ok (P := P) (flatK P n) fs.toList 0 ks' cs h1 (by simpa using hok)
        have hall : fs.all (·.name != "_") = true := Array.all_eq_true_iff_forall_mem.2 fun f hf' => by simpa using (hf f (by simpa using hf')).1
        obtain ⟨ys, hys⟩ := mapM_some (fun f : Field => P.keyLits m f.type ((cs.drop f.offset).take (P.cellsOf f.type))) fs.toList (fun f hf' => by
          obtain ⟨_, k1, g1, g2, g3⟩ := hf f hf'
          rw [g2]; exact ih f.type k1 _ g1 g3 m (by omega))
        refine ⟨ys.flatten, ?_⟩
        unfold Program.keyLits
        rw [hu]
        simp only
        rw [if_pos ⟨by rw [hl, hc], hall⟩, hys]; rfl
    · rename_i mm e hu
      obtain ⟨ks', h1, h2⟩ := Option.bind_eq_some_iff.1 h
      split at h2
      case isFalse => cases h2
      case isTrue hc =>
        simp only [Option.some.injEq] at h2
        subst h2
        obtain ⟨hce, hct⟩ := hc
        have hl := hok.len
        obtain ⟨ys, hys⟩ := mapM_some (fun i : Nat => P.keyLits m e ((cs.drop (i * P.cellsOf e)).take (P.cellsOf e))) (List.range mm) (fun i hi => by
          rw [hce]
          exact ih e ks' _ h1 (flatRep_part mm cs hok i (List.mem_range.1 hi)) m (by omega))
        refine ⟨ys.flatten, ?_⟩
        unfold Program.keyLits
        rw [hu]
        simp only
        rw [if_pos (by rw [hl, hct, List.length_flatten]; simp), hys]; rfl
    · cases h
theorem keyOf_flat {P : Program} {k : TypeId} {ks : List Sc} (hf : flatK P 6 k = some ks) (hwide : (match P.underlying k with | some (.array _ _) | some (.struct _) => true | _ => false) = true) (hk : P.keyType k = true) (hc : P.cellsOf k = ks.length) (hs : 6 ≤ P.types.size)
    {cs : List Value} (hok : FlatOk ks cs) : ∃ kl, keyOf P k (.agg cs.toArray) = some kl := by
  obtain ⟨ls, hls⟩ := flatK_lits 6 k ks cs hf hok (P.types.size + 1) (by omega)
  refine ⟨.string (keyBytes ls), ?_⟩
  unfold keyOf
  split at hwide
  · rename_i hu; rw [hu]; simp [hk, Value.formed, hu, hc, hok.len, Value.cells, hls]
  · rename_i hu; rw [hu]; simp [hk, Value.formed, hu, hc, hok.len, Value.cells, hls]
  · cases hwide
end Go.Proofs.YtmfdggolnfoniaaDoor
