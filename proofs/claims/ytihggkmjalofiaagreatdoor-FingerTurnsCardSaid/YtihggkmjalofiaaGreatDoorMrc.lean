/- Texts of general use, one behind another. -/
import Derived.Test.YtihggkmjalofiaaGreatDoorGen
import Derived.Maps.Range

/- A map's block that is ranged over, by its entries: the start, the step, the taking out of an entry. No program in sight but as a variable. -/
namespace Go.Proofs.YtihggkmjalofiaaGreatDoor
open Go.RowKit Go.MapKept
open Go.ChangeMaps (setBlock modify_eq_set)
open Go.WideMaps (KeyLaw)

/-- block r goes over the map in block b, whose entries are l; those of todo are still to come -/
def RangeIs (P : Program) (k : TypeId) (w : World) (b r : Nat) (l todo : List (Value × Value)) : Prop :=
  ∃ es clock since seen c0, w.heap[b]? = some (.map es clock) ∧ Stamped es clock ∧ (∀ e ∈ es.toList, ∃ kl, keyOf P k e.key = some kl) ∧ l = es.toList.map pairOf ∧
    w.heap[r]? = some (.mapIter (some b) since seen c0) ∧ (∀ x ∈ es.toList, x.born < since) ∧ since ≤ c0 ∧ since ≤ clock ∧ todo = (leftOf es seen).toList.map pairOf

theorem left_perm {es : Array MapEntry} {seen : Array Nat} {e : MapEntry} (hn : (es.toList.map (·.born)).Nodup) (he : e ∈ (leftOf es seen).toList) : (leftOf es seen).toList.Perm (e :: (leftOf es (seen.push e.born)).toList) := by
  have e1 : (leftOf es (seen.push e.born)).toList = (leftOf es seen).toList.filter (fun x => x.born != e.born) := by
    unfold leftOf
    rw [Array.toList_filter, Array.toList_filter, List.filter_filter]
    refine List.filter_congr fun x _ => ?_
    rw [contains_push]
    cases seen.contains x.born <;> cases hc : (x.born == e.born) <;> simp [bne, hc]
  rw [e1]
  have hn' : ((leftOf es seen).toList.map (·.born)).Nodup := by
    have hs : (leftOf es seen).toList.Sublist es.toList := by
      unfold leftOf; rw [Array.toList_filter]; exact List.filter_sublist
    exact (hs.map _).nodup hn
  generalize (leftOf es seen).toList = L at *
  clear e1 hn
  induction L with
  | nil => cases he
  | cons x L ih =>
    have hc := List.nodup_cons.1 (show (x.born :: L.map (·.born)).Nodup from hn')
    rcases List.mem_cons.1 he with rfl | h
    · have : L.filter (fun y => y.born != e.born) = L := List.filter_eq_self.2 fun y hy => by
        simp only [bne_iff_ne, ne_eq]
        exact fun h => hc.1 (h ▸ List.mem_map.2 ⟨y, hy, rfl⟩)
      simp [this]
    · have hx : (x.born != e.born) = true := by
        simp only [bne_iff_ne, ne_eq]
        exact fun h' => hc.1 (h' ▸ List.mem_map.2 ⟨e, h, rfl⟩)
      rw [List.filter_cons, if_pos hx]
      exact ((ih h hc.2).cons x).trans (List.Perm.swap e x _)

section
variable {P : Program} {k : TypeId} {w w' : World} {b r : Nat} {l todo : List (Value × Value)}
theorem RangeIs.map (h : RangeIs P k w b r l todo) : MapIs P k w b l := by
  obtain ⟨es, clock, _, _, _, hb, hs, hk, hl, _⟩ := h
  exact ⟨es, clock, hb, hs, hk, hl⟩
theorem RangeIs.lt (h : RangeIs P k w b r l todo) : r < w.heap.size := by
  obtain ⟨es, clock, _, _, _, _, _, _, _, hr, _⟩ := h
  exact (Array.getElem?_eq_some_iff.1 hr).1
theorem RangeIs.keep (h : RangeIs P k w b r l todo) (h1 : w'.heap[b]? = w.heap[b]?) (h2 : w'.heap[r]? = w.heap[r]?) : RangeIs P k w' b r l todo := by
  obtain ⟨es, clock, since, seen, c0, hb, hs, hk, hl, hr, rest⟩ := h
  exact ⟨es, clock, since, seen, c0, h1.trans hb, hs, hk, hl, h2.trans hr, rest⟩
theorem RangeIs.ne (h : RangeIs P k w b r l todo) : r ≠ b := by
  obtain ⟨es, clock, since, seen, c0, hb, _, _, _, hr, _⟩ := h
  rintro rfl
  rw [hb] at hr; cases hr
theorem RangeIs.left_eq (h : RangeIs P k w b r l todo) : w.rangeLeft b r = todo.length := by
  obtain ⟨es, clock, since, seen, c0, hb, _, _, _, hr, _, _, _, rfl⟩ := h
  simp only [World.rangeLeft, hb, hr, List.length_map, Array.length_toList]
/-- 'range m' -/
theorem MapIs.range {t e : TypeId} (h : MapIs P k w b l) (ht : P.underlying t = some (.map k e)) :
    ∃ o, (Instr.range t (.map (some b))).run P w = .ok (.pointer (some ⟨w.heap.size, 0, none⟩)) (w.alloc o) ∧ RangeIs P k (w.alloc o) b w.heap.size l l := by
  have hlt := h.lt
  obtain ⟨es, clock, hb, hs, hk, rfl⟩ := h
  refine ⟨_, run_range_map w t k e b es clock ht hb, es, clock, clock, #[], clock, (Below.heap_alloc w _ b hlt).trans hb, hs, hk, rfl, heap_alloc_new w _, hs.1, Nat.le_refl _, Nat.le_refl _, ?_⟩
  have : leftOf es #[] = es := by unfold leftOf; exact Array.filter_eq_self.2 fun x _ => by simp
  rw [this]
/-- the step: nothing is left, or one of those that are left comes -/
theorem RangeIs.next (h : RangeIs P k w b r l todo) (ty : TypeId) :
    (todo = [] ∧ (Instr.next (.pointer (some ⟨r, 0, none⟩)) false ty).run P w = .ok (.tuple #[.bool false]) w) ∨
    ∃ p todo' w' o, todo.Perm (p :: todo') ∧ p ∈ l ∧ (w' = w ∨ w' = w.drew) ∧ (Instr.next (.pointer (some ⟨r, 0, none⟩)) false ty).run P w = .ok (.tuple #[.bool true, p.1, p.2]) (setBlock w' r o) ∧
      RangeIs P k (setBlock w' r o) b r l todo' ∧ ∀ w2 : World, w2.heap[b]? = w.heap[b]? → w2.heap[r]? = some o → (Instr.entry (.pointer (some ⟨r, 0, none⟩))).run P w2 = .ok (.tuple #[p.1, p.2]) w2 := by
  have hne := h.ne
  have hrlt := h.lt
  obtain ⟨es, clock, since, seen, c0, hb, hs, hk, rfl, hr, hold, hsc, hsk, rfl⟩ := h
  have hst := (stamped_iff es clock).1 hs
  rcases run_next_at (P := P) w ty r b since c0 seen es clock hr hb hold hsc with ⟨h0, hrun⟩ | ⟨e, he, w1, hal, hrun⟩
  · exact .inl ⟨by rw [Array.eq_empty_of_size_eq_zero h0]; rfl, hrun⟩
  · obtain ⟨hem, hes⟩ := mem_left he
    have hb1 : w1.heap[b]? = some (.map es clock) := by rcases hal with rfl | rfl <;> exact hb
    have hsz : r < w1.heap.size := by rcases hal with rfl | rfl <;> exact hrlt
    refine .inr ⟨pairOf e, (leftOf es (seen.push e.born)).toList.map pairOf, w1, _, (left_perm hst.2.1 he).map pairOf, List.mem_map.2 ⟨e, hem, rfl⟩, hal, hrun,
      ⟨es, clock, since, seen.push e.born, clock, (setBlock_other (Ne.symm hne)).trans hb1, hs, hk, rfl, setBlock_heap hsz, hold, hsk, hsk, rfl⟩, fun w2 h1 h2 => ?_⟩
    exact run_entry_at w2 r b since seen es clock e h2 (h1.trans hb) hem hst.2.1
/-- 'delete(m, key)' -/
theorem MapIs.drop {t e ty : TypeId} (h : MapIs P k w b l) (K : KeyLaw P k) (ht : P.underlying t = some (.map k e)) {key : Value} {kl : Lit} (hkey : keyOf P k key = some kl) :
    ∃ o l', (Builtin.delete_ #[t, k] ty #[.map (some b), key]).run P w = .ok (.tuple #[]) (setBlock w b o) ∧ MapIs P k (setBlock w b o) b l' ∧ l'.Sublist l ∧ ∀ p, p ∈ l' ↔ p ∈ l ∧ p.1 ≠ key := by
  have hlt := h.lt
  obtain ⟨es, clock, hb, hs, hk, rfl⟩ := h
  rcases K.find w hkey es.toList hk with ⟨h1, h2⟩ | ⟨j, e0, h1, h2, h3⟩
  · refine ⟨.map es clock, _, ?_, ⟨es, clock, setBlock_heap hlt, hs, hk, rfl⟩, List.Sublist.refl _, fun p => ⟨fun hp => ⟨hp, ?_⟩, fun hp => hp.1⟩⟩
    · simp [Builtin.delete_, run_underlying ht, MapKept.run_getObj_map hb, K.check w _ hkey, h1, MapKept.run_setObj_map _ hb, Result.andThen, setBlock]
    · obtain ⟨x, hx, rfl⟩ := List.mem_map.1 hp; exact h2 x hx
  · have hjl : j < es.toList.length := (List.getElem?_eq_some_iff.1 h2).1
    have hjs : j < es.size := by simpa using hjl
    have hsub : (es.eraseIdxIfInBounds j).toList = es.toList.eraseIdx j := by
      unfold Array.eraseIdxIfInBounds
      rw [dif_pos hjs]
      simp
    have hsl : (es.eraseIdxIfInBounds j).toList.Sublist es.toList := by rw [hsub]; exact List.eraseIdx_sublist _ _
    have hd : es.toList.Pairwise (fun x y => x.key ≠ y.key) := ((stamped_iff es clock).1 hs).2.2
    refine ⟨.map (es.eraseIdxIfInBounds j) clock, _, ?_, ⟨_, clock, setBlock_heap hlt, stamped_erase hs j, fun x hx => hk x (hsl.subset hx), rfl⟩, hsl.map _, fun p => ?_⟩
    · simp [Builtin.delete_, run_underlying ht, MapKept.run_getObj_map hb, K.check w _ hkey, h1, MapKept.run_setObj_map _ hb, Result.andThen, setBlock]
    · rw [hsub, List.mem_map, List.mem_map]
      have hother : ∀ x, x ∈ es.toList.eraseIdx j ↔ x ∈ es.toList ∧ x.key ≠ key := fun x => by
        rw [List.mem_eraseIdx_iff_getElem?]
        constructor
        · rintro ⟨i, hne, hi⟩
          refine ⟨List.mem_of_getElem? hi, fun e1 => ?_⟩
          obtain ⟨hj, rfl⟩ := List.getElem?_eq_some_iff.1 h2
          obtain ⟨hi', rfl⟩ := List.getElem?_eq_some_iff.1 hi
          have hp := List.pairwise_iff_getElem.1 hd
          rcases Nat.lt_trichotomy i j with c | c | c
          · exact hp i j hi' hj c (e1.trans h3.symm)
          · exact hne c
          · exact hp j i hj hi' c (h3.trans e1.symm)
        · rintro ⟨hx, hne⟩
          obtain ⟨i, hi⟩ := List.getElem?_of_mem hx
          refine ⟨i, fun e1 => hne ?_, hi⟩
          rw [e1, h2] at hi
          cases hi
          exact h3
      constructor
      · rintro ⟨x, hx, rfl⟩
        obtain ⟨a, c⟩ := (hother x).1 hx
        exact ⟨⟨x, a, rfl⟩, c⟩
      · rintro ⟨⟨x, hx, rfl⟩, c⟩
        exact ⟨x, (hother x).2 ⟨hx, c⟩, rfl⟩
end

section
variable {P : Program} {ops : Array Oper} {rest : List Oper} {o : Oper} {a : Act} {Q : Exit → Act → World → Prop} {k : TypeId} {w : World} {b r : Nat} {l todo : List (Value × Value)}
/-- 'range m', in a walk -/
theorem wpList_rangeIs (hg : o.guard = none) (m : Operand) (t : TypeId) (hop : o.op = Op.range t m) (e : TypeId) (ht : P.underlying t = some (.map k e)) (hm : a.eval m = .map (some b)) (h : MapIs P k w b l)
    (hK : ∀ ob, RangeIs P k (w.alloc ob) b w.heap.size l l → wpList P ops Q rest (a.put o.dst (.pointer (some ⟨w.heap.size, 0, none⟩))) (w.alloc ob)) : wpList P ops Q (o :: rest) a w := by
  refine wpList_plain hg fun K' hK' => ?_
  obtain ⟨ob, hrun, h1⟩ := h.range ht
  unfold Oper.wp
  simp [execOp, hop, hm, hrun, Result.andThen]
  exact hK' _ _ (hK ob h1)
/-- the step, in a walk -/
theorem wpList_nextIs (hg : o.guard = none) (it : Operand) (hop : o.op = Op.next it false) (hit : a.eval it = .pointer (some ⟨r, 0, none⟩)) (h : RangeIs P k w b r l todo)
    (hDone : todo = [] → wpList P ops Q rest (a.put o.dst (.tuple #[.bool false])) w)
    (hMore : ∀ p todo' w', todo.Perm (p :: todo') → p ∈ l → RangeIs P k w' b r l todo' → (∀ B, B ≤ r → Below B w w') → (∀ i, i ≠ r → w'.heap[i]? = w.heap[i]?) → w'.heap.size = w.heap.size →
      (Instr.entry (.pointer (some ⟨r, 0, none⟩))).run P w' = .ok (.tuple #[p.1, p.2]) w' → wpList P ops Q rest (a.put o.dst (.tuple #[.bool true, p.1, p.2])) w') : wpList P ops Q (o :: rest) a w := by
  refine wpList_plain hg fun K' hK' => ?_
  unfold Oper.wp
  have hrlt := h.lt
  have hne := h.ne
  rcases h.next o.type with ⟨h0, hrun⟩ | ⟨p, todo', w1, ob, hp, hpl, hal, hrun, hrg, hen⟩
  · simp [execOp, hop, hit, hrun, Result.andThen]
    exact hK' _ _ (hDone h0)
  · simp [execOp, hop, hit, hrun, Result.andThen]
    have hoth : ∀ i, i ≠ r → (setBlock w1 r ob).heap[i]? = w.heap[i]? := fun i hi => (setBlock_other hi).trans (by rcases hal with rfl | rfl <;> rfl)
    have hsz : (setBlock w1 r ob).heap.size = w.heap.size := by rcases hal with rfl | rfl <;> simp [setBlock]
    refine hK' _ _ (hMore p todo' _ hp hpl hrg (fun B hB => ?_) hoth hsz (hen _ (hoth b (Ne.symm hne)) (setBlock_heap (by rcases hal with rfl | rfl <;> exact hrlt))))
    refine setBlock_below ?_ hB ob
    rcases hal with rfl | rfl
    · exact Below.refl _ _
    · exact (Below.refl _ _).drew
end
end Go.Proofs.YtihggkmjalofiaaGreatDoor

/- A call of a function value. No program in sight but as a variable. -/
namespace Go.Proofs.YtihggkmjalofiaaGreatDoor
open Go.RowKit

/-- a call of a function value whose function is not known but by its contract -/
theorem wpList_calledV {P : Program} {ops : Array Oper} {rest : List Oper} {a : Act} {w : World} {Q : Exit → Act → World → Prop} {d : Option Tmp} {ty : TypeId} {pos : String} {after : Array Edge} {x y : Operand} {ts : Array TypeId} {f : FuncId} {caps : Array Value} {yv : Value} {R : Ending → World → Prop}
    (hf : ∀ args w, (callFunc f args).run P w = .ok (.enter f args) w) (hx : a.eval x = .func (.func f) #[] caps) (hy : a.eval y = yv) (hc : Calls P f (#[yv] ++ caps) w R)
    (h : ∀ e w', R e w' → ∃ v, e = .returned v ∧ wpList P ops Q rest (a.put d v) w') : wpList P ops Q (⟨d, .call { callee := .value x, args := #[y], argTypes := ts }, ty, pos, after, none⟩ :: rest) a w :=
  wpList_plain rfl fun K hK => by
    have e1 : execOp a.eval ⟨d, .call { callee := .value x, args := #[y], argTypes := ts }, ty, pos, after, none⟩ = callFunc f (#[yv] ++ caps) := by
      unfold execOp resolve
      simp [hx, hy, Deferred.ofValue, invoke]
    unfold Oper.wp
    rw [e1, hf]
    refine hc.mono fun e w' hr => ?_
    obtain ⟨v, rfl, hk⟩ := h e w' hr
    exact hK _ _ hk
end Go.Proofs.YtihggkmjalofiaaGreatDoor
