/- Texts of general use, one behind another. -/
import Derived.Test.YtihggkmjalofiaaGreatDoorRows
import Derived.WalkKit
import Derived.WalkSpells
import Derived.WalkLawsBesides
import Derived.Lib.Hide
import Derived.Lib.Strings
import Derived.Deep.QuietTactic
import Derived.BigQuiet
import Derived.PlainAid
import Derived.Handy
import Derived.ProofKit
import Derived.OpenShut
import Derived.Deep.Slices
import Derived.Deep.AppendLies
import Derived.Deep.Draws
import Derived.Laws.OwnMore
import Derived.Deep.Quiet
import Derived.StillTail
import Derived.OrdersHeld
import Derived.Laws.Tables
import Derived.Maps.OwnSet
import Derived.WideKeyEntry
import Derived.DeepKeys4
import Derived.Deep.MidRow
import Derived.Laws.StructEq
import Derived.Great.BuildSlice
import Derived.Sort.Grow
import Derived.Sort.Statements
import Derived.ShutString
import Derived.ChangeOld
import Derived.Below
import Derived.Carry
import Derived.Laws.IdiomCopy
import Derived.Lib.SliceRun

/- What all parts of this seat share: post-conditions, small facts on texts and numbers; no program in sight. -/
namespace Go.Proofs.YtihggkmjalofiaaGreatDoor
open Go.RowKit

def Ret (w : World) (v : Value) (e : Ending) (w' : World) : Prop := e = .returned v ∧ w = w'
def RetD (w : World) (v : Value) (e : Ending) (w' : World) : Prop := e = .returned v ∧ ∃ n, w' = w.drewN n
def RetB (w : World) (v : Value) (e : Ending) (w' : World) : Prop := e = .returned v ∧ Below w.heap.size w w'
theorem ret_bool {a b : Bool} (h : a = b) : Ending.returned (.bool a) = .returned (.bool b) := by rw [h]
theorem ret_int {k : IntKind} {a b : Int} (h : a = b) : Ending.returned (.int k a) = .returned (.int k b) := by rw [h]

theorem all_snoc_take (l : List UInt8) (p : UInt8 → Bool) (k : Nat) (h : k < l.length) : (l.take (k+1)).all p = ((l.take k).all p && p l[k]) := by
  rw [List.take_succ_eq_append_getElem h, List.all_append]; simp only [List.all_cons, List.all_nil, Bool.and_true]
theorem all_false_of (l : List UInt8) (p : UInt8 → Bool) (k : Nat) (h : k < l.length) (hp : p l[k] = false) : l.all p = false := by
  rw [List.all_eq_false]; exact ⟨l[k], List.getElem_mem h, by simp [hp]⟩
theorem size_of_toList_nil {s : ByteArray} (h : s.toList = []) : s.size = 0 := by
  rw [ByteArray.toList_eq] at h; simpa using congrArg List.length h
theorem isEmpty_toList (s : ByteArray) : s.toList.isEmpty = decide (s.size = 0) := by
  rw [ByteArray.toList_eq, Bool.eq_iff_iff, List.isEmpty_iff, ← List.length_eq_zero_iff]; simp
theorem below_drewN {B : Nat} {a w : World} (h : Below B a w) (n : Nat) : Below B a (w.drewN n) := ⟨h.os, h.tape, h.output, h.size, h.block⟩
theorem ext_trans {a b c : World} (h : Below a.heap.size a b) (k : Below b.heap.size b c) : Below a.heap.size a c := h.trans (k.mono h.size)
/-- a composite literal whose run is known -/
theorem wpList_built {P : Program} {ops : Array Oper} {rest : List Oper} {d : Option Tmp} {ty : TypeId} {pos : String} {after : Array Edge} {a : Act} {w : World} {Q : Exit → Act → World → Prop} {t : TypeId} {parts : Array (Nat × Operand)} {vs : Array (Nat × Value)} {v : Value}
    (hr : (Instr.build t vs).run P w = .ok v w) (hvs : (parts.map fun (i, x) => (i, a.eval x)) = vs)
    (h : wpList P ops Q rest (a.put d v) w) : wpList P ops Q (⟨d, .build t parts, ty, pos, after, none⟩ :: rest) a w :=
  wpList_plain rfl fun _ hK => by
    unfold Oper.wp execOp
    simp only [hvs, Sem.run_bind, hr, Result.andThen_ok]
    exact hK _ _ h
/-- a new variable whose making is known -/
theorem wpList_alloced {P : Program} {ops : Array Oper} {rest : List Oper} {d : Option Tmp} {ty : TypeId} {pos : String} {after : Array Edge} {a : Act} {w w' : World} {Q : Exit → Act → World → Prop} {e : TypeId} {v : Value}
    (hr : (Instr.alloc e true (.tuple #[])).run P w = .ok v w')
    (h : wpList P ops Q rest (a.put d v) w') : wpList P ops Q (⟨d, .alloc e, ty, pos, after, none⟩ :: rest) a w :=
  wpList_plain rfl fun _ hK => by
    unfold Oper.wp execOp
    simp only [Sem.run_bind, hr, Result.andThen_ok]
    exact hK _ _ h
end Go.Proofs.YtihggkmjalofiaaGreatDoor

/- Arguments opened: structs and arrays of scalars by value, slices of such, whatever their number of cells; no program in sight but as a variable. -/
namespace Go.Proofs.YtihggkmjalofiaaGreatDoor
open Go.ChangeShapes Go.WideShapes Go.RowKit Go.Deep

/-- the kinds of cells that hold a scalar -/
inductive Sc where
  | int (k : IntKind) | bool | str
def Sc.ok : Sc → Value → Prop
  | .int k, v => ∃ n, v = .int k n ∧ (Lit.int k n).wf = true
  | .bool, v => ∃ b, v = .bool b
  | .str, v => ∃ s, v = .string s ∧ s.size ≤ maxLen
/-- cells of these kinds, one by one -/
def FlatOk : List Sc → List Value → Prop
  | [], [] => True
  | k :: ks, v :: vs => k.ok v ∧ FlatOk ks vs
  | _, _ => False
theorem FlatOk.len : ∀ {ks : List Sc} {vs : List Value}, FlatOk ks vs → vs.length = ks.length
  | [], [], _ => rfl
  | _ :: ks, _ :: vs, h => by simp [FlatOk.len h.2]
  | [], _ :: _, h => h.elim
  | _ :: _, [], h => h.elim
theorem FlatOk.append : ∀ {ks ks' : List Sc} {vs vs' : List Value}, FlatOk ks vs → FlatOk ks' vs' → FlatOk (ks ++ ks') (vs ++ vs')
  | [], _, [], _, _, h' => h'
  | _ :: _, _, _ :: _, _, h, h' => ⟨h.1, FlatOk.append h.2 h'⟩
  | [], _, _ :: _, _, h, _ => h.elim
  | _ :: _, _, [], _, h, _ => h.elim

/-- the kinds of a type's cells, if it is made of scalars alone -/
def flatLoop (go : TypeId → Option (List Sc)) : List Field → Nat → Option (List Sc)
  | [], _ => some []
  | f :: fs, off => if f.offset = off then (go f.type).bind fun ks => (flatLoop go fs (off + ks.length)).map (ks ++ ·) else none
def flat (P : Program) : Nat → TypeId → Option (List Sc)
  | 0, _ => none
  | n + 1, t =>
    match P.underlying t with
    | some .bool => some [.bool]
    | some (.int k) => some [.int k]
    | some .string => some [.str]
    | some (.struct fs) => (flatLoop (flat P n) fs.toList 0).bind fun ks => if P.cellsOf t = ks.length then some ks else none
    | some (.array m e) => (flat P n e).bind fun ks => if P.cellsOf e = ks.length ∧ P.cellsOf t = m * ks.length then some (List.replicate m ks).flatten else none
    | _ => none

section
variable {H : Type} {enc : TypeId × Value → H} {P : Program} {w : World} {base : Nat} {spare : Nat → Bool} {held : Bool}

theorem flatLoop_ok (go : TypeId → Option (List Sc)) (hgo : ∀ t ks n cs x, go t = some ks → DataW.trod enc P w base spare held n t cs = some x → FlatOk ks cs) :
    ∀ (fs : List Field) (off : Nat) (ks : List Sc) (cs : List Value) (n : Nat), flatLoop go fs off = some ks →
      (∀ f ∈ fs, ∃ x, DataW.trod enc P w base spare held n f.type ((cs.drop f.offset).take (P.cellsOf f.type)) = some x) → off + ks.length = cs.length → FlatOk ks (cs.drop off)
  | [], off, ks, cs, n, h, _, hl => by
    simp only [flatLoop, Option.some.injEq] at h
    subst h
    rw [List.drop_eq_nil_of_le (by simp at hl; omega)]
    trivial
  | f :: fs, off, ks, cs, n, h, hx, hl => by
    simp only [flatLoop] at h
    split at h
    case isFalse => cases h
    case isTrue ho =>
      obtain ⟨k1, h1, h2⟩ := Option.bind_eq_some_iff.1 h
      obtain ⟨k2, h3, rfl⟩ := Option.map_eq_some_iff.1 h2
      obtain ⟨x, hx1⟩ := hx f (by simp)
      have o1 := hgo f.type k1 n _ x h1 hx1
      have l1 := o1.len
      rw [ho] at o1 l1
      have o2 := flatLoop_ok go hgo fs (off + k1.length) k2 cs n h3 (fun g hg => hx g (by simp [hg])) (by rw [List.length_append] at hl; omega)
      rw [List.length_append] at hl
      have hle : k1.length ≤ P.cellsOf f.type := by rw [← l1, List.length_take]; omega
      have e1 : ((cs.drop off).take (P.cellsOf f.type)) = (cs.drop off).take k1.length := by
        rw [← l1]; rw [List.length_take]
        rcases Nat.le_total (P.cellsOf f.type) (cs.drop off).length with hh | hh
        · rw [Nat.min_eq_left hh]
        · rw [Nat.min_eq_right hh, List.take_length, List.take_of_length_le hh]
      rw [e1] at o1
      have e2 : cs.drop off = (cs.drop off).take k1.length ++ cs.drop (off + k1.length) := by
        rw [← List.drop_drop, List.take_append_drop]
      rw [e2]
      exact o1.append o2

theorem flatRep_ok {ks : List Sc} {cs : List Value} : ∀ (m off : Nat), (∀ i, i < m → FlatOk ks ((cs.drop (off + i * ks.length)).take ks.length)) → off + m * ks.length = cs.length → FlatOk (List.replicate m ks).flatten (cs.drop off)
  | 0, off, _, hl => by
    rw [List.drop_eq_nil_of_le (by omega)]
    trivial
  | m + 1, off, h, hl => by
    have h0 := h 0 (by omega)
    rw [Nat.zero_mul, Nat.add_zero] at h0
    rw [Nat.succ_mul] at hl
    have hr := flatRep_ok m (off + ks.length) (fun i hi => by
      have := h (i + 1) (by omega)
      rw [Nat.succ_mul] at this
      rw [show off + ks.length + i * ks.length = off + (i * ks.length + ks.length) by omega]
      exact this) (by omega)
    have e : cs.drop off = (cs.drop off).take ks.length ++ cs.drop (off + ks.length) := by rw [← List.drop_drop, List.take_append_drop]
    rw [e, List.replicate_succ, List.flatten_cons]
    exact h0.append hr

theorem flat_ok : ∀ (n : Nat) (t : TypeId) (ks : List Sc) (m : Nat) (cs : List Value) (x : DataW H × List MemPlace), flat P n t = some ks → DataW.trod enc P w base spare held m t cs = some x → FlatOk ks cs := by
  intro n
  induction n with
  | zero => intro t ks m cs x h; simp [flat] at h
  | succ n ih =>
    intro t ks m cs x h hx
    simp only [flat] at h
    split at h
    · rename_i hu
      obtain rfl : [Sc.bool] = ks := by injection h
      cases m with
      | zero => simp [DataW.trod] at hx
      | succ m =>
        unfold DataW.trod at hx
        rw [hu] at hx
        match cs, hx with
        | [.bool b], _ => exact ⟨⟨b, rfl⟩, trivial⟩
    · rename_i k hu
      obtain rfl : [Sc.int k] = ks := by injection h
      cases m with
      | zero => simp [DataW.trod] at hx
      | succ m =>
        unfold DataW.trod at hx
        rw [hu] at hx
        match cs, hx with
        | [.int k' z], hx =>
          simp only at hx
          split at hx
          case isTrue hk => obtain ⟨rfl, hw⟩ := hk; exact ⟨⟨z, rfl, hw⟩, trivial⟩
          case isFalse => cases hx
    · rename_i hu
      obtain rfl : [Sc.str] = ks := by injection h
      cases m with
      | zero => simp [DataW.trod] at hx
      | succ m =>
        unfold DataW.trod at hx
        rw [hu] at hx
        match cs, hx with
        | [.string s], hx =>
          simp only at hx
          split at hx
          case isTrue hk => exact ⟨⟨s, rfl, hk⟩, trivial⟩
          case isFalse => cases hx
    · rename_i fs hu
      obtain ⟨ks', h1, h2⟩ := Option.bind_eq_some_iff.1 h
      split at h2
      case isFalse => cases h2
      case isTrue hc =>
        simp only [Option.some.injEq] at h2
        subst h2
        obtain ⟨xs, m', _, _, hlen, hxl, hf⟩ := DataW.trod_struct hu hx
        have := flatLoop_ok (flat P n) (fun t ks n' cs x h h' => ih t ks n' cs x h h') fs.toList 0 ks' cs m' h1 (fun f hf' => by
          obtain ⟨i, hi, rfl⟩ := List.getElem_of_mem hf'
          have hi' : i < fs.size := by simpa using hi
          have e := hf i fs[i] (Array.getElem?_eq_getElem hi')
          rw [List.getElem?_eq_getElem (by omega)] at e
          exact ⟨_, e⟩) (by rw [hlen, hc]; omega)
        simpa using this
    · rename_i mm e hu
      obtain ⟨ks', h1, h2⟩ := Option.bind_eq_some_iff.1 h
      split at h2
      case isFalse => cases h2
      case isTrue hc =>
        simp only [Option.some.injEq] at h2
        subst h2
        obtain ⟨hce, hct⟩ := hc
        obtain ⟨xs, m', _, _, hlen, hxl, hf⟩ := DataW.trod_array hu hx
        rw [hce] at hf
        have := flatRep_ok (ks := ks') (cs := cs) mm 0 (fun i hi => by
          have e := hf i hi
          rw [List.getElem?_eq_getElem (by omega)] at e
          rw [Nat.zero_add]
          exact ih _ ks' m' _ _ h1 e) (by rw [hlen, hct]; omega)
        simpa using this
    · cases h

/-- a struct or an array of scalars by value -/
theorem open_flat {r : Reach} {b0 : Nat} {t : TypeId} {v : Value} {d : DataW H} {p : List MemPlace} {ks : List Sc} (hf : flat P 9 t = some ks)
    (ha : (match P.underlying t with | some (.struct _) => true | some (.array _ _) => true | _ => false) = true)
    (hv : Value.okWide P w r b0 t v) (h : DataW.Trod enc P w base spare held t v d p) : ∃ cs : List Value, v = .agg cs.toArray ∧ FlatOk ks cs := by
  obtain ⟨m, hm⟩ := h
  have hok := flat_ok 9 t ks m _ _ hf hm
  have : ∃ cs, v = .agg cs := by
    unfold Value.okWide at hv
    split at hv
    · obtain ⟨cs, h1, _⟩ := hv; exact ⟨cs, h1⟩
    · obtain ⟨cs, h1, _⟩ := hv; exact ⟨cs, h1⟩
    · rename_i h1 h2
      split at ha
      · rename_i h3; exact absurd h3 (h1 _)
      · rename_i h3; exact absurd h3 (h2 _ _)
      · cases ha
  obtain ⟨cs, rfl⟩ := this
  exact ⟨cs.toList, by simp, hok⟩

theorem flatten_len {c : Nat} : ∀ (rows : List (List Value)), (∀ x ∈ rows, x.length = c) → rows.flatten.length = rows.length * c
  | [], _ => by simp
  | r :: rows, h => by
    rw [List.flatten_cons, List.length_append, flatten_len rows (fun x hx => h x (by simp [hx])), h r (by simp), List.length_cons, Nat.succ_mul]; omega
theorem flatten_get {c : Nat} : ∀ (rows : List (List Value)), (∀ x ∈ rows, x.length = c) → ∀ i j, j < c → rows.flatten[i * c + j]? = rows[i]?.bind (·[j]?)
  | [], _, i, j, _ => by simp
  | r :: rows, h, 0, j, hj => by
    have hr := h r (by simp)
    rw [List.flatten_cons, Nat.zero_mul, Nat.zero_add, List.getElem?_append_left (by omega)]; simp
  | r :: rows, h, i + 1, j, hj => by
    have hr := h r (by simp)
    rw [List.flatten_cons, List.getElem?_append_right (by rw [hr, Nat.succ_mul]; omega), hr, show (i + 1) * c + j - c = i * c + j by rw [Nat.succ_mul]; omega,
      flatten_get rows (fun x hx => h x (by simp [hx])) i j hj]
    simp

/-- a slice that reads as rows of cells: 'size' cells an element, all below block 'B' -/
def Sl (w : World) (B size : Nat) (A : Option Addr) (n : Nat) (xs : List Value) : Prop :=
  xs.length = n * size ∧ (0 < n → ∃ b o, A = some ⟨b, o, none⟩ ∧ b < B ∧ ∀ j, j < n * size → w.cell? ⟨b, o + j, none⟩ = xs[j]?)

/-- what the opening of a slice of scalars' rows gives -/
structure RowsAt (ks : List Sc) (w : World) (A : Option Addr) (n c : Nat) (rows : List (List Value)) : Prop where
  le : n ≤ c
  cap : c ≤ maxLen
  len : rows.length = n
  ok : ∀ x ∈ rows, FlatOk ks x
  sl : Sl w w.heap.size ks.length A n rows.flatten
end

/-- rows, each of one make: a list -/
theorem rows_map {α : Type} (enc : α → List Value) (good : α → Prop) : ∀ (rows : List (List Value)), (∀ r ∈ rows, ∃ x, r = enc x ∧ good x) → ∃ l : List α, rows = l.map enc ∧ ∀ x ∈ l, good x
  | [], _ => ⟨[], rfl, by simp⟩
  | r :: rows, h => by
    obtain ⟨x, hx, gx⟩ := h r (by simp)
    obtain ⟨l, hl, gl⟩ := rows_map enc good rows (fun r hr => h r (by simp [hr]))
    exact ⟨x :: l, by simp [hx, hl], fun y hy => (List.mem_cons.1 hy).elim (fun e => e ▸ gx) (gl y)⟩
section
variable {w w' : World} {B size n : Nat} {A : Option Addr} {xs : List Value}
theorem Sl.keep (h : Sl w B size A n xs) (hk : ∀ b o, b < B → w'.cell? ⟨b, o, none⟩ = w.cell? ⟨b, o, none⟩) : Sl w' B size A n xs :=
  ⟨h.1, fun hn => by
    obtain ⟨b, o, e, hb, hc⟩ := h.2 hn
    exact ⟨b, o, e, hb, fun j hj => (hk b _ hb).trans (hc j hj)⟩⟩
theorem Sl.below {C : Nat} (h : Sl w B size A n xs) (hb : Below C w w') (hC : B ≤ C) : Sl w' B size A n xs := h.keep fun b o hlt => hb.cell (p := ⟨b, o, none⟩) (by show b < C; omega)
theorem Sl.more {C : Nat} (h : Sl w B size A n xs) (hC : B ≤ C) : Sl w C size A n xs :=
  ⟨h.1, fun hn => by
    obtain ⟨b, o, e, hb, hc⟩ := h.2 hn
    exact ⟨b, o, e, by omega, hc⟩⟩
theorem Sl.at_ {k : Nat} (h : Sl w B 1 A n xs) (hk : k < n) : ∃ b o u, A = some ⟨b, o, none⟩ ∧ b < B ∧ xs[k]? = some u ∧ w.cell? ⟨b, o + k, none⟩ = some u := by
  obtain ⟨b, o, e, hb, hc⟩ := h.2 (by omega)
  have hl : k < xs.length := by have := h.1; omega
  exact ⟨b, o, xs[k], e, hb, List.getElem?_eq_getElem hl, by rw [hc k (by omega)]; exact List.getElem?_eq_getElem hl⟩
end

end Go.Proofs.YtihggkmjalofiaaGreatDoor

/- Arrays of integers by value: held against each other. -/
namespace Go.Proofs.YtihggkmjalofiaaGreatDoor
open Go.RowKit
theorem eq_loop {P : Program} {e : TypeId} {k : IntKind} (he : P.underlying e = some (.int k)) (ha : ∀ w, (isAgg e).run P w = .ok false w) (d : Nat) (l1 l2 : List Int) (hl : l1.length = l2.length) (w : World) :
    ∀ (m s : Nat), s + m = l1.length →
    (forIn (List.range' s m) ((none : Option Bool), ()) fun i __s => (do
            let x ← part e (List.map (Value.int k) l1).toArray (i * 1)
            let y ← part e (List.map (Value.int k) l2).toArray (i * 1)
            let r ← Op.equalIn (d + 1) e x y
            if (!r) = true then pure (ForInStep.done (some false, ())) else pure (ForInStep.yield (none, ())) : Sem (ForInStep (Option Bool × Unit)))).run P w =
      .ok (if l1.drop s = l2.drop s then (none, ()) else (some false, ())) w
  | 0, s, h => by
    simp [List.drop_eq_nil_of_le (show l1.length ≤ s by omega), List.drop_eq_nil_of_le (show l2.length ≤ s by omega)]
  | m + 1, s, h => by
    have h1 : s < l1.length := by omega
    have h2 : s < l2.length := by omega
    have p1 : (part e (List.map (Value.int k) l1).toArray (s * 1)).run P w = .ok (.int k l1[s]) w := by
      simp [part, ha, h1]
    have p2 : (part e (List.map (Value.int k) l2).toArray (s * 1)).run P w = .ok (.int k l2[s]) w := by
      simp [part, ha, h2]
    rw [List.range'_succ, List.forIn_cons]
    simp only [Sem.run_bind, p1, p2, Result.andThen_ok, run_equalIn_int w d e k k _ _ he]
    have e1 := List.drop_eq_getElem_cons h1
    have e2 := List.drop_eq_getElem_cons h2
    by_cases heq : l1[s] = l2[s]
    · have hb : (l1[s] == l2[s]) = true := by simpa using heq
      simp only [hb, Bool.not_true, Bool.false_eq_true, if_false, Sem.run_pure, Result.andThen_ok]
      rw [eq_loop he ha d l1 l2 hl w m (s + 1) (by omega), e1, e2]
      by_cases htl : l1.drop (s + 1) = l2.drop (s + 1)
      · rw [if_pos htl, if_pos (by rw [heq, htl])]
      · rw [if_neg htl, if_neg (fun h => htl (List.cons.inj h).2)]
    · have hb : (l1[s] == l2[s]) = false := by simpa using heq
      simp only [hb, Bool.not_false, if_true, Sem.run_pure, Result.andThen_ok]
      rw [e1, e2, if_neg (fun h => heq (List.cons.inj h).1)]
theorem run_equal_ints {P : Program} {t e : TypeId} {k : IntKind} {n : Nat} (ht : P.underlying t = some (.array n e)) (he : P.underlying e = some (.int k)) (ha : ∀ w, (isAgg e).run P w = .ok false w) (hs : ∀ w, (sizeOf e).run P w = .ok 1 w)
    (d : Nat) (l1 l2 : List Int) (h1 : l1.length = n) (h2 : l2.length = n) (w : World) :
    (Op.equalIn (d + 2) t (.agg (l1.map (Value.int k)).toArray) (.agg (l2.map (Value.int k)).toArray)).run P w = .ok (decide (l1 = l2)) w := by
  unfold Op.equalIn
  simp only [Sem.run_bind, run_underlying ht, Result.andThen_ok, hs]
  rw [Std.Legacy.Range.forIn_eq_forIn_range']
  have := eq_loop he ha d l1 l2 (by omega) w n 0 (by omega)
  simp only [Std.Legacy.Range.size] at *
  rw [show (n - 0 + 1 - 1) / 1 = n by omega, this]
  by_cases h : l1 = l2
  · simp [h]
  · simp [h]
theorem run_neq_ints {P : Program} {t e : TypeId} {k : IntKind} {n : Nat} (ht : P.underlying t = some (.array n e)) (he : P.underlying e = some (.int k)) (ha : ∀ w, (isAgg e).run P w = .ok false w) (hs : ∀ w, (sizeOf e).run P w = .ok 1 w)
    (l1 l2 : List Int) (h1 : l1.length = n) (h2 : l2.length = n) (w : World) :
    (binOp .neq t (.agg (l1.map (Value.int k)).toArray) (.agg (l2.map (Value.int k)).toArray)).run P w = .ok (.bool (!decide (l1 = l2))) w := by
  have h := run_equal_ints ht he ha hs 9998 l1 l2 h1 h2 w
  simp only [binOp]
  simp [Op.equal, Op.maxDepth, h]
end Go.Proofs.YtihggkmjalofiaaGreatDoor

/- Blocks known whole; regions that draw their order and whose calls make memory: one walk in the order of the text. No program in sight but as a variable. -/
namespace Go.Proofs.YtihggkmjalofiaaGreatDoor
open Go.RowKit

/-- block g is just these cells, none frozen -/
def Blk (w : World) (g : Nat) (t : TypeId) (cs : Array Value) : Prop := w.heap[g]? = some (.cells cs t (0, 0))
section
variable {w w' : World} {g : Nat} {t : TypeId} {cs : Array Value}
theorem Blk.lt (h : Blk w g t cs) : g < w.heap.size := by
  rcases Nat.lt_or_ge g w.heap.size with hlt | hge
  · exact hlt
  · unfold Blk at h; rw [Array.getElem?_eq_none hge] at h; cases h
theorem Blk.cell (h : Blk w g t cs) (i : Nat) : w.cell? ⟨g, i, none⟩ = cs[i]? := by unfold Blk at h; simp [World.cell?, h]
theorem Blk.fr (h : Blk w g t cs) (i : Nat) : w.frozen? ⟨g, i, none⟩ = false := by unfold Blk at h; simp [World.frozen?, h]
theorem Blk.new (w : World) (t : TypeId) (cs : Array Value) : Blk (w.alloc (.cells cs t)) w.heap.size t cs := heap_alloc_new w _
theorem Blk.newAt {w : World} {n : Nat} (hn : w.heap.size = n) (t : TypeId) (cs : Array Value) : Blk (w.alloc (.cells cs t)) n t cs := hn ▸ heap_alloc_new w _
theorem Blk.drewN (h : Blk w g t cs) (n : Nat) : Blk (w.drewN n) g t cs := h
theorem Blk.alloc (h : Blk w g t cs) (o : Obj) : Blk (w.alloc o) g t cs := (Below.heap_alloc w o g h.lt).trans h
theorem Blk.set_ (h : Blk w g t cs) (i : Nat) (u : Value) : Blk (w.setCell ⟨g, i, none⟩ u) g t (cs.setIfInBounds i u) := by
  unfold Blk at h ⊢
  simp [World.setCell, Array.getElem?_modify, h]
theorem Blk.row (h : Blk w g t cs) (cs' : Array Value) : Blk (w.setRow g cs') g t cs' := setRow_heap w g cs cs' t _ h
theorem Blk.rowFar (h : Blk w g t cs) {k : Nat} (hk : g ≠ k) (cs' : Array Value) : Blk (w.setRow k cs') g t cs := (setRow_other w k g cs' hk).trans h
theorem Blk.far (h : Blk w g t cs) {p : Addr} (hp : g ≠ p.block) (u : Value) : Blk (w.setCell p u) g t cs := (Below.heap_setCell w p u g hp).trans h
theorem Blk.below {B : Nat} (h : Blk w g t cs) (hb : Below B w w') (hg : g < B) : Blk w' g t cs := (hb.block g hg).trans h
theorem Blk.ext (h : Blk w g t cs) (hb : Below w.heap.size w w') : Blk w' g t cs := h.below hb h.lt
end
theorem below_setRow {B : Nat} {a w : World} (h : Below B a w) {g : Nat} (hg : B ≤ g) (cs : Array Value) : Below B a (w.setRow g cs) :=
  h.trans ⟨rfl, rfl, rfl, by simp, fun k hk => setRow_other w g k cs (by omega)⟩

/-- the worlds that have at most more than w0 -/
structure Ext (w0 : World) where
  w : World
  h : Below w0.heap.size w0 w
instance (w0 : World) : Nonempty (Ext w0) := ⟨⟨w0, Below.refl _ _⟩⟩
theorem wp_region_ext {P : Program} {id : Nat} {Q : Exit → Act → World → Prop} {a : Act} {w : World} {l : List Oper} (hm : P.follows .mixedOrders = true) (hB : Region.lexB .any l.toArray = true)
    (h : wpQuiet P l.toArray (fun w' => ∃ z : Ext w, w' = z.w) (fun a' => ∀ w', (∃ z : Ext w, w' = z.w) → Q .normal a' w') l a) : (Code.region id l.toArray true).wp P Q a w :=
  wp_region_quiet (C := fun w' => ∃ z : Ext w, w' = z.w) hm hB ⟨⟨_, (Below.refl _ _).drew⟩, rfl⟩ (by simpa using h)
theorem ext_call {P : Program} {f : FuncId} {args : Array Value} {w0 : World} {z : Ext w0} {v : Value}
    (h : Calls P f args z.w (RetB z.w v)) : Calls P f args z.w fun e w'' => e = .returned v ∧ ∃ z' : Ext w0, w'' = z'.w :=
  h.mono fun _ w' ⟨he, hb⟩ => ⟨he, ⟨w', ext_trans z.h hb⟩, rfl⟩
theorem RetB.of {w w' : World} {v : Value} {e : Ending} (h : Ret w v e w') : RetB w v e w' := ⟨h.1, by rw [← h.2]; exact Below.refl _ _⟩
theorem ext_ret {P : Program} {f : FuncId} {args : Array Value} {w0 : World} {z : Ext w0} {v : Value}
    (h : Calls P f args z.w (Ret z.w v)) : Calls P f args z.w fun e w'' => e = .returned v ∧ ∃ z' : Ext w0, w'' = z'.w := ext_call (h.mono fun _ _ => RetB.of)
/-- a whole struct or array read in such a region -/
theorem wpQuiet_load_row {P : Program} {ops : Array Oper} {w0 : World} {Q : Act → Prop} {rest : List Oper} {tmps : List Value} {ds : List Deferred} {d : Nat} {ty rt : TypeId} {x : Operand} {pos : String} {after : Array Edge} {gd : Option (Nat × Bool)} {g : Nat} {t : TypeId} {cs : Array Value} {D : TypeDesc}
    (hB : Blk w0 g t cs) (hu : P.underlying ty = some D) (hd : (match D with | .struct _ | .array _ _ => true | _ => false) = true) (hi : (P.info? ty).map (·.size) = some cs.size)
    (hw : Region.wanted ⟨some d, .load ty x, rt, pos, after, gd⟩ (yielded ops tmps.toArray) = true) (hx : Act.eval ⟨tmps.toArray, ds⟩ x = .pointer (some ⟨g, 0, none⟩))
    (h : wpQuiet P ops (fun w' => ∃ z : Ext w0, w' = z.w) Q rest ⟨(tmps.set d (.agg cs)).toArray, ds⟩) :
    wpQuiet P ops (fun w' => ∃ z : Ext w0, w' = z.w) Q (⟨some d, .load ty x, rt, pos, after, gd⟩ :: rest) ⟨tmps.toArray, ds⟩ := by
  refine wpQuiet_step fun K hK => ?_
  rw [if_pos hw]
  refine ⟨.agg cs, ?_, hK _ ?_⟩
  · rintro w ⟨z, rfl⟩
    have hb := hB.ext z.h
    unfold Blk at hb
    unfold Oper.quietAt execOp
    simp only [hx, Instr.loadAt, Instr.sureAddr, Sem.run_bind, Sem.run_pure, Result.andThen_ok, run_loadVar_row z.w g t ty cs (0, 0) D hb hu hd hi]
    exact ⟨rfl, rfl⟩
  · have e : (Act.put ⟨tmps.toArray, ds⟩ (some d) (.agg cs)) = ⟨(tmps.set d (.agg cs)).toArray, ds⟩ := by simp [Act.put]
    rw [e]; exact h
end Go.Proofs.YtihggkmjalofiaaGreatDoor

/- One element put behind a slice of the call's own. No program in sight but as a variable. -/
namespace Go.Proofs.YtihggkmjalofiaaGreatDoor
open Go.RowKit

/-- what is known of a slice type: its elements' type, their cells and bytes -/
structure SlT (P : Program) (t e : TypeId) (size bytes : Nat) : Prop where
  ht : P.underlying t = some (.slice e)
  hi : ∃ i z, P.info? e = some i ∧ i.zero = some z ∧ i.size = size ∧ i.bytes = bytes ∧ z.cells.size = size
  pos : 0 < size
theorem slT_of {P : Program} {t e : TypeId} {z : Value} {size bytes : Nat} (ht : P.underlying t = some (.slice e)) (h : (P.info? e).map (fun i => (i.zero, i.size, i.bytes)) = some (some z, size, bytes)) (hz : z.cells.size = size) (pos : 0 < size) : SlT P t e size bytes := by
  obtain ⟨i, h1, h2, h3, h4⟩ := info_parts h
  exact ⟨ht, ⟨i, z, h1, h2, h3, h4, hz⟩, pos⟩

theorem news_new (w : World) (e : TypeId) (cs : List Value) : ∀ j u, cs[j]? = some u → (w.alloc (.cells cs.toArray e)).cell? ((⟨w.heap.size, 0, none⟩ : Addr).add j) = some u := by
  intro j u hu
  have ea : (⟨w.heap.size, 0, none⟩ : Addr).add j = ⟨w.heap.size, j, none⟩ := by unfold Addr.add; split <;> simp_all
  rw [ea, (Blk.new w e cs.toArray).cell j]
  simpa using hu

section
variable {P : Program} {w w0 : World} {ops : Array Oper} {rest : List Oper} {a : Act} {Q : Exit → Act → World → Prop}
theorem wpList_push {d : Option Tmp} {ty : TypeId} {pos : String} {after : Array Edge} {s x : Operand} {t e : TypeId} {size bytes : Nat} (T : SlT P t e size bytes)
    {base : Nat} {v : Value} {n : Nat} {xs : List Value} (hown : w0.ownsRow base e size v n xs) (cs : List Value) (hl : cs.length = size) (h1 : ∀ u ∈ cs, u.oneCell' = true) (hbase : base ≤ w0.heap.size)
    (hb : (n + 1) * bytes ≤ 140737488355328) (hm : n + 1 ≤ maxLen)
    (hs : a.eval s = v) (hx : a.eval x = .slice (some ⟨w0.heap.size, 0, none⟩) 1 1) (hw : w = w0.alloc (.cells cs.toArray e))
    (h : ∀ v' w', w'.ownsRow base e size v' (n + 1) (xs ++ cs) → Below base w0 w' → wpList P ops Q rest (a.put d v') w') :
    wpList P ops Q (⟨d, .call { callee := .builtin .append, args := #[s, x], argTypes := #[t, t] }, ty, pos, after, none⟩ :: rest) a w := by
  obtain ⟨i, z, hi, hz, hsz, hby, hzs⟩ := T.hi
  subst hw
  have hown' := hown.alloc (.cells cs.toArray e)
  refine wpList_append_own _ rfl s x t rfl base e i z size bytes T.ht hi hz hsz hby hzs T.pos v n xs hs hown' ⟨w0.heap.size, 0, none⟩ 1 1 cs hx (by omega) (news_new w0 e cs) h1 hm hb (by simp; omega) ?_
  intro v' w' ho hg _
  refine h v' w' ho ?_
  exact ((Below.refl base w0).alloc hbase _).grown hg (by simp; omega) (fun k hk => (hown'.lt k hk).1)
end

theorem Sl.of_own {w : World} {base : Nat} {e : TypeId} {size n : Nat} {v : Value} {xs : List Value} (h : w.ownsRow base e size v n xs) : ∃ A c, v = .slice A n c ∧ n ≤ c ∧ Sl w w.heap.size size A n xs := by
  have hlt := h.lt
  have hcells := @World.ownsRow.cells
  obtain ⟨hl, h2⟩ := h
  rcases h2 with ⟨rfl, h0⟩ | ⟨g, cap, cur, rfl, hg, hh, hnc, hrest⟩
  · subst h0
    exact ⟨none, 0, rfl, Nat.le_refl _, hl, fun h => by omega⟩
  · refine ⟨_, _, rfl, hnc, hl, fun hn => ⟨g, 0, rfl, (hlt g rfl).2, fun j hj => ?_⟩⟩
    have hu : j < xs.length := by omega
    have := hcells (w := w) (base := base) (e := e) (size := size) (n := n) (v := .slice (some ⟨g, 0, none⟩) n cap) (xs := xs) ⟨hl, .inr ⟨g, cap, cur, rfl, hg, hh, hnc, hrest⟩⟩ (g := g) rfl j xs[j] (List.getElem?_eq_getElem hu)
    have ea : (⟨g, 0, none⟩ : Addr).add j = ⟨g, j, none⟩ := by unfold Addr.add; split <;> simp_all
    rw [ea] at this
    rw [Nat.zero_add, this, List.getElem?_eq_getElem hu]

/-- a slice is handed back: it reads as these cells, and nothing that was there has turned -/
def RetSl (w : World) (size n : Nat) (xs : List Value) (e : Ending) (w' : World) : Prop :=
  ∃ A c, e = .returned (.slice A n c) ∧ n ≤ c ∧ Sl w' w'.heap.size size A n xs ∧ Below w.heap.size w w'
/-- a row of the call's own is handed back -/
def OwnedRet (w : World) (e : TypeId) (size n : Nat) (xs : List Value) (en : Ending) (w' : World) : Prop := ∃ v, en = .returned v ∧ w'.ownsRow w.heap.size e size v n xs ∧ Below w.heap.size w w'
theorem OwnedRet.sl {w w' : World} {e : TypeId} {size n : Nat} {xs : List Value} {en : Ending} (h : OwnedRet w e size n xs en w') : RetSl w size n xs en w' := by
  obtain ⟨v, rfl, ho, hb⟩ := h
  obtain ⟨A, c, rfl, hc, hs⟩ := Sl.of_own ho
  exact ⟨A, c, rfl, hc, hs, hb⟩
end Go.Proofs.YtihggkmjalofiaaGreatDoor

/- Any slice put behind a slice of the call's own. No program in sight but as a variable. -/
namespace Go.Proofs.YtihggkmjalofiaaGreatDoor
open Go.RowKit

section
variable {P : Program} {w : World} {ops : Array Oper} {rest : List Oper} {a : Act} {Q : Exit → Act → World → Prop}
theorem run_append_noAddr {base : Nat} {t ty e : TypeId} {i : TypeInfo} {size : Nat} (ht : P.underlying t = some (.slice e)) (hi : P.info? e = some i) {v : Value} {n : Nat} {xs : List Value} (hown : w.ownsRow base e size v n xs) (c : Nat) :
    (Builtin.append_ #[t, t] ty #[v, .slice none 0 c]).run P w = .ok v w := by
  rcases hown.2 with ⟨rfl, _⟩ | ⟨g, cap, cur, rfl, _, _, hnc, _⟩
  · simp [Builtin.append_, run_underlying ht, sizeOf, typeInfo, hi, Builtin.lenOf, Builtin.firstCells]
  · simp [Builtin.append_, run_underlying ht, sizeOf, typeInfo, hi, Builtin.lenOf, Builtin.firstCells, hnc, storeCells]
theorem wpList_cat {d : Option Tmp} {ty : TypeId} {pos : String} {after : Array Edge} {s x : Operand} {t e : TypeId} {size bytes : Nat} (T : SlT P t e size bytes)
    {base : Nat} {v : Value} {n : Nat} {xs : List Value} (hown : w.ownsRow base e size v n xs) {B : Nat} {A : Option Addr} {m c : Nat} {news : List Value} (hr : Sl w B size A m news) (h1 : ∀ u ∈ news, u.oneCell' = true) (hbase : base ≤ w.heap.size)
    (hb : (n + m) * bytes ≤ 140737488355328) (hm : n + m ≤ maxLen)
    (hs : a.eval s = v) (hx : a.eval x = .slice A m c)
    (h : ∀ v' w', w'.ownsRow base e size v' (n + m) (xs ++ news) → Below base w w' → wpList P ops Q rest (a.put d v') w') :
    wpList P ops Q (⟨d, .call { callee := .builtin .append, args := #[s, x], argTypes := #[t, t] }, ty, pos, after, none⟩ :: rest) a w := by
  obtain ⟨i, z, hi, hz, hsz, hby, hzs⟩ := T.hi
  rcases A with _ | ad
  · have hm0 : m = 0 := by
      rcases Nat.eq_zero_or_pos m with h0 | h0
      · exact h0
      · obtain ⟨b, o, he, _⟩ := hr.2 h0
        cases he
    subst hm0
    have hn : news = [] := List.eq_nil_of_length_eq_zero (by simpa using hr.1)
    subst hn
    refine wpList_plain rfl fun K hK => ?_
    have hrun := run_append_noAddr (P := P) (ty := ty) T.ht hi hown c
    unfold Oper.wp execOp
    simp only [resolve, invoke, builtin, Sem.run_bind, Sem.run_pure, Result.andThen_ok, List.map_toArray, List.map_cons, List.map_nil, hs, hx, hrun]
    exact hK _ _ (h v w (by simpa using hown) (Below.refl _ _))
  · refine wpList_append_own _ rfl s x t rfl base e i z size bytes T.ht hi hz hsz hby hzs T.pos v n xs hs hown ad m c news hx hr.1 ?_ h1 hm hb hbase ?_
    · intro j u hu
      have hj : j < m * size := by
        have := (List.getElem?_eq_some_iff.1 hu).1
        rwa [hr.1] at this
      have hm0 : 0 < m := by
        rcases Nat.eq_zero_or_pos m with h0 | h0
        · subst h0; simp at hj
        · exact h0
      obtain ⟨b, o, he, _, hc⟩ := hr.2 hm0
      injection he with he
      subst he
      have ea : (⟨b, o, none⟩ : Addr).add j = ⟨b, o + j, none⟩ := by unfold Addr.add; split <;> simp_all
      rw [ea, hc j hj]; exact hu
    · intro v' w' ho hg _
      exact h v' w' ho ((Below.refl base w).grown hg hbase (fun k hk => (hown.lt k hk).1))
end
theorem below_new (w : World) (o : Obj) : Below w.heap.size w (w.alloc o) := (Below.refl _ _).alloc (Nat.le_refl _) _
/-- what was read stays, behind calls and appends -/
theorem Sl.up {w w' : World} {size n : Nat} {A : Option Addr} {xs : List Value} (h : Sl w w.heap.size size A n xs) {B : Nat} (hb : Below B w w') (hB : w.heap.size ≤ B) : Sl w' w'.heap.size size A n xs := (h.below hb hB).more (by have := hb.size; omega)
end Go.Proofs.YtihggkmjalofiaaGreatDoor

/- Regions that draw their order: what only reads, or calls quietly, comes in any order; then a tail in its one order, which may write. No program in sight but as a variable. -/
namespace Go.Proofs.YtihggkmjalofiaaGreatDoor
open Go.RowKit

section
variable {P : Program} {ops : Array Oper} {md : Region.Mode} {C : World → Prop} {n g : Nat} {L : Act → Prop}

/-- the head's operations come in whatever order; when all have come, the tail comes in its own -/
def Heads (P : Program) (md : Region.Mode) (ops : Array Oper) (C : World → Prop) (n g : Nat) (L : Act → Prop) : Nat → Array Bool → Act → Prop
  | 0, ls, a => Region.seqB md ops g n ls = true ∧ L a
  | f + 1, ls, a => Region.ready md ops ls ≠ [] ∧ ∀ i, i ∈ Region.ready md ops ls → i < n ∧ qOp P ops C i (Heads P md ops C n g L f (ls.setIfInBounds i true)) a

theorem Heads.any {Q : Exit → Act → World → Prop} (hg : (ops.toList.drop n).length = g) (hL : ∀ a w, C w → L a → wpList P ops Q (ops.toList.drop n) a w) :
    ∀ (f : Nat) (ls : Array Bool) (a : Act) (w : World), C w → Heads P md ops C n g L f ls a → wpAny P md ops Q (f + g) ls a w := by
  intro f
  induction f with
  | zero =>
    intro ls a w hw h
    have := wpAny_of_seq (P := P) (md := md) (ops := ops) (Q' := Q) (ops.toList.drop n) n ls a w (fun j => by simp [List.getElem?_drop]) (by rw [hg]; exact h.1) (hL a w hw h.2)
    rw [hg] at this
    rwa [Nat.zero_add]
  | succ f ih =>
    intro ls a w hw h
    have e : f + 1 + g = (f + g) + 1 := by omega
    rw [e]
    refine ⟨fun h0 => absurd h0 h.1, fun i hi => ?_⟩
    exact wpOp_of_qOp hw (fun a' w' hw' k => ih _ a' w' hw' k) (h.2 i hi).2

/-- what holds of the operations that have come -/
structure Far (md : Region.Mode) (ops : Array Oper) (i : Nat) (oi : Oper) (ls : Array Bool) : Prop where
  far : ∀ j oj, ops[j]? = some oj → j ≠ i → ls.getD j true = false → (∀ e ∈ oj.after, Region.binds md e = true → e.on ≠ i) → oi.apart ops oj = true
theorem Far.set {i j : Nat} {oi : Oper} {ls : Array Bool} (h : Far md ops i oi ls) (hj : ls.getD j true = false) : Far md ops i oi (ls.setIfInBounds j true) :=
  ⟨fun k ok hk hki hun hno => h.far k ok hk hki (by
    by_cases e : j = k
    · subst e; exact hj
    · rwa [getD_set_ne true e] at hun) hno⟩

theorem Heads.first (hsel : ∀ (j : Nat) (o : Oper) cs b, ops[j]? = some o → o.op ≠ .select cs b) (hs : Region.sinkB md ops n = true) (hc : Region.chainB md ops n = true) (hn : n < ops.size)
    {i : Nat} {oi : Oper} {v : Value} (hi : ops[i]? = some oi) (hin : i < n) :
    ∀ (f : Nat) (ls : Array Bool) (a : Act), HeadInv md ops n ls → Far md ops i oi ls → i ∈ Region.ready md ops ls → YieldsIn P ops C oi v a →
      Heads P md ops C n g L f (ls.setIfInBounds i true) (a.put oi.dst v) → Heads P md ops C n g L (f + 1) ls a := by
  intro f
  induction f with
  | zero =>
    intro ls a inv _ hr hy H
    refine ⟨fun h => by rw [h] at hr; exact absurd hr (by simp), fun j hj => ?_⟩
    have hlt : j < n := Nat.lt_of_not_le fun hge => tail_waits hs hc hn inv _ i rfl hin (mem_ready.1 hr).1 j hge hj
    by_cases e : j = i
    · subst e; exact ⟨hlt, hy.qOp hi H⟩
    · exact absurd (seqB_ready H.1 j (ready_mono hj e)) (by omega)
  | succ f ih =>
    intro ls a inv hf hr hy H
    refine ⟨fun h => by rw [h] at hr; exact absurd hr (by simp), fun j hj => ?_⟩
    have hun := (mem_ready.1 hr).1
    have hlt : j < n := Nat.lt_of_not_le fun hge => tail_waits hs hc hn inv _ i rfl hin hun j hge hj
    by_cases e : j = i
    · subst e; exact ⟨hlt, hy.qOp hi H⟩
    · obtain ⟨hjun, oj, hoj, hall⟩ := mem_ready.1 hj
      have hw : ∀ x ∈ oj.after, Region.binds md x = true → x.on ≠ i := by
        intro x hx hb he
        have h1 := hall x hx hb
        rw [he, getD_both hun] at h1
        cases h1
      refine ⟨hlt, qOp_mono (fun a' h3 => ?_) (qOp_put hoj (hf.far j oj hoj e hjun hw) (fun cs b => hsel i oi cs b hi) (fun cs b => hsel j oj cs b hoj) hy (H.2 j (ready_mono hj e)).2)⟩
      have h4 := h3.2
      rw [Array.setIfInBounds_comm _ _ (Ne.symm e)] at h4
      exact ih _ a' (inv.set hj hlt) (hf.set hjun) (ready_mono hr (Ne.symm e)) h3.1 h4

theorem Heads.lex (hsel : Region.noSelect ops = true) (hs : Region.sinkB md ops n = true) (hc : Region.chainB md ops n = true) (hn : n < ops.size) :
    ∀ (l : List Oper) (k : Nat) (ls : Array Bool) (a : Act), (∀ j, j < l.length → l[j]? = ops[k + j]?) → k + l.length = n → HeadInv md ops n ls →
      Region.lexHead md ops g l.length k ls = true → wpQuiet P ops C L l a → Heads P md ops C n g L l.length ls a := by
  intro l
  induction l with
  | nil =>
    intro k ls a _ hk _ hB h
    have e : k = n := by simpa using hk
    subst e
    exact ⟨by simpa [Region.lexHead] using hB, h⟩
  | cons o l ih =>
    intro k ls a hl hk inv hB h
    have hl' : k + l.length + 1 = n := by simp at hk; omega
    have h0 : ops[k]? = some o := by have := hl 0 (by simp); simpa using this.symm
    simp only [List.length_cons, Region.lexHead, Bool.and_eq_true] at hB
    obtain ⟨⟨hr, hfree⟩, hB'⟩ := hB
    have hkr : k ∈ Region.ready md ops ls := by simpa using hr
    have hq : qOp P ops C k (wpQuiet P ops C L l) a := by
      unfold qOp
      simp only [h0]
      exact h
    obtain ⟨v, hy, hK⟩ := yieldsIn_of_qOp h0 hq
    refine Heads.first (Region.noSelect_spec hsel) hs hc hn h0 (by omega) l.length ls a inv ⟨Region.free_spec h0 hfree⟩ hkr hy ?_
    refine ih (k + 1) _ _ (fun j hj => ?_) (by omega) (inv.set hkr (by omega)) hB' hK
    have := hl (j + 1) (by simp; omega)
    rw [show k + 1 + j = k + (j + 1) by omega, ← this]
    simp

/-- the head walked in the order of the text, the tail behind it -/
theorem wp_region_tail {id : Nat} {Q : Exit → Act → World → Prop} {a : Act} {w : World} {l : List Oper} (n : Nat) (hm : P.follows .mixedOrders = true) (hB : Region.lexTailB .any l.toArray n = true) (hC : C w.drew)
    (h : wpQuiet P l.toArray C (fun a' => ∀ w', C w' → wpList P l.toArray Q (l.drop n) a' w') (l.take n) a) : (Code.region id l.toArray true).wp P Q a w := by
  simp only [Region.lexTailB, Bool.and_eq_true, decide_eq_true_eq] at hB
  obtain ⟨⟨⟨⟨hsel, hn⟩, hs⟩, hc⟩, hlex⟩ := hB
  have hnl : n < l.length := by simpa using hn
  have hlen : (l.take n).length = n := by simp; omega
  have inv : HeadInv .any l.toArray n (Array.replicate l.toArray.size false) := by
    refine ⟨by simp, fun j oj _ hl => ?_, fun t _ ht => getD_in (by simpa using ht) (getD_replicate_false _ _)⟩
    rw [getD_replicate_false] at hl; cases hl
  have H := Heads.lex (P := P) (md := .any) (C := C) (L := fun a' => ∀ w', C w' → wpList P l.toArray Q (l.drop n) a' w') (g := l.toArray.size - n) hsel hs hc hn (l.take n) 0 _ a
    (fun j hj => by rw [hlen] at hj; simp [hj]) (by omega) inv (by rw [hlen]; exact hlex) h
  refine wp_region_any hm ?_
  have K := Heads.any (P := P) (md := .any) (C := C) (Q := Q) (n := n) (g := l.toArray.size - n) (L := fun a' => ∀ w', C w' → wpList P l.toArray Q (l.drop n) a' w') (by simp) (fun a' w' hw' hl => by simpa using hl w' hw')
    _ _ _ _ hC H
  have e : (l.take n).length + (l.toArray.size - n) = l.toArray.size := by rw [hlen]; simp; omega
  rw [e] at K
  exact K
/-- .. where the head only draws -/
theorem wp_region_drawn {id : Nat} {Q : Exit → Act → World → Prop} {a : Act} {w : World} {l : List Oper} (n : Nat) (hm : P.follows .mixedOrders = true) (hB : Region.lexTailB .any l.toArray n = true)
    (h : wpQuiet P l.toArray (fun w' => ∃ k, w' = w.drewN k) (fun a' => ∀ w', (∃ k, w' = w.drewN k) → wpList P l.toArray Q (l.drop n) a' w') (l.take n) a) : (Code.region id l.toArray true).wp P Q a w :=
  wp_region_tail (C := fun w' => ∃ k, w' = w.drewN k) n hm hB ⟨1, rfl⟩ h
end
theorem below_setCell {B : Nat} {a w : World} (h : Below B a w) {p : Addr} (hp : B ≤ p.block) {u : Value} : Below B a (w.setCell p u) := h.setCell hp u
end Go.Proofs.YtihggkmjalofiaaGreatDoor

/- Regions that draw their order: first one move that nobody waits for but the tail, then what only reads or calls quietly, in any order, then a tail in its one order. No program in sight but as a variable. -/
namespace Go.Proofs.YtihggkmjalofiaaGreatDoor
open Go.RowKit

section
variable {P : Program} {ops : Array Oper} {md : Region.Mode} {C : World → Prop} {n m g : Nat} {L : Act → Prop}
end
end Go.Proofs.YtihggkmjalofiaaGreatDoor

/- Regions that draw their order, step by step: loads of whole rows first, then whatever comes up. No program in sight but as a variable. -/
namespace Go.Proofs.YtihggkmjalofiaaGreatDoor
open Go.RowKit

section
variable {P : Program} {ops : Array Oper} {Q : Exit → Act → World → Prop} {S : World → Prop} {K : Act → World → Prop} {a : Act} {w : World} {o : Oper} {i : Nat}
theorem wpOp_of (hi : ops[i]? = some o) (hw : Region.wanted o (yielded ops a.tmps) = true) (h : o.wp P a w K Q) : wpOp P ops Q i K a w := by
  unfold wpOp
  simp only [hi, hw, if_true]
  exact .inl h
theorem wp_called {d : Option Tmp} {ty : TypeId} {pos : String} {after : Array Edge} {gd : Option (Nat × Bool)} {xs : Array Operand} {ts : Array TypeId} {f : FuncId} {args : Array Value} {R : Ending → World → Prop}
    (hf : ∀ args w, (callFunc f args).run P w = .ok (.enter f args) w) (he : xs.map a.eval = args)
    (hc : Calls P f args w R) (h : ∀ e w', R e w' → ∃ v, e = .returned v ∧ K (a.put d v) w') : Oper.wp P ⟨d, .call { callee := .value (.func f), args := xs, argTypes := ts }, ty, pos, after, gd⟩ a w K Q := by
  have e1 : execOp a.eval ⟨d, .call { callee := .value (.func f), args := xs, argTypes := ts }, ty, pos, after, gd⟩ = callFunc f (#[] ++ xs.map a.eval ++ #[]) := rfl
  unfold Oper.wp
  rw [e1, hf]
  simp only [Array.empty_append, Array.append_empty, he]
  refine hc.mono fun e w' hr => ?_
  obtain ⟨v, rfl, hk⟩ := h e w' hr
  exact hk
theorem wp_alloced {d : Option Tmp} {ty : TypeId} {pos : String} {after : Array Edge} {gd : Option (Nat × Bool)} {e : TypeId} {v : Value} {w' : World} (hr : (Instr.alloc e true (.tuple #[])).run P w = .ok v w') (h : K (a.put d v) w') : Oper.wp P ⟨d, .alloc e, ty, pos, after, gd⟩ a w K Q := by
  unfold Oper.wp execOp
  simp only [Sem.run_bind, hr, Result.andThen_ok]
  exact h
theorem wp_stored {rt : TypeId} {pos : String} {after : Array Edge} {gd : Option (Nat × Bool)} {ty t : TypeId} {x y : Operand} {g : Nat} {cs old : Array Value} (hx : a.eval x = .pointer (some ⟨g, 0, none⟩)) (hy : a.eval y = .agg cs)
    (hg : Blk w g t old) (hi : (P.info? ty).map (·.size) = some cs.size) (hold : old.size = cs.size) (h1 : cs.all (·.oneCell') = true) (h : K a (w.setRow g cs)) : Oper.wp P ⟨none, .store ty x y, rt, pos, after, gd⟩ a w K Q :=
  wp_store_row ty x y rfl g cs hx hy t old hg hi hold h1 h
theorem yieldsIf_row {ty t : TypeId} {x : Operand} {g : Nat} {cs : Array Value} {D : TypeDesc} (hw : Region.wanted o (yielded ops a.tmps) = true) (ho : o.op = .load ty x) (hx : a.eval x = .pointer (some ⟨g, 0, none⟩))
    (hB : ∀ w', S w' → Blk w' g t cs) (hu : P.underlying ty = some D) (hd : (match D with | .struct _ | .array _ _ => true | _ => false) = true) (hi : (P.info? ty).map (·.size) = some cs.size) : YieldsIf P ops S o (.agg cs) a := by
  refine .inl ⟨hw, fun w' hS => ?_⟩
  have hb := hB w' hS
  unfold Blk at hb
  unfold execOp
  simp only [ho, hx, Instr.loadAt, Instr.sureAddr, Sem.run_bind, Sem.run_pure, Result.andThen_ok, run_loadVar_row w' g t ty cs (0, 0) D hb hu hd hi]
theorem take_row {d : Tmp} {rt ty t : TypeId} {x : Operand} {pos : String} {after : Array Edge} {gd : Option (Nat × Bool)} {g : Nat} {cs : Array Value} {D : TypeDesc} {fuel : Nat} {ls : Array Bool} {md : Region.Mode} (hi : ops[i]? = some ⟨some d, .load ty x, rt, pos, after, gd⟩)
    (hs : Region.noSelect ops = true) (hf : Region.free md ops ls i = true) (hr : (Region.ready md ops ls).contains i = true) (hQ : ∀ c (a : Act) (w : World), Q (.panic c) (a.put (some d) (.agg cs)) w → Q (.panic c) a w)
    (hw : Region.wanted ⟨some d, .load ty x, rt, pos, after, gd⟩ (yielded ops a.tmps) = true) (hx : a.eval x = .pointer (some ⟨g, 0, none⟩))
    (hB : ∀ w', S w' → Blk w' g t cs) (hu : P.underlying ty = some D) (hd : (match D with | .struct _ | .array _ _ => true | _ => false) = true) (hsz : (P.info? ty).map (·.size) = some cs.size) (hS : S w)
    (h : wpAnyH P md ops Q S fuel (ls.setIfInBounds i true) (a.put (some d) (.agg cs)) w) : wpAnyH P md ops Q S (fuel + 1) ls a w :=
  wpAnyH_take (oi := ⟨some d, .load ty x, rt, pos, after, gd⟩) hi hs hf hr hQ (yieldsIf_row hw rfl hx hB hu hd hsz) hS h
end
end Go.Proofs.YtihggkmjalofiaaGreatDoor

/- A map's block as the list of its entries, in the order of their making: a lookup, a store, an entry that is taken and stored, the length. No program in sight but as a variable. -/
namespace Go.Proofs.YtihggkmjalofiaaGreatDoor
open Go.RowKit Go.MapKept
open Go.ChangeMaps (setBlock modify_eq_set)
open Go.WideMaps (KeyLaw)

def pairOf (e : MapEntry) : Value × Value := (e.key, e.val)
/-- block b is a map with just these entries -/
def MapIs (P : Program) (k : TypeId) (w : World) (b : Nat) (l : List (Value × Value)) : Prop :=
  ∃ es clock, w.heap[b]? = some (.map es clock) ∧ Stamped es clock ∧ (∀ e ∈ es.toList, ∃ kl, keyOf P k e.key = some kl) ∧ l = es.toList.map pairOf
/-- what a lookup of a key gives: the entry's, or the zero -/
def GetL (l : List (Value × Value)) (key z v : Value) : Prop := ((∀ p ∈ l, p.1 ≠ key) ∧ v = z) ∨ (key, v) ∈ l
/-- what a store makes of the entries -/
def PutL (l : List (Value × Value)) (key val : Value) (l' : List (Value × Value)) : Prop :=
  ((∀ p ∈ l, p.1 ≠ key) ∧ l' = l ++ [(key, val)]) ∨ ∃ j v0, l[j]? = some (key, v0) ∧ l' = l.set j (key, val)

/-- an owned row stays behind a callee that only makes memory -/
theorem own_ext {w w' : World} {base : Nat} {e : TypeId} {size n : Nat} {v : Value} {xs : List Value} (h : w.ownsRow base e size v n xs) (hb : Below w.heap.size w w') : w'.ownsRow base e size v n xs := by
  have hlt := h.lt
  obtain ⟨hl, h2⟩ := h
  rcases h2 with h2 | ⟨g, cap, cur, rfl, hg, hh, r⟩
  · exact ⟨hl, .inl h2⟩
  · exact ⟨hl, .inr ⟨g, cap, cur, rfl, hg, (hb.block g (hlt g rfl).2).trans hh, r⟩⟩

section
variable {P : Program} {k : TypeId} {w w' : World} {b : Nat} {l : List (Value × Value)}
theorem MapIs.made (P : Program) (k : TypeId) (w : World) : MapIs P k (w.alloc (.map #[] 0)) w.heap.size [] :=
  ⟨#[], 0, heap_alloc_new w _, stamped_empty 0, by simp, rfl⟩
theorem MapIs.lt (h : MapIs P k w b l) : b < w.heap.size := by
  obtain ⟨es, clock, hb, _⟩ := h
  rcases Nat.lt_or_ge b w.heap.size with h | h
  · exact h
  · rw [Array.getElem?_eq_none h] at hb; cases hb
theorem MapIs.keep (h : MapIs P k w b l) (hk : w'.heap[b]? = w.heap[b]?) : MapIs P k w' b l := by
  obtain ⟨es, clock, hb, r⟩ := h
  exact ⟨es, clock, hk.trans hb, r⟩
theorem MapIs.below {B : Nat} (h : MapIs P k w b l) (hb : Below B w w') (hB : b < B) : MapIs P k w' b l := h.keep (hb.block b hB)
theorem MapIs.ext (h : MapIs P k w b l) (hb : Below w.heap.size w w') : MapIs P k w' b l := h.below hb h.lt
theorem MapIs.drewN (h : MapIs P k w b l) (n : Nat) : MapIs P k (w.drewN n) b l := h
theorem MapIs.alloc (h : MapIs P k w b l) (o : Obj) : MapIs P k (w.alloc o) b l := h.keep (Below.heap_alloc w o b h.lt)
theorem MapIs.far (h : MapIs P k w b l) {p : Addr} (hp : b ≠ p.block) (u : Value) : MapIs P k (w.setCell p u) b l := h.keep (Below.heap_setCell w p u b hp)
theorem MapIs.rowFar (h : MapIs P k w b l) {g : Nat} (hg : b ≠ g) (cs : Array Value) : MapIs P k (w.setRow g cs) b l := h.keep (setRow_other w g b cs hg)
theorem MapIs.keys (h : MapIs P k w b l) : ∀ p ∈ l, ∃ kl, keyOf P k p.1 = some kl := by
  obtain ⟨es, clock, hb, hs, hk, rfl⟩ := h
  intro p hp
  obtain ⟨e, he, rfl⟩ := List.mem_map.1 hp
  exact hk e he
theorem MapIs.apart (h : MapIs P k w b l) : l.Pairwise (fun p q => p.1 ≠ q.1) := by
  obtain ⟨es, clock, hb, hs, hk, rfl⟩ := h
  rw [List.pairwise_map]
  exact ((stamped_iff es clock).1 hs).2.2

theorem setBlock_heap {o : Obj} (hb : b < w.heap.size) : (setBlock w b o).heap[b]? = some o := by simp [setBlock, hb]
theorem setBlock_other {o : Obj} {i : Nat} (h : i ≠ b) : (setBlock w b o).heap[i]? = w.heap[i]? := by
  simp only [setBlock]; rw [Array.getElem?_setIfInBounds_ne (fun e => h e.symm)]
theorem setBlock_below {B : Nat} {a : World} (h : Below B a w) (hB : B ≤ b) (o : Obj) : Below B a (setBlock w b o) :=
  ⟨h.os, h.tape, h.output, by simpa [setBlock] using h.size, fun i hi => (setBlock_other (by omega)).trans (h.block i hi)⟩
theorem Blk.setBlock {g : Nat} {t : TypeId} {cs : Array Value} (h : Blk w g t cs) (hg : g ≠ b) (o : Obj) : Blk (setBlock w b o) g t cs := (setBlock_other hg).trans h

/-- 'm[key]': the run, in any world with this block -/
theorem MapIs.look {t e : TypeId} (h : MapIs P k w b l) (K : KeyLaw P k) (ht : P.underlying t = some (.map k e)) {z : Value} (hz : ∀ u : World, (zeroValue e).run P u = .ok z u) {key : Value} {kl : Lit} (hkey : keyOf P k key = some kl) :
    ∃ v, GetL l key z v ∧ ∀ w', w'.heap[b]? = w.heap[b]? → (Instr.lookup t (.map (some b)) key false).run P w' = .ok v w' := by
  obtain ⟨es, clock, hb, hs, hk, rfl⟩ := h
  rcases K.find w hkey es.toList hk with ⟨h1, h2⟩ | ⟨j, e0, h1, h2, h3⟩
  · refine ⟨z, .inl ⟨fun p hp => ?_, rfl⟩, fun w' hw => ?_⟩
    · obtain ⟨x, hx, rfl⟩ := List.mem_map.1 hp; exact h2 x hx
    · have hb' := hw.trans hb
      rcases K.find w' hkey es.toList hk with ⟨g1, g2⟩ | ⟨j, e0, g1, g2, g3⟩
      · simp [Instr.lookup, run_underlying ht, MapKept.run_getObj_map hb', K.check w' _ hkey, g1, hz, Result.andThen]
      · exact absurd g3 (h2 e0 (List.mem_of_getElem? g2))
  · refine ⟨e0.val, .inr (List.mem_map.2 ⟨e0, List.mem_of_getElem? h2, by rw [pairOf, h3]⟩), fun w' hw => ?_⟩
    have hb' := hw.trans hb
    rcases K.find w' hkey es.toList hk with ⟨g1, g2⟩ | ⟨j', e1, g1, g2, g3⟩
    · exact absurd h3 (g2 e0 (List.mem_of_getElem? h2))
    · have hd : es.toList.Pairwise (fun x y => x.key ≠ y.key) := ((stamped_iff es clock).1 hs).2.2
      have he : e1 = e0 := by
        obtain ⟨hj, rfl⟩ := List.getElem?_eq_some_iff.1 h2
        obtain ⟨hj', rfl⟩ := List.getElem?_eq_some_iff.1 g2
        have hp := List.pairwise_iff_getElem.1 hd
        rcases Nat.lt_trichotomy j j' with c | c | c
        · exact absurd (h3.trans g3.symm) (hp j j' hj hj' c)
        · subst c; rfl
        · exact absurd (g3.trans h3.symm) (hp j' j hj' hj c)
      subst he
      simp [Instr.lookup, run_underlying ht, MapKept.run_getObj_map hb', K.check w' _ hkey, g1, Result.andThen]
/-- 'v, ok := m[key]' -/
theorem MapIs.look_ok {t e : TypeId} (h : MapIs P k w b l) (K : KeyLaw P k) (ht : P.underlying t = some (.map k e)) {z : Value} (hz : ∀ u : World, (zeroValue e).run P u = .ok z u) {key : Value} {kl : Lit} (hkey : keyOf P k key = some kl) :
    ∃ v ok, ((ok = false ∧ (∀ p ∈ l, p.1 ≠ key) ∧ v = z) ∨ (ok = true ∧ (key, v) ∈ l)) ∧ ∀ w', w'.heap[b]? = w.heap[b]? → (Instr.lookup t (.map (some b)) key true).run P w' = .ok (.tuple #[v, .bool ok]) w' := by
  obtain ⟨es, clock, hb, hs, hk, rfl⟩ := h
  rcases K.find w hkey es.toList hk with ⟨h1, h2⟩ | ⟨j, e0, h1, h2, h3⟩
  · refine ⟨z, false, .inl ⟨rfl, fun p hp => ?_, rfl⟩, fun w' hw => ?_⟩
    · obtain ⟨x, hx, rfl⟩ := List.mem_map.1 hp; exact h2 x hx
    · have hb' := hw.trans hb
      rcases K.find w' hkey es.toList hk with ⟨g1, g2⟩ | ⟨j, e0, g1, g2, g3⟩
      · simp [Instr.lookup, run_underlying ht, MapKept.run_getObj_map hb', K.check w' _ hkey, g1, hz, Result.andThen]
      · exact absurd g3 (h2 e0 (List.mem_of_getElem? g2))
  · refine ⟨e0.val, true, .inr ⟨rfl, List.mem_map.2 ⟨e0, List.mem_of_getElem? h2, by rw [pairOf, h3]⟩⟩, fun w' hw => ?_⟩
    have hb' := hw.trans hb
    rcases K.find w' hkey es.toList hk with ⟨g1, g2⟩ | ⟨j', e1, g1, g2, g3⟩
    · exact absurd h3 (g2 e0 (List.mem_of_getElem? h2))
    · have hd : es.toList.Pairwise (fun x y => x.key ≠ y.key) := ((stamped_iff es clock).1 hs).2.2
      have he : e1 = e0 := by
        obtain ⟨hj, rfl⟩ := List.getElem?_eq_some_iff.1 h2
        obtain ⟨hj', rfl⟩ := List.getElem?_eq_some_iff.1 g2
        have hp := List.pairwise_iff_getElem.1 hd
        rcases Nat.lt_trichotomy j j' with c | c | c
        · exact absurd (h3.trans g3.symm) (hp j j' hj hj' c)
        · subst c; rfl
        · exact absurd (g3.trans h3.symm) (hp j' j hj' hj c)
      subst he
      simp [Instr.lookup, run_underlying ht, MapKept.run_getObj_map hb', K.check w' _ hkey, g1, Result.andThen]
/-- 'm[key] = val' -/
theorem MapIs.put {t e : TypeId} (h : MapIs P k w b l) (K : KeyLaw P k) (ht : P.underlying t = some (.map k e)) {key val : Value} {kl : Lit} (hkey : keyOf P k key = some kl) :
    ∃ o l', (Instr.mapUpdate t (.map (some b)) key val).run P w = .ok () (setBlock w b o) ∧ PutL l key val l' ∧ MapIs P k (setBlock w b o) b l' := by
  have hlt := h.lt
  obtain ⟨es, clock, hb, hs, hk, rfl⟩ := h
  rcases K.find w hkey es.toList hk with ⟨h1, h2⟩ | ⟨j, e0, h1, h2, h3⟩
  · refine ⟨.map (es.push ⟨key, val, clock⟩) (clock + 1), _, ?_, .inl ⟨fun p hp => ?_, rfl⟩, es.push ⟨key, val, clock⟩, clock + 1, setBlock_heap hlt, stamped_push hs h2, fun x hx => ?_, by simp [pairOf]⟩
    · simp [Instr.mapUpdate, run_underlying ht, MapKept.run_getObj_map hb, K.check w false hkey, h1, MapKept.run_setObj_map _ hb, Result.andThen, setBlock]
    · obtain ⟨x, hx, rfl⟩ := List.mem_map.1 hp; exact h2 x hx
    · simp only [Array.toList_push, List.mem_append, List.mem_singleton] at hx
      rcases hx with hx | rfl
      · exact hk x hx
      · exact ⟨_, hkey⟩
  · have hj : es[j]? = some e0 := by simpa using h2
    have hkeyf : ∀ e', es[j]? = some e' → ({ e' with key := key, val := val } : MapEntry).key = e'.key := fun e' he' => by rw [hj] at he'; cases he'; exact h3.symm
    refine ⟨.map (es.modify j (fun e' => { e' with key := key, val := val })) clock, _, ?_, .inr ⟨j, e0.val, by rw [List.getElem?_map, h2]; simp [pairOf, h3], rfl⟩, es.modify j (fun e' => { e' with key := key, val := val }), clock, setBlock_heap hlt, stamped_modify hs _ _ (fun _ _ => rfl) (fun e' _ he' => hkeyf e' he'), fun x hx => ?_, ?_⟩
    · simp [Instr.mapUpdate, run_underlying ht, MapKept.run_getObj_map hb, K.check w false hkey, h1, hj, h3, K.stays w hkey, MapKept.run_setObj_map _ hb, Result.andThen, setBlock]
    · rcases MapFrom.mem_modify hx with hx | ⟨e', _, rfl⟩
      · exact hk x hx
      · exact ⟨_, hkey⟩
    · rw [Array.toList_modify, modify_eq_set _ _ _ _ h2, List.map_set]; rfl
theorem GetL.one {key z v v' : Value} (hp : l.Pairwise (fun p q => p.1 ≠ q.1)) (h : GetL l key z v) (h' : GetL l key z v') : v = v' := by
  rcases h with ⟨h1, rfl⟩ | h1 <;> rcases h' with ⟨h2, rfl⟩ | h2
  · rfl
  · exact absurd rfl (h1 _ h2)
  · exact absurd rfl (h2 _ h1)
  · obtain ⟨i, hi, e1⟩ := List.getElem_of_mem h1
    obtain ⟨j, hj, e2⟩ := List.getElem_of_mem h2
    have hp := List.pairwise_iff_getElem.1 hp
    rcases Nat.lt_trichotomy i j with c | c | c
    · exact absurd (by rw [e1, e2]) (hp i j hi hj c)
    · subst c; rw [e1] at e2; injection e2
    · exact absurd (by rw [e1, e2]) (hp j i hj hi c)
/-- 'm[key] op= val': what is there is looked up, the entry is taken, and stored; the look may come behind the taking -/
theorem MapIs.entry {t e : TypeId} (h : MapIs P k w b l) (K : KeyLaw P k) (ht : P.underlying t = some (.map k e)) {z : Value} (hz : ∀ u : World, (zeroValue e).run P u = .ok z u) (hl : l.length ≤ maxLen) {key : Value} {kl : Lit} (hkey : keyOf P k key = some kl) :
    ∃ (v0 : Value) (st : Nat) (o : Obj), GetL l key z v0 ∧ (∀ w' : World, w'.heap[b]? = w.heap[b]? → (Instr.lookup t (.map (some b)) key false).run P w' = .ok v0 w') ∧
      (∀ w' : World, w'.heap[b]? = w.heap[b]? → (Instr.mapEntry t (.map (some b)) key).run P w' = .ok (.tuple #[v0, .int .i64 st]) (setBlock w' b o)) ∧
      (∀ w' : World, w'.heap[b]? = some o → (Instr.lookup t (.map (some b)) key false).run P w' = .ok v0 w') ∧
      ∀ val, ∃ o' l', (∀ w2 : World, w2.heap[b]? = some o → (Instr.entryStore t (.map (some b)) (.int .i64 st) val).run P w2 = .ok () (setBlock w2 b o')) ∧ PutL l key val l' ∧ ∀ w2 : World, b < w2.heap.size → MapIs P k (setBlock w2 b o') b l' := by
  have hlt := h.lt
  have hput := fun val => h.put (val := val) K ht hkey
  obtain ⟨v1, hget, hlook⟩ := h.look K ht hz hkey
  have hap := h.apart
  obtain ⟨es, clock, hb, hs, hk, rfl⟩ := h
  have F : WideElems.Fit (H := Unit) P k (fun _ => some (.nil, [])) es clock := ⟨by simpa using hl, hs, fun x hx => by obtain ⟨kl', hkl⟩ := hk x hx; exact ⟨_, WideElems.rd_mk (yv := (.nil, [])) hkl rfl⟩⟩
  have hbw : ∀ w' : World, w'.heap[b]? = w.heap[b]? → ∃ (v0 : Value) (st : Nat) (es1 : Array MapEntry) (c1 : Nat), (Instr.mapEntry t (.map (some b)) key).run P w' = .ok (.tuple #[v0, .int .i64 st]) (setBlock w' b (.map es1 c1)) ∧ _ := fun w' hw' =>
    WideElems.entry_then_store (H := Unit) (R := fun _ => some (.nil, [])) (es := es) (clock := clock) (w := w') K ht hz (hw'.trans hb) F hkey
  rcases K.find w hkey es.toList hk with ⟨h1, h2⟩ | ⟨j, e0, h1, h2, h3⟩
  · have e1 : v1 = z := GetL.one hap hget (.inl ⟨fun p hp => by obtain ⟨x, hx, rfl⟩ := List.mem_map.1 hp; exact h2 x hx, rfl⟩)
    subst e1
    have hrun : ∀ w' : World, w'.heap[b]? = w.heap[b]? → (Instr.mapEntry t (.map (some b)) key).run P w' = .ok (.tuple #[v1, .int .i64 clock]) (setBlock w' b (.map (es.push ⟨key, v1, clock⟩) (clock + 1))) := fun w' hw' => by
      have hb' := hw'.trans hb
      rcases K.find w' hkey es.toList hk with ⟨g1, g2⟩ | ⟨j, e0, g1, g2, g3⟩
      · simp [Instr.mapEntry, run_underlying ht, MapKept.run_getObj_map hb', K.check w' false hkey, g1, hz, MapKept.run_setObj_map _ hb', Result.andThen, setBlock, goInt]
      · exact absurd g3 (h2 e0 (List.mem_of_getElem? g2))
    refine ⟨v1, clock, _, hget, hlook, hrun, fun w' hw' => ?_, fun val => ?_⟩
    · have hm : MapIs P k w' b ((es.push ⟨key, v1, clock⟩).toList.map pairOf) := ⟨_, _, hw', stamped_push hs h2, fun x hx => by
        simp only [Array.toList_push, List.mem_append, List.mem_singleton] at hx
        rcases hx with hx | rfl
        · exact hk x hx
        · exact ⟨_, hkey⟩, rfl⟩
      obtain ⟨v2, hg2, hl2⟩ := hm.look K ht hz hkey
      have := GetL.one hm.apart hg2 (v' := v1) (.inr (by simp [pairOf]))
      subst this
      exact hl2 w' rfl
    · obtain ⟨o', l', p1, p2, p3⟩ := hput val
      obtain ⟨v0, st, es1, c1, g1, _, g3⟩ := hbw w rfl
      rw [hrun w rfl] at g1
      simp only [Result.ok.injEq, Value.tuple.injEq, Array.mk.injEq, List.cons.injEq, Value.int.injEq, true_and, and_true] at g1
      obtain ⟨⟨rfl, e2⟩, e3⟩ := g1
      have e3 := congrArg (fun w : World => w.heap[b]?) e3
      simp only [setBlock_heap hlt, Option.some.injEq] at e3
      refine ⟨o', l', fun w2 hw2 => ?_, p2, fun w2 hw2 => ?_⟩
      · obtain ⟨es', c', q1, q2⟩ := g3 w2 val (by rw [hw2, e3])
        rw [q2] at p1
        injection p1 with _ p1
        have := congrArg (fun w : World => w.heap[b]?) p1
        simp only [setBlock_heap hlt, Option.some.injEq] at this
        rw [← this, e2]; exact q1
      · obtain ⟨es', c', q1, q2⟩ := p3
        rw [setBlock_heap hlt] at q1
        exact ⟨es', c', (setBlock_heap hw2).trans q1, q2⟩
  · have hm0 : (key, e0.val) ∈ es.toList.map pairOf := List.mem_map.2 ⟨e0, List.mem_of_getElem? h2, by rw [pairOf, h3]⟩
    have e1 : v1 = e0.val := GetL.one hap hget (.inr hm0)
    subst e1
    have hd : es.toList.Pairwise (fun x y => x.key ≠ y.key) := ((stamped_iff es clock).1 hs).2.2
    have hsame : es.modify j (fun e => { e with key := key }) = es := by
      apply Array.ext'
      rw [Array.toList_modify, modify_eq_set _ _ _ _ h2]
      have : ({ e0 with key := key } : MapEntry) = e0 := by rw [← h3]
      rw [this]
      exact WideElems.set_self _ _ _ h2
    have hrun : ∀ w' : World, w'.heap[b]? = w.heap[b]? → (Instr.mapEntry t (.map (some b)) key).run P w' = .ok (.tuple #[e0.val, .int .i64 e0.born]) (setBlock w' b (.map es clock)) := fun w' hw' => by
      have hb' := hw'.trans hb
      rcases K.find w' hkey es.toList hk with ⟨g1, g2⟩ | ⟨j', e1, g1, g2, g3⟩
      · exact absurd h3 (g2 e0 (List.mem_of_getElem? h2))
      · have he : e1 = e0 ∧ j' = j := by
          obtain ⟨hj, rfl⟩ := List.getElem?_eq_some_iff.1 h2
          obtain ⟨hj', rfl⟩ := List.getElem?_eq_some_iff.1 g2
          have hp := List.pairwise_iff_getElem.1 hd
          rcases Nat.lt_trichotomy j j' with c | c | c
          · exact absurd (h3.trans g3.symm) (hp j j' hj hj' c)
          · subst c; exact ⟨rfl, rfl⟩
          · exact absurd (g3.trans h3.symm) (hp j' j hj' hj c)
        obtain ⟨rfl, rfl⟩ := he
        have hj : es[j']? = some e1 := by simpa using h2
        simp [Instr.mapEntry, run_underlying ht, MapKept.run_getObj_map hb', K.check w' false hkey, g1, hj, h3, K.stays w' hkey, hsame, MapKept.run_setObj_map _ hb', Result.andThen, setBlock, goInt]
    refine ⟨e0.val, e0.born, _, hget, hlook, hrun, fun w' hw' => hlook w' (hw'.trans hb.symm), fun val => ?_⟩
    obtain ⟨o', l', p1, p2, p3⟩ := hput val
    obtain ⟨v0, st, es1, c1, g1, _, g3⟩ := hbw w rfl
    rw [hrun w rfl] at g1
    simp only [Result.ok.injEq, Value.tuple.injEq, Array.mk.injEq, List.cons.injEq, Value.int.injEq, true_and, and_true] at g1
    obtain ⟨⟨rfl, e2⟩, e3⟩ := g1
    have e3 := congrArg (fun w : World => w.heap[b]?) e3
    simp only [setBlock_heap hlt, Option.some.injEq] at e3
    refine ⟨o', l', fun w2 hw2 => ?_, p2, fun w2 hw2 => ?_⟩
    · obtain ⟨es', c', q1, q2⟩ := g3 w2 val (by rw [hw2, e3])
      rw [q2] at p1
      injection p1 with _ p1
      have := congrArg (fun w : World => w.heap[b]?) p1
      simp only [setBlock_heap hlt, Option.some.injEq] at this
      rw [← this, e2]; exact q1
    · obtain ⟨es', c', q1, q2⟩ := p3
      rw [setBlock_heap hlt] at q1
      exact ⟨es', c', (setBlock_heap hw2).trans q1, q2⟩
theorem MapIs.len {t e ty : TypeId} (h : MapIs P k w b l) (ht : P.underlying t = some (.map k e)) : (Builtin.len_ #[t] ty #[.map (some b)]).run P w = .ok (.int .i64 l.length) w := by
  obtain ⟨es, clock, hb, _, _, rfl⟩ := h
  simp [Builtin.len_, run_underlying ht, MapKept.run_getObj_map hb, Result.andThen, goInt]
theorem PutL.len {key val : Value} {l' : List (Value × Value)} (h : PutL l key val l') : l'.length = l.length ∨ l'.length = l.length + 1 := by
  rcases h with ⟨_, rfl⟩ | ⟨j, v0, _, rfl⟩ <;> simp
theorem PutL.keys {key val : Value} {l' : List (Value × Value)} (h : PutL l key val l') : (key ∉ l.map (·.1) ∧ l'.map (·.1) = l.map (·.1) ++ [key]) ∨ (key ∈ l.map (·.1) ∧ l'.map (·.1) = l.map (·.1)) := by
  rcases h with ⟨h1, rfl⟩ | ⟨j, v0, h1, rfl⟩
  · refine .inl ⟨fun hm => ?_, by simp⟩
    obtain ⟨p, hp, he⟩ := List.mem_map.1 hm
    exact h1 p hp he
  · refine .inr ⟨List.mem_map.2 ⟨_, List.mem_of_getElem? h1, rfl⟩, ?_⟩
    rw [List.map_set]
    apply List.ext_getElem?
    intro i
    rw [List.getElem?_set]
    split
    · rename_i hi; subst hi
      rw [List.getElem?_map, h1]
      split
      · rfl
      · rename_i hh; rw [List.length_map] at hh; exact absurd (List.getElem?_eq_some_iff.1 h1).1 hh
    · rfl
end

/-! A struct or an array of scalars is a key. -/
def keyLoop (P : Program) (go : TypeId → Option (List Sc)) : List Field → Nat → Option (List Sc)
  | [], _ => some []
  | f :: fs, off => if f.offset = off ∧ (f.name != "_") = true then (go f.type).bind fun ks => if P.cellsOf f.type = ks.length then (keyLoop P go fs (off + ks.length)).map (ks ++ ·) else none else none
def flatK (P : Program) : Nat → TypeId → Option (List Sc)
  | 0, _ => none
  | n + 1, t =>
    match P.underlying t with
    | some .bool => some [.bool]
    | some (.int k) => some [.int k]
    | some .string => some [.str]
    | some (.struct fs) => (keyLoop P (flatK P n) fs.toList 0).bind fun ks => if P.cellsOf t = ks.length then some ks else none
    | some (.array m e) => (flatK P n e).bind fun ks => if P.cellsOf e = ks.length ∧ P.cellsOf t = m * ks.length then some (List.replicate m ks).flatten else none
    | _ => none
theorem mapM_some {α β : Type} (f : α → Option β) : ∀ l : List α, (∀ x ∈ l, ∃ y, f x = some y) → ∃ ys, l.mapM f = some ys
  | [], _ => ⟨[], by simp⟩
  | x :: l, h => by
    obtain ⟨y, hy⟩ := h x (by simp)
    obtain ⟨ys, hys⟩ := mapM_some f l (fun z hz => h z (by simp [hz]))
    exact ⟨y :: ys, by simp [List.mapM_cons, hy, hys]⟩
theorem FlatOk.parts : ∀ {ks ks' : List Sc} {cs : List Value}, FlatOk (ks ++ ks') cs → FlatOk ks (cs.take ks.length) ∧ FlatOk ks' (cs.drop ks.length)
  | [], _, cs, h => ⟨trivial, by simpa using h⟩
  | k :: ks, ks', [], h => h.elim
  | k :: ks, ks', v :: vs, h => by
    obtain ⟨h1, h2⟩ := FlatOk.parts (ks := ks) (ks' := ks') h.2
    exact ⟨⟨h.1, h1⟩, h2⟩
theorem keyLoop_ok {P : Program} (go : TypeId → Option (List Sc)) : ∀ (fs : List Field) (off : Nat) (ks : List Sc) (cs : List Value), keyLoop P go fs off = some ks → FlatOk ks (cs.drop off) →
    ∀ f ∈ fs, f.name ≠ "_" ∧ ∃ ks', go f.type = some ks' ∧ P.cellsOf f.type = ks'.length ∧ FlatOk ks' ((cs.drop f.offset).take ks'.length)
  | [], _, _, _, _, _, f, hf => by cases hf
  | g :: fs, off, ks, cs, h, hok, f, hf => by
    simp only [keyLoop] at h
    split at h
    case isFalse => cases h
    case isTrue ho =>
      obtain ⟨ho, hn⟩ := ho
      obtain ⟨k1, h1, h2⟩ := Option.bind_eq_some_iff.1 h
      split at h2
      case isFalse => cases h2
      case isTrue hc =>
        obtain ⟨k2, h3, rfl⟩ := Option.map_eq_some_iff.1 h2
        obtain ⟨o1, o2⟩ := FlatOk.parts hok
        rw [List.drop_drop] at o2
        rcases List.mem_cons.1 hf with rfl | hf
        · exact ⟨by simpa using hn, k1, h1, hc, by rw [ho]; exact o1⟩
        · exact keyLoop_ok go fs (off + k1.length) k2 cs h3 o2 f hf
theorem flatRep_part {ks : List Sc} : ∀ (m : Nat) (cs : List Value), FlatOk (List.replicate m ks).flatten cs → ∀ i, i < m → FlatOk ks ((cs.drop (i * ks.length)).take ks.length)
  | 0, _, _, i, hi => by omega
  | m + 1, cs, h, i, hi => by
    rw [List.replicate_succ, List.flatten_cons] at h
    obtain ⟨h1, h2⟩ := FlatOk.parts h
    cases i with
    | zero => simpa using h1
    | succ i =>
      have := flatRep_part m _ h2 i (by omega)
      rwa [List.drop_drop, show ks.length + i * ks.length = (i + 1) * ks.length by rw [Nat.succ_mul]; omega] at this
theorem flatK_lits {P : Program} : ∀ (n : Nat) (t : TypeId) (ks : List Sc) (cs : List Value), flatK P n t = some ks → FlatOk ks cs → ∀ m, n ≤ m → ∃ ls, P.keyLits m t cs = some ls := by
  intro n
  induction n with
  | zero => intro t ks cs h; simp [flatK] at h
  | succ n ih =>
    intro t ks cs h hok m hm
    obtain ⟨m, rfl⟩ : ∃ m', m = m' + 1 := ⟨m - 1, by omega⟩
    simp only [flatK] at h
    split at h
    · rename_i hu
      obtain rfl : [Sc.bool] = ks := by injection h
      match cs, hok with
      | [v], ⟨⟨b, hb⟩, _⟩ => subst hb; exact ⟨[.bool b], by simp [Program.keyLits, hu]⟩
    · rename_i k hu
      obtain rfl : [Sc.int k] = ks := by injection h
      match cs, hok with
      | [v], ⟨⟨z, hz, hw⟩, _⟩ => subst hz; exact ⟨[.int k z], by simp [Program.keyLits, hu, hw]⟩
    · rename_i hu
      obtain rfl : [Sc.str] = ks := by injection h
      match cs, hok with
      | [v], ⟨⟨z, hz, hw⟩, _⟩ => subst hz; exact ⟨[.string z.data.toList], by simp [Program.keyLits, hu, hw]⟩
    · rename_i fs hu
      obtain ⟨ks', h1, h2⟩ := Option.bind_eq_some_iff.1 h
      split at h2
      case isFalse => cases h2
      case isTrue hc =>
        simp only [Option.some.injEq] at h2
        subst h2
        have hl := hok.len
        have hf := keyLoop_ok (P := P) (flatK P n) fs.toList 0 ks' cs h1 (by simpa using hok)
        have hall : fs.all (·.name != "_") = true := Array.all_eq_true_iff_forall_mem.2 fun f hf' => by simpa using (hf f (by simpa using hf')).1
        obtain ⟨ys, hys⟩ := mapM_some (fun f : Field => P.keyLits m f.type ((cs.drop f.offset).take (P.cellsOf f.type))) fs.toList (fun f hf' => by
          obtain ⟨_, k1, g1, g2, g3⟩ := hf f hf'
          rw [g2]; exact ih f.type k1 _ g1 g3 m (by omega))
        refine ⟨ys.flatten, ?_⟩
        unfold Program.keyLits
        rw [hu]
        simp only
        rw [if_pos ⟨by rw [hl, hc], hall⟩, hys]; rfl
    · rename_i mm e hu
      obtain ⟨ks', h1, h2⟩ := Option.bind_eq_some_iff.1 h
      split at h2
      case isFalse => cases h2
      case isTrue hc =>
        simp only [Option.some.injEq] at h2
        subst h2
        obtain ⟨hce, hct⟩ := hc
        have hl := hok.len
        obtain ⟨ys, hys⟩ := mapM_some (fun i : Nat => P.keyLits m e ((cs.drop (i * P.cellsOf e)).take (P.cellsOf e))) (List.range mm) (fun i hi => by
          rw [hce]
          exact ih e ks' _ h1 (flatRep_part mm cs hok i (List.mem_range.1 hi)) m (by omega))
        refine ⟨ys.flatten, ?_⟩
        unfold Program.keyLits
        rw [hu]
        simp only
        rw [if_pos (by rw [hl, hct, List.length_flatten]; simp), hys]; rfl
    · cases h
theorem keyOf_flat {P : Program} {k : TypeId} {ks : List Sc} (hf : flatK P 6 k = some ks) (hwide : (match P.underlying k with | some (.array _ _) | some (.struct _) => true | _ => false) = true) (hk : P.keyType k = true) (hc : P.cellsOf k = ks.length) (hs : 6 ≤ P.types.size)
    {cs : List Value} (hok : FlatOk ks cs) : ∃ kl, keyOf P k (.agg cs.toArray) = some kl := by
  obtain ⟨ls, hls⟩ := flatK_lits 6 k ks cs hf hok (P.types.size + 1) (by omega)
  refine ⟨.string (keyBytes ls), ?_⟩
  unfold keyOf
  split at hwide
  · rename_i hu; rw [hu]; simp [hk, Value.formed, hu, hc, hok.len, Value.cells, hls]
  · rename_i hu; rw [hu]; simp [hk, Value.formed, hu, hc, hok.len, Value.cells, hls]
  · cases hwide
end Go.Proofs.YtihggkmjalofiaaGreatDoor

/- An element of a slice of structs or arrays, read as a whole. No program in sight but as a variable. -/
namespace Go.Proofs.YtihggkmjalofiaaGreatDoor
open Go.RowKit

theorem flatMap_get {α : Type} (enc : α → List Value) {size : Nat} (l : List α) (henc : ∀ x ∈ l, (enc x).length = size) (k j : Nat) (hk : k < l.length) (hj : j < size) : (l.flatMap enc)[k * size + j]? = (enc l[k])[j]? := by
  have h := flatten_get (c := size) (l.map enc) (fun x hx => by obtain ⟨y, hy, rfl⟩ := List.mem_map.1 hx; exact henc y hy) k j hj
  rw [← List.flatMap_def] at h
  rw [h]; simp [hk]
theorem flatMap_len {α : Type} (enc : α → List Value) {size : Nat} (l : List α) (henc : ∀ x ∈ l, (enc x).length = size) : (l.flatMap enc).length = l.length * size := by
  rw [List.flatMap_def, flatten_len (c := size) _ (fun x hx => by obtain ⟨y, hy, rfl⟩ := List.mem_map.1 hx; exact henc y hy)]
  simp
/-- the element k of a slice -/
theorem Sl.rowAt {α : Type} {enc : α → List Value} {w : World} {B size n : Nat} {A : Option Addr} {l : List α} (h : Sl w B size A n (l.flatMap enc)) (hn : l.length = n) (henc : ∀ x ∈ l, (enc x).length = size) {k : Nat} (hk : k < l.length) :
    ∃ b o, A = some ⟨b, o, none⟩ ∧ b < B ∧ w.rangeAt b (o + k * size) (enc l[k]) := by
  obtain ⟨b, o, e, hb, hc⟩ := h.2 (by omega)
  refine ⟨b, o, e, hb, fun j v hj => ?_⟩
  have hjl : j < size := by
    have := henc l[k] (List.getElem_mem hk)
    have := (List.getElem?_eq_some_iff.1 hj).1
    omega
  have hlt : k * size + j < n * size := by
    have : k * size + size ≤ n * size := by rw [← Nat.succ_mul]; exact Nat.mul_le_mul_right _ (by omega)
    omega
  rw [Nat.add_assoc, hc _ hlt, flatMap_get enc l henc k j hk hjl]
  exact hj
theorem rangeAt_keep {w w' : World} {b o : Nat} {cs : List Value} (h : w.rangeAt b o cs) (hk : ∀ j, w'.cell? ⟨b, j, none⟩ = w.cell? ⟨b, j, none⟩) : w'.rangeAt b o cs := fun j v hv => (hk _).trans (h j v hv)
theorem rangeAt_below {w w' : World} {b o B : Nat} {cs : List Value} (h : w.rangeAt b o cs) (hb : Below B w w') (hB : b < B) : w'.rangeAt b o cs := rangeAt_keep h fun j => hb.cell (p := ⟨b, j, none⟩) hB
/-- a whole struct or array out of the middle of a block, read in a region that draws its order and leaves what S says -/
theorem wpQuiet_load_mid {P : Program} {ops : Array Oper} {S : World → Prop} {Q : Act → Prop} {rest : List Oper} {tmps : List Value} {ds : List Deferred} {d : Nat} {ty rt : TypeId} {x : Operand} {pos : String} {after : Array Edge} {gd : Option (Nat × Bool)} {b o : Nat} {cs : List Value} {D : TypeDesc}
    (hB : ∀ w', S w' → w'.rangeAt b o cs) (hu : P.underlying ty = some D) (hd : D.isRow = true) (hi : (P.info? ty).map (·.size) = some cs.length)
    (hw : Region.wanted ⟨some d, .load ty x, rt, pos, after, gd⟩ (yielded ops tmps.toArray) = true) (hx : Act.eval ⟨tmps.toArray, ds⟩ x = .pointer (some ⟨b, o, none⟩))
    (h : wpQuiet P ops S Q rest ⟨(tmps.set d (.agg cs.toArray)).toArray, ds⟩) :
    wpQuiet P ops S Q (⟨some d, .load ty x, rt, pos, after, gd⟩ :: rest) ⟨tmps.toArray, ds⟩ := by
  refine wpQuiet_step fun K hK => ?_
  rw [if_pos hw]
  refine ⟨.agg cs.toArray, ?_, hK _ ?_⟩
  · intro w hw'
    unfold Oper.quietAt execOp
    simp only [hx, Instr.loadAt, Instr.sureAddr, Sem.run_bind, Sem.run_pure, Result.andThen_ok, run_loadVar_mid w b o ty cs D (hB w hw') hu hd hi]
    exact ⟨rfl, rfl⟩
  · have e : (Act.put ⟨tmps.toArray, ds⟩ (some d) (.agg cs.toArray)) = ⟨(tmps.set d (.agg cs.toArray)).toArray, ds⟩ := by simp [Act.put]
    rw [e]; exact h
theorem rangeAt_drewN2 {w0 : World} {q b o : Nat} {cs : List Value} (h : w0.rangeAt b o cs) : ∀ w', (∃ n, w' = (w0.drewN q).drewN n) → w'.rangeAt b o cs := by
  rintro _ ⟨n, rfl⟩; exact h
theorem rangeAt_drewN1 {w0 : World} {b o : Nat} {cs : List Value} (h : w0.rangeAt b o cs) : ∀ w', (∃ n, w' = w0.drewN n) → w'.rangeAt b o cs := by
  rintro _ ⟨n, rfl⟩; exact h
theorem flatMap_map {α β : Type} (f : α → β) (l : List α) : l.flatMap (fun x => [f x]) = l.map f := by
  induction l with
  | nil => rfl
  | cons x l ih => simp [ih]
end Go.Proofs.YtihggkmjalofiaaGreatDoor

/- Regions that draw their order, step by step: a map's entry looked up, taken and stored. No program in sight but as a variable. -/
namespace Go.Proofs.YtihggkmjalofiaaGreatDoor
open Go.RowKit

section
variable {P : Program} {ops : Array Oper} {Q : Exit → Act → World → Prop} {S : World → Prop} {K : Act → World → Prop} {a : Act} {w w' : World} {d : Option Tmp} {ty t : TypeId} {pos : String} {after : Array Edge} {gd : Option (Nat × Bool)}
theorem wp_looked {m x : Operand} {mv kv v : Value} {ok : Bool} (hm : a.eval m = mv) (hx : a.eval x = kv) (hr : (Instr.lookup t mv kv ok).run P w = .ok v w) (h : K (a.put d v) w) : Oper.wp P ⟨d, .lookup t m x ok, ty, pos, after, gd⟩ a w K Q := by
  unfold Oper.wp execOp
  simp only [hm, hx, Sem.run_bind, hr, Result.andThen_ok, Sem.run_pure]
  exact h
theorem wp_entered {m x : Operand} {mv kv v : Value} (hm : a.eval m = mv) (hx : a.eval x = kv) (hr : (Instr.mapEntry t mv kv).run P w = .ok v w') (h : K (a.put d v) w') : Oper.wp P ⟨d, .mapEntry t m x, ty, pos, after, gd⟩ a w K Q := by
  unfold Oper.wp execOp
  simp only [hm, hx, Sem.run_bind, hr, Result.andThen_ok, Sem.run_pure]
  exact h
theorem wp_estored {m s x : Operand} {mv sv v : Value} (hm : a.eval m = mv) (hs : a.eval s = sv) (hx : a.eval x = v) (hr : (Instr.entryStore t mv sv v).run P w = .ok () w') (h : K a w') : Oper.wp P ⟨none, .entryStore t m s x, ty, pos, after, gd⟩ a w K Q := by
  unfold Oper.wp execOp
  simp only [hm, hs, hx, Sem.run_bind, hr, Result.andThen_ok, Sem.run_pure]
  exact h
theorem wp_extracted {x : Operand} {vs : Array Value} {i : Nat} {v : Value} (hx : a.eval x = .tuple vs) (hi : vs[i]? = some v) (h : K (a.put d v) w) : Oper.wp P ⟨d, .extract x i, ty, pos, after, gd⟩ a w K Q := by
  unfold Oper.wp execOp
  simp [hx, Instr.extract, hi]
  exact h
theorem wp_computed {op : BinOp} {x y : Operand} {xv yv v : Value} {rt : TypeId} (hx : a.eval x = xv) (hy : a.eval y = yv) (hg : (eqGuard op t x y xv yv).run P w = .ok () w) (hr : (binOp op t xv yv).run P w = .ok v w) (h : K (a.put d v) w) : Oper.wp P ⟨d, .binOp op t x y rt, ty, pos, after, gd⟩ a w K Q := by
  unfold Oper.wp execOp
  simp only [hx, hy, Sem.run_bind, hg, hr, Result.andThen_ok, Sem.run_pure]
  exact h
theorem wp_assigned {x : Operand} {v : Value} (hx : a.eval x = v) (h : K (a.put d v) w) : Oper.wp P ⟨d, .assign x, ty, pos, after, gd⟩ a w K Q := by
  unfold Oper.wp execOp
  simp only [hx, Sem.run_pure]
  exact h
theorem take_move {d : Tmp} {x : Operand} {v : Value} {i fuel : Nat} {ls : Array Bool} {md : Region.Mode} (hi : ops[i]? = some ⟨some d, .move x, ty, pos, after, gd⟩)
    (hs : Region.noSelect ops = true) (hf : Region.free md ops ls i = true) (hr : (Region.ready md ops ls).contains i = true) (hQ : ∀ c (a : Act) (w : World), Q (.panic c) (a.put (some d) v) w → Q (.panic c) a w)
    (hw : Region.wanted ⟨some d, .move x, ty, pos, after, gd⟩ (yielded ops a.tmps) = true) (hx : a.eval x = v) (hS : S w)
    (h : wpAnyH P md ops Q S fuel (ls.setIfInBounds i true) (a.put (some d) v) w) : wpAnyH P md ops Q S (fuel + 1) ls a w :=
  wpAnyH_take (oi := ⟨some d, .move x, ty, pos, after, gd⟩) hi hs hf hr hQ (.inl ⟨hw, fun w' _ => by unfold execOp; simp only [hx, Sem.run_pure]⟩) hS h
end
end Go.Proofs.YtihggkmjalofiaaGreatDoor

/- Regions that draw their order, step by step: what an operation yields. No program in sight but as a variable. -/
namespace Go.Proofs.YtihggkmjalofiaaGreatDoor
open Go.RowKit

theorem takeV {P : Program} {ops : Array Oper} {Q : Exit → Act → World → Prop} {S : World → Prop} {a : Act} {w : World} {d : Tmp} {op : Op} {ty : TypeId} {pos : String} {after : Array Edge} {gd : Option (Nat × Bool)} {v : Value} {i fuel : Nat} {ls : Array Bool} {md : Region.Mode} (hi : ops[i]? = some ⟨some d, op, ty, pos, after, gd⟩)
    (hs : Region.noSelect ops = true) (hf : Region.free md ops ls i = true) (hr : (Region.ready md ops ls).contains i = true) (hQ : ∀ c (a : Act) (w : World), Q (.panic c) (a.put (some d) v) w → Q (.panic c) a w)
    (hw : Region.wanted ⟨some d, op, ty, pos, after, gd⟩ (yielded ops a.tmps) = true) (hx : ∀ w', S w' → (execOp a.eval ⟨some d, op, ty, pos, after, gd⟩).run P w' = .ok (.value v) w') (hS : S w)
    (h : wpAnyH P md ops Q S fuel (ls.setIfInBounds i true) (a.put (some d) v) w) : wpAnyH P md ops Q S (fuel + 1) ls a w :=
  wpAnyH_take (oi := ⟨some d, op, ty, pos, after, gd⟩) hi hs hf hr hQ (.inl ⟨hw, hx⟩) hS h
section
variable {ρ : Operand → Value} {d : Option Tmp} {s ty : TypeId} {x y : Operand} {pos : String} {after : Array Edge} {gd : Option (Nat × Bool)} {v pv iv : Value} {P : Program} {w : World}
theorem exField {i : Nat} (hx : ρ x = pv) (hr : (Instr.fieldAt s pv i).run P w = .ok v w) : (execOp ρ ⟨d, .fieldAddr s x i, ty, pos, after, gd⟩).run P w = .ok (.value v) w := by
  unfold execOp; simp only [hx, Sem.run_bind, hr, Result.andThen_ok, Sem.run_pure]
theorem exIndex (hx : ρ x = pv) (hy : ρ y = iv) (hr : (Instr.indexAt s pv iv).run P w = .ok v w) : (execOp ρ ⟨d, .indexAddr s x y, ty, pos, after, gd⟩).run P w = .ok (.value v) w := by
  unfold execOp; simp only [hx, hy, Sem.run_bind, hr, Result.andThen_ok, Sem.run_pure]
theorem exLoad (hx : ρ x = pv) (hr : (Instr.loadAt s pv).run P w = .ok v w) : (execOp ρ ⟨d, .load s x, ty, pos, after, gd⟩).run P w = .ok (.value v) w := by
  unfold execOp; simp only [hx, Sem.run_bind, hr, Result.andThen_ok, Sem.run_pure]
theorem exBuild {parts : Array (Nat × Operand)} {vs : Array (Nat × Value)} (hvs : (parts.map fun (i, x) => (i, ρ x)) = vs) (hr : (Instr.build s vs).run P w = .ok v w) : (execOp ρ ⟨d, .build s parts, ty, pos, after, gd⟩).run P w = .ok (.value v) w := by
  unfold execOp; simp only [hvs, Sem.run_bind, hr, Result.andThen_ok, Sem.run_pure]
theorem exExtract {vs : Array Value} {i : Nat} (hx : ρ x = .tuple vs) (hi : vs[i]? = some v) : (execOp ρ ⟨d, .extract x i, ty, pos, after, gd⟩).run P w = .ok (.value v) w := by
  unfold execOp; simp [hx, Instr.extract, hi]
end
theorem wpStored1 {P : Program} {Q : Exit → Act → World → Prop} {K : Act → World → Prop} {a : Act} {w w' : World} {rt : TypeId} {pos : String} {after : Array Edge} {gd : Option (Nat × Bool)} {ty : TypeId} {x y : Operand} {pv v : Value} (hx : a.eval x = pv) (hy : a.eval y = v)
    (hr : (Instr.storeAt ty pv v).run P w = .ok () w') (h : K a w') : Oper.wp P ⟨none, .store ty x y, rt, pos, after, gd⟩ a w K Q := by
  unfold Oper.wp execOp
  simp only [hx, hy, Sem.run_bind, hr, Result.andThen_ok, Sem.run_pure]
  exact h
/-- a row of other elements than a block's stays, whatever is written into the block -/
theorem own_rowFar {w : World} {base g : Nat} {e t : TypeId} {size n : Nat} {v : Value} {xs : List Value} {cs cs' : Array Value} (h : w.ownsRow base e size v n xs) (hg : Blk w g t cs) (hne : e ≠ t) : (w.setRow g cs').ownsRow base e size v n xs := by
  obtain ⟨h1, h2⟩ := h
  refine ⟨h1, ?_⟩
  rcases h2 with h2 | ⟨b, cap, cur, rfl, hb, hh, r⟩
  · exact .inl h2
  · refine .inr ⟨b, cap, cur, rfl, hb, ?_, r⟩
    have : b ≠ g := by
      rintro rfl
      unfold Blk at hg
      rw [hh] at hg
      injection hg with hg
      injection hg with _ ht _
      exact hne ht
    rw [setRow_other w g b cs' this]
    exact hh
end Go.Proofs.YtihggkmjalofiaaGreatDoor

/- Regions that draw their order, step by step: what holds of all worlds holds until an operation of a list Z comes, which waits for whatever is taken first. No program in sight but as a variable. -/
namespace Go.Proofs.YtihggkmjalofiaaGreatDoor
open Go.RowKit

section
variable {P : Program} {ops : Array Oper} {Q : Exit → Act → World → Prop} {md : Region.Mode} {S : World → Prop} {Z : List Nat}
def cleanZ (Z : List Nat) (ls : Array Bool) : Bool := Z.all fun z => !ls.getD z true
theorem cleanZ_iff {ls : Array Bool} : cleanZ Z ls = true ↔ ∀ z ∈ Z, ls.getD z true = false := by
  unfold cleanZ
  rw [List.all_eq_true]
  exact forall_congr' fun z => forall_congr' fun _ => by simp
theorem cleanZ_set {ls : Array Bool} {j : Nat} (hj : j ∉ Z) : cleanZ Z (ls.setIfInBounds j true) = true ↔ cleanZ Z ls = true := by
  rw [cleanZ_iff, cleanZ_iff]
  exact forall_congr' fun z => forall_congr' fun hz => by
    have hne : j ≠ z := fun e => hj (by rw [e]; exact hz)
    rw [getD_set_ne true hne]
def wpAnyZ (P : Program) (md : Region.Mode) (ops : Array Oper) (Q : Exit → Act → World → Prop) (S : World → Prop) (Z : List Nat) : Nat → Array Bool → Act → World → Prop
  | 0, ls, a, w => Region.ready md ops ls = [] ∧ Q .normal a w
  | fuel + 1, ls, a, w =>
    (Region.ready md ops ls = [] → Q .normal a w) ∧
    ∀ i ∈ Region.ready md ops ls, wpOp P ops Q i (fun a' w' => (cleanZ Z (ls.setIfInBounds i true) = true → S w') ∧ wpAnyZ P md ops Q S Z fuel (ls.setIfInBounds i true) a' w') a w
theorem wpAny_of_Z : ∀ (fuel : Nat) (ls : Array Bool) (a : Act) (w : World), wpAnyZ P md ops Q S Z fuel ls a w → wpAny P md ops Q fuel ls a w
  | 0, _, _, _, h => h
  | fuel + 1, _, _, _, h => ⟨h.1, fun i hi => wpOp_mono (fun a' w' h' => wpAny_of_Z fuel _ a' w' h'.2) (h.2 i hi)⟩
theorem wpAnyZ_first {i : Nat} {oi : Oper} {v : Value} (hi : ops[i]? = some oi) (hsel : ∀ (j : Nat) (o : Oper) cs b, ops[j]? = some o → o.op ≠ .select cs b)
    (hQ : ∀ c a w, Q (.panic c) (a.put oi.dst v) w → Q (.panic c) a w) (hiZ : i ∉ Z) (hZ : ∀ z ∈ Z, Region.waitsFor md ops z i = true) :
    ∀ (fuel : Nat) (listed : Array Bool) (a : Act) (w : World),
      (∀ j oj, ops[j]? = some oj → j ≠ i → listed.getD j true = false → (∀ e ∈ oj.after, Region.binds md e = true → e.on ≠ i) → oi.apart ops oj = true) →
      i ∈ Region.ready md ops listed → YieldsIf P ops S oi v a → cleanZ Z listed = true → S w →
      wpAnyZ P md ops Q S Z fuel (listed.setIfInBounds i true) (a.put oi.dst v) w → wpAnyZ P md ops Q S Z (fuel + 1) listed a w := by
  intro fuel
  induction fuel with
  | zero =>
    intro listed a w _ hr hy hC hS H
    refine ⟨fun h => (by rw [h] at hr; cases hr), fun j hj => ?_⟩
    by_cases hji : j = i
    · subst hji; exact hy.wpOp hi hS ⟨fun _ => hS, H⟩
    · have := ready_mono hj hji
      rw [H.1] at this
      cases this
  | succ fuel ih =>
    intro listed a w hfree hr hy hC hS H
    refine ⟨fun h => (by rw [h] at hr; cases hr), fun j hj => ?_⟩
    by_cases hji : j = i
    · subst hji; exact hy.wpOp hi hS ⟨fun _ => hS, H⟩
    · have h1 := H.2 j (ready_mono hj hji)
      obtain ⟨hjun, oj, hoj, hall⟩ := mem_ready.1 hj
      have hun := (mem_ready.1 hr).1
      have hnot : ∀ e ∈ oj.after, Region.binds md e = true → e.on ≠ i := fun e he hb heq => by
        have h1 := hall e he hb
        rw [heq, getD_both hun] at h1
        cases h1
      have hjZ : j ∉ Z := fun hz => by
        obtain ⟨o', ho', e, he, hb, hon⟩ := Region.waitsFor_spec (hZ j hz)
        have : o' = oj := Option.some.inj (ho'.symm.trans hoj)
        subst this
        exact hnot e he hb hon
      have h2 := wpOp_putIf hoj (hfree j oj hoj hji hjun hnot) (fun cs b => hsel i oi cs b hi) (fun cs b => hsel j oj cs b hoj) hQ hy h1
      have hfree' : ∀ k ok, ops[k]? = some ok → k ≠ i → (listed.setIfInBounds j true).getD k true = false →
          (∀ e ∈ ok.after, Region.binds md e = true → e.on ≠ i) → oi.apart ops ok = true := fun k ok hk hki hun hno => by
        refine hfree k ok hk hki ?_ hno
        by_cases hjk : j = k
        · subst hjk; exact hjun
        · rw [getD_set_ne true hjk] at hun; exact hun
      have hC' : cleanZ Z (listed.setIfInBounds j true) = true := (cleanZ_set hjZ).2 hC
      have hC2 : cleanZ Z ((listed.setIfInBounds i true).setIfInBounds j true) = true := (cleanZ_set hjZ).2 ((cleanZ_set hiZ).2 hC)
      refine wpOp_mono (fun a' w' h3 => ⟨fun _ => h3.2.1 hC2, ih (listed.setIfInBounds j true) a' w' hfree' (ready_mono hr (Ne.symm hji)) h3.1 hC' (h3.2.1 hC2) ?_⟩) h2
      rw [Array.setIfInBounds_comm _ _ hji]
      exact h3.2.2
/-- number i is taken first -/
theorem wpAnyZ_take {i : Nat} {oi : Oper} {v : Value} {fuel : Nat} {listed : Array Bool} {a : Act} {w : World} (hi : ops[i]? = some oi)
    (hs : Region.noSelect ops = true) (hf : Region.free md ops listed i = true) (hr : (Region.ready md ops listed).contains i = true) (hz : (!Z.contains i && Z.all fun z => Region.waitsFor md ops z i) = true) (hC : cleanZ Z listed = true)
    (hQ : ∀ c a w, Q (.panic c) (a.put oi.dst v) w → Q (.panic c) a w) (hy : YieldsIf P ops S oi v a) (hS : S w)
    (h : wpAnyZ P md ops Q S Z fuel (listed.setIfInBounds i true) (a.put oi.dst v) w) : wpAnyZ P md ops Q S Z (fuel + 1) listed a w := by
  rw [Bool.and_eq_true] at hz
  exact wpAnyZ_first hi (Region.noSelect_spec hs) hQ (by simpa using hz.1) (List.all_eq_true.1 hz.2) fuel listed a w (Region.free_spec hi hf) (by simpa using hr) hy hC hS h
theorem wpAnyZ_all {rs : List Nat} {fuel : Nat} {listed : Array Bool} {a : Act} {w : World} (hr : Region.ready md ops listed = rs) (hne : rs ≠ [])
    (h : ∀ i ∈ rs, wpOp P ops Q i (fun a' w' => (cleanZ Z (listed.setIfInBounds i true) = true → S w') ∧ wpAnyZ P md ops Q S Z fuel (listed.setIfInBounds i true) a' w') a w) : wpAnyZ P md ops Q S Z (fuel + 1) listed a w :=
  ⟨fun h0 => absurd (hr ▸ h0) hne, hr ▸ h⟩
theorem wpAnyZ_done {listed : Array Bool} {a : Act} {w : World} (hr : Region.ready md ops listed = []) (h : Q .normal a w) : ∀ fuel, wpAnyZ P md ops Q S Z fuel listed a w
  | 0 => ⟨hr, h⟩
  | _ + 1 => ⟨fun _ => h, by rw [hr]; simp⟩
theorem wp_region_Z {id : Nat} {a : Act} {w : World} (hm : P.follows .mixedOrders = true)
    (h : wpAnyZ P .any ops Q S Z ops.size (Array.replicate ops.size false) a w.drew) : (Code.region id ops true).wp P Q a w :=
  wp_region_any hm (wpAny_of_Z _ _ _ _ h)
theorem noZ {b : Bool} {p : Prop} (hb : b = false) : b = true → p := fun h => by rw [hb] at h; cases h
variable {a : Act} {w : World} {d : Tmp} {ty t : TypeId} {x : Operand} {pos : String} {after : Array Edge} {gd : Option (Nat × Bool)} {v : Value} {i fuel : Nat} {ls : Array Bool}
theorem zV {op : Op} (hi : ops[i]? = some ⟨some d, op, ty, pos, after, gd⟩)
    (hs : Region.noSelect ops = true) (hf : Region.free md ops ls i = true) (hr : (Region.ready md ops ls).contains i = true) (hz : (!Z.contains i && Z.all fun z => Region.waitsFor md ops z i) = true) (hC : cleanZ Z ls = true) (hQ : ∀ c (a : Act) (w : World), Q (.panic c) (a.put (some d) v) w → Q (.panic c) a w)
    (hw : Region.wanted ⟨some d, op, ty, pos, after, gd⟩ (yielded ops a.tmps) = true) (hx : ∀ w', S w' → (execOp a.eval ⟨some d, op, ty, pos, after, gd⟩).run P w' = .ok (.value v) w') (hS : S w)
    (h : wpAnyZ P md ops Q S Z fuel (ls.setIfInBounds i true) (a.put (some d) v) w) : wpAnyZ P md ops Q S Z (fuel + 1) ls a w :=
  wpAnyZ_take (oi := ⟨some d, op, ty, pos, after, gd⟩) hi hs hf hr hz hC hQ (.inl ⟨hw, hx⟩) hS h
theorem zSkip {op : Op} (hi : ops[i]? = some ⟨some d, op, ty, pos, after, gd⟩)
    (hs : Region.noSelect ops = true) (hf : Region.free md ops ls i = true) (hr : (Region.ready md ops ls).contains i = true) (hz : (!Z.contains i && Z.all fun z => Region.waitsFor md ops z i) = true) (hC : cleanZ Z ls = true) (hQ : ∀ c (a : Act) (w : World), Q (.panic c) (a.put (some d) undef) w → Q (.panic c) a w)
    (hw : Region.wanted ⟨some d, op, ty, pos, after, gd⟩ (yielded ops a.tmps) = false) (hS : S w)
    (h : wpAnyZ P md ops Q S Z fuel (ls.setIfInBounds i true) (a.put (some d) undef) w) : wpAnyZ P md ops Q S Z (fuel + 1) ls a w :=
  wpAnyZ_take (oi := ⟨some d, op, ty, pos, after, gd⟩) hi hs hf hr hz hC hQ (.inr ⟨hw, rfl⟩) hS h
end
end Go.Proofs.YtihggkmjalofiaaGreatDoor

/- Regions that draw their order, step by step: what yields in whatever world may be taken first at any time. No program in sight but as a variable. -/
namespace Go.Proofs.YtihggkmjalofiaaGreatDoor
open Go.RowKit

section
variable {P : Program} {ops : Array Oper} {Q : Exit → Act → World → Prop} {md : Region.Mode} {S : World → Prop} {Z : List Nat}
theorem wpAnyZ_light {i : Nat} {oi : Oper} {v : Value} (hi : ops[i]? = some oi) (hsel : ∀ (j : Nat) (o : Oper) cs b, ops[j]? = some o → o.op ≠ .select cs b)
    (hQ : ∀ c a w, Q (.panic c) (a.put oi.dst v) w → Q (.panic c) a w) (hiZ : i ∉ Z) :
    ∀ (fuel : Nat) (listed : Array Bool) (a : Act) (w : World),
      (∀ j oj, ops[j]? = some oj → j ≠ i → listed.getD j true = false → (∀ e ∈ oj.after, Region.binds md e = true → e.on ≠ i) → oi.apart ops oj = true) →
      i ∈ Region.ready md ops listed → Yields P ops oi v a → (cleanZ Z listed = true → S w) →
      wpAnyZ P md ops Q S Z fuel (listed.setIfInBounds i true) (a.put oi.dst v) w → wpAnyZ P md ops Q S Z (fuel + 1) listed a w := by
  intro fuel
  induction fuel with
  | zero =>
    intro listed a w _ hr hy hS H
    refine ⟨fun h => (by rw [h] at hr; cases hr), fun j hj => ?_⟩
    by_cases hji : j = i
    · subst hji; exact hy.wpOp hi ⟨fun h => hS ((cleanZ_set hiZ).1 h), H⟩
    · have := ready_mono hj hji
      rw [H.1] at this
      cases this
  | succ fuel ih =>
    intro listed a w hfree hr hy hS H
    refine ⟨fun h => (by rw [h] at hr; cases hr), fun j hj => ?_⟩
    by_cases hji : j = i
    · subst hji; exact hy.wpOp hi ⟨fun h => hS ((cleanZ_set hiZ).1 h), H⟩
    · have h1 := H.2 j (ready_mono hj hji)
      obtain ⟨hjun, oj, hoj, hall⟩ := mem_ready.1 hj
      have hun := (mem_ready.1 hr).1
      have hnot : ∀ e ∈ oj.after, Region.binds md e = true → e.on ≠ i := fun e he hb heq => by
        have h1 := hall e he hb
        rw [heq, getD_both hun] at h1
        cases h1
      have h2 := wpOp_putIf (S := fun _ => True) hoj (hfree j oj hoj hji hjun hnot) (fun cs b => hsel i oi cs b hi) (fun cs b => hsel j oj cs b hoj) hQ hy.yieldsIf h1
      have hfree' : ∀ k ok, ops[k]? = some ok → k ≠ i → (listed.setIfInBounds j true).getD k true = false →
          (∀ e ∈ ok.after, Region.binds md e = true → e.on ≠ i) → oi.apart ops ok = true := fun k ok hk hki hun hno => by
        refine hfree k ok hk hki ?_ hno
        by_cases hjk : j = k
        · subst hjk; exact hjun
        · rw [getD_set_ne true hjk] at hun; exact hun
      have hcl : cleanZ Z (listed.setIfInBounds j true) = true → cleanZ Z ((listed.setIfInBounds i true).setIfInBounds j true) = true := fun h => by
        rw [Array.setIfInBounds_comm _ _ (Ne.symm hji)]
        exact (cleanZ_set hiZ).2 h
      refine wpOp_mono (fun a' w' h3 => ⟨fun h => h3.2.1 (hcl h), ih (listed.setIfInBounds j true) a' w' hfree' (ready_mono hr (Ne.symm hji)) ?_ (fun h => h3.2.1 (hcl h)) ?_⟩) h2
      · rcases h3.1 with ⟨p, q⟩ | q
        · exact .inl ⟨p, fun w => q w trivial⟩
        · exact .inr q
      · rw [Array.setIfInBounds_comm _ _ hji]
        exact h3.2.2
variable {a : Act} {w : World} {d : Tmp} {ty t : TypeId} {x : Operand} {pos : String} {after : Array Edge} {gd : Option (Nat × Bool)} {v : Value} {i fuel : Nat} {ls : Array Bool}
theorem zLight {op : Op} (hi : ops[i]? = some ⟨some d, op, ty, pos, after, gd⟩)
    (hs : Region.noSelect ops = true) (hf : Region.free md ops ls i = true) (hr : (Region.ready md ops ls).contains i = true) (hz : (!Z.contains i) = true) (hQ : ∀ c (a : Act) (w : World), Q (.panic c) (a.put (some d) v) w → Q (.panic c) a w)
    (hw : Region.wanted ⟨some d, op, ty, pos, after, gd⟩ (yielded ops a.tmps) = true) (hx : ∀ w', (execOp a.eval ⟨some d, op, ty, pos, after, gd⟩).run P w' = .ok (.value v) w') (hS : cleanZ Z ls = true → S w)
    (h : wpAnyZ P md ops Q S Z fuel (ls.setIfInBounds i true) (a.put (some d) v) w) : wpAnyZ P md ops Q S Z (fuel + 1) ls a w :=
  wpAnyZ_light (oi := ⟨some d, op, ty, pos, after, gd⟩) hi (Region.noSelect_spec hs) hQ (by simpa using hz) fuel ls a w (Region.free_spec hi hf) (by simpa using hr) (.inl ⟨hw, hx⟩) hS h
end
end Go.Proofs.YtihggkmjalofiaaGreatDoor

/- Keys of a map that counts: each once, in the order of their coming. No program in sight. -/
namespace Go.Proofs.YtihggkmjalofiaaGreatDoor
open Go.RowKit

section
variable {α : Type} [DecidableEq α]
def addU (acc : List α) (x : α) : List α := if x ∈ acc then acc else acc ++ [x]
def uniqU (vs : List α) : List α := vs.foldl addU []
theorem uniqU_snoc {vs : List α} {k : Nat} {x : α} (h : vs[k]? = some x) : uniqU (vs.take (k + 1)) = addU (uniqU (vs.take k)) x := by
  have hk := (List.getElem?_eq_some_iff.1 h).1
  have e : vs.take (k + 1) = vs.take k ++ [x] := by
    rw [List.take_succ_eq_append_getElem hk, (List.getElem?_eq_some_iff.1 h).2]
  unfold uniqU; rw [e, List.foldl_append]; rfl
theorem uniqU_go (vs : List α) : ∀ acc : List α, acc.Nodup → (vs.foldl addU acc).Nodup ∧ (∀ y, y ∈ vs.foldl addU acc ↔ y ∈ acc ∨ y ∈ vs) ∧ (vs.foldl addU acc).length ≤ acc.length + vs.length := by
  induction vs with
  | nil => intro acc h; exact ⟨h, fun y => by simp, by simp⟩
  | cons x vs ih =>
    intro acc h
    rw [List.foldl_cons]
    have h1 : (addU acc x).Nodup := by
      unfold addU
      split
      · exact h
      · rename_i hx
        exact List.nodup_append.2 ⟨h, by simp, fun a ha b hb => by obtain rfl := List.mem_singleton.1 hb; rintro rfl; exact hx ha⟩
    have h2 : ∀ y, y ∈ addU acc x ↔ y ∈ acc ∨ y = x := by
      intro y; unfold addU
      split
      · rename_i hx
        exact ⟨.inl, fun h => h.elim id (fun e => e ▸ hx)⟩
      · simp
    have h3 : (addU acc x).length ≤ acc.length + 1 := by unfold addU; split <;> simp
    obtain ⟨i1, i2, i3⟩ := ih _ h1
    refine ⟨i1, fun y => ?_, by simp only [List.length_cons]; omega⟩
    rw [i2, h2, List.mem_cons, or_assoc]
theorem uniqU_mem (vs : List α) (y : α) : y ∈ uniqU vs ↔ y ∈ vs := by rw [uniqU, (uniqU_go vs [] List.nodup_nil).2.1]; simp
theorem uniqU_len (vs : List α) : (uniqU vs).length ≤ vs.length := by have := (uniqU_go vs [] List.nodup_nil).2.2; simpa [uniqU] using this
variable {key : α → Value} (inj : ∀ x y, key x = key y → x = y)
include inj
theorem uniqKeep {l : List (Value × Value)} {us : List α} (h : l.map (·.1) = us.map key) (x : α) {l' : List (Value × Value)} {val : Value} (hp : PutL l (key x) val l') : l'.map (·.1) = (addU us x).map key := by
  have hm : key x ∈ l.map (·.1) ↔ x ∈ us := by
    rw [h, List.mem_map]
    constructor
    · rintro ⟨y, hy, e⟩; rwa [← inj _ _ e]
    · exact fun hx => ⟨x, hx, rfl⟩
  unfold addU
  rcases hp.keys with ⟨h1, h2⟩ | ⟨h1, h2⟩
  · rw [if_neg (fun hx => h1 (hm.2 hx)), h2, h]; simp
  · rw [if_pos (hm.1 h1), h2, h]
omit [DecidableEq α] in
theorem uniqNew {l : List (Value × Value)} {us : List α} (h : l.map (·.1) = us.map key) {x : α} {z c0 : Value} (hg : GetL l (key x) z c0) : (x ∉ us ∧ c0 = z) ∨ (x ∈ us ∧ (key x, c0) ∈ l) := by
  rcases hg with ⟨h1, h2⟩ | h1
  · refine .inl ⟨fun hx => ?_, h2⟩
    have : key x ∈ l.map (·.1) := by rw [h]; exact List.mem_map.2 ⟨x, hx, rfl⟩
    obtain ⟨p, hp, e⟩ := List.mem_map.1 this
    exact h1 p hp e
  · refine .inr ⟨?_, h1⟩
    have : key x ∈ l.map (·.1) := List.mem_map.2 ⟨_, h1, rfl⟩
    rw [h] at this
    obtain ⟨y, hy, e⟩ := List.mem_map.1 this
    rwa [← inj _ _ e]
end
theorem putL_mem {l l' : List (Value × Value)} {key val : Value} (h : PutL l key val l') : (key, val) ∈ l' := by
  rcases h with ⟨_, rfl⟩ | ⟨j, v0, hj, rfl⟩
  · simp
  · exact List.mem_set (List.getElem?_eq_some_iff.1 hj).1 _
theorem wpList_lookedU {P : Program} {ops : Array Oper} {rest : List Oper} {a : Act} {w : World} {Q : Exit → Act → World → Prop} {d : Option Tmp} {ty t : TypeId} {pos : String} {after : Array Edge} {m x : Operand} {mv kv v : Value} {ok : Bool} (hm : a.eval m = mv) (hx : a.eval x = kv) (hr : (Instr.lookup t mv kv ok).run P w = .ok v w)
    (h : wpList P ops Q rest (a.put d v) w) : wpList P ops Q (⟨d, .lookup t m x ok, ty, pos, after, none⟩ :: rest) a w :=
  wpList_plain rfl fun _ hK => by
    unfold Oper.wp execOp
    simp only [hm, hx, Sem.run_bind, hr, Result.andThen_ok, Sem.run_pure]
    exact hK _ _ h
end Go.Proofs.YtihggkmjalofiaaGreatDoor

/- Arguments opened: structs, arrays and slices, one within another, to whatever depth; no program in sight but as a variable. -/
namespace Go.Proofs.YtihggkmjalofiaaGreatDoor
open Go.ChangeShapes Go.WideShapes Go.RowKit Go.Deep

/-- what a cell holds: a scalar, or a slice whose elements' cells are of these shapes -/
inductive Sh where
  | int (k : IntKind) | bool | str | sl (e : List Sh)
mutual
def Sh.ok (w : World) (B : Nat) : Sh → Value → Prop
  | .int k, v => ∃ n, v = .int k n ∧ (Lit.int k n).wf = true
  | .bool, v => ∃ b, v = .bool b
  | .str, v => ∃ s, v = .string s ∧ s.size ≤ maxLen
  | .sl es, v => ∃ (A : Option Addr) (n c : Nat) (rows : List (List Value)), v = .slice A n c ∧ n ≤ c ∧ c ≤ maxLen ∧ rows.length = n ∧ (∀ r ∈ rows, Sh.oks w B es r) ∧ Sl w B es.length A n rows.flatten
def Sh.oks (w : World) (B : Nat) : List Sh → List Value → Prop
  | [], [] => True
  | s :: ss, v :: vs => s.ok w B v ∧ Sh.oks w B ss vs
  | _, _ => False
end
theorem Sh.oks_len {w : World} {B : Nat} : ∀ {ss : List Sh} {vs : List Value}, Sh.oks w B ss vs → vs.length = ss.length
  | [], [], _ => rfl
  | _ :: ss, _ :: vs, h => by rw [Sh.oks] at h; simp [Sh.oks_len h.2]
  | [], _ :: _, h => by rw [Sh.oks] at h <;> first | exact h.elim | (intros; simp_all)
  | _ :: _, [], h => by rw [Sh.oks] at h <;> first | exact h.elim | (intros; simp_all)
theorem Sh.oks_append {w : World} {B : Nat} : ∀ {ss ss' : List Sh} {vs vs' : List Value}, Sh.oks w B ss vs → Sh.oks w B ss' vs' → Sh.oks w B (ss ++ ss') (vs ++ vs')
  | [], _, [], _, _, h' => h'
  | _ :: _, _, _ :: _, _, h, h' => by rw [Sh.oks] at h; rw [List.cons_append, List.cons_append, Sh.oks]; exact ⟨h.1, Sh.oks_append h.2 h'⟩
  | [], _, _ :: _, _, h, _ => by have := Sh.oks_len h; simp at this
  | _ :: _, _, [], _, h, _ => by have := Sh.oks_len h; simp at this

def shapeLoop (go : TypeId → Option (List Sh)) : List Field → Nat → Option (List Sh)
  | [], _ => some []
  | f :: fs, off => if f.offset = off then (go f.type).bind fun ks => (shapeLoop go fs (off + ks.length)).map (ks ++ ·) else none
/-- the shapes of a type's cells -/
def shape (P : Program) : Nat → TypeId → Option (List Sh)
  | 0, _ => none
  | n + 1, t =>
    match P.underlying t with
    | some .bool => some [.bool]
    | some (.int k) => some [.int k]
    | some .string => some [.str]
    | some (.slice e) => (shape P n e).bind fun es => if P.cellsOf e = es.length ∧ 0 < es.length then some [.sl es] else none
    | some (.struct fs) => (shapeLoop (shape P n) fs.toList 0).bind fun ks => if P.cellsOf t = ks.length then some ks else none
    | some (.array m e) => (shape P n e).bind fun ks => if P.cellsOf e = ks.length ∧ P.cellsOf t = m * ks.length then some (List.replicate m ks).flatten else none
    | _ => none

section
variable {H : Type} {enc : TypeId × Value → H} {P : Program} {w : World} {held : Bool}
theorem shapeLoop_ok (go : TypeId → Option (List Sh)) (hgo : ∀ t ks n cs x, go t = some ks → DataW.trod enc P w 0 (fun _ => true) held n t cs = some x → Sh.oks w w.heap.size ks cs) :
    ∀ (fs : List Field) (off : Nat) (ks : List Sh) (cs : List Value) (n : Nat), shapeLoop go fs off = some ks →
      (∀ f ∈ fs, ∃ x, DataW.trod enc P w 0 (fun _ => true) held n f.type ((cs.drop f.offset).take (P.cellsOf f.type)) = some x) → off + ks.length = cs.length → Sh.oks w w.heap.size ks (cs.drop off)
  | [], off, ks, cs, n, h, _, hl => by
    simp only [shapeLoop, Option.some.injEq] at h
    subst h
    rw [List.drop_eq_nil_of_le (by simp at hl; omega), Sh.oks]
    trivial
  | f :: fs, off, ks, cs, n, h, hx, hl => by
    simp only [shapeLoop] at h
    split at h
    case isFalse => cases h
    case isTrue ho =>
      obtain ⟨k1, h1, h2⟩ := Option.bind_eq_some_iff.1 h
      obtain ⟨k2, h3, rfl⟩ := Option.map_eq_some_iff.1 h2
      obtain ⟨x, hx1⟩ := hx f (by simp)
      have o1 := hgo f.type k1 n _ x h1 hx1
      have l1 := Sh.oks_len o1
      rw [ho] at o1 l1
      have o2 := shapeLoop_ok go hgo fs (off + k1.length) k2 cs n h3 (fun g hg => hx g (by simp [hg])) (by rw [List.length_append] at hl; omega)
      rw [List.length_append] at hl
      have hle : k1.length ≤ P.cellsOf f.type := by rw [← l1, List.length_take]; omega
      have e1 : ((cs.drop off).take (P.cellsOf f.type)) = (cs.drop off).take k1.length := by
        rw [← l1]; rw [List.length_take]
        rcases Nat.le_total (P.cellsOf f.type) (cs.drop off).length with hh | hh
        · rw [Nat.min_eq_left hh]
        · rw [Nat.min_eq_right hh, List.take_length, List.take_of_length_le hh]
      rw [e1] at o1
      have e2 : cs.drop off = (cs.drop off).take k1.length ++ cs.drop (off + k1.length) := by
        rw [← List.drop_drop, List.take_append_drop]
      rw [e2]
      exact Sh.oks_append o1 o2
theorem shapeRep_ok {ks : List Sh} {B : Nat} {cs : List Value} : ∀ (m off : Nat), (∀ i, i < m → Sh.oks w B ks ((cs.drop (off + i * ks.length)).take ks.length)) → off + m * ks.length = cs.length → Sh.oks w B (List.replicate m ks).flatten (cs.drop off)
  | 0, off, _, hl => by
    rw [List.drop_eq_nil_of_le (by omega)]
    show Sh.oks w B [] []
    rw [Sh.oks]; trivial
  | m + 1, off, h, hl => by
    have h0 := h 0 (by omega)
    rw [Nat.zero_mul, Nat.add_zero] at h0
    rw [Nat.succ_mul] at hl
    have hr := shapeRep_ok m (off + ks.length) (fun i hi => by
      have := h (i + 1) (by omega)
      rw [Nat.succ_mul] at this
      rw [show off + ks.length + i * ks.length = off + (i * ks.length + ks.length) by omega]
      exact this) (by omega)
    have e : cs.drop off = (cs.drop off).take ks.length ++ cs.drop (off + ks.length) := by rw [← List.drop_drop, List.take_append_drop]
    rw [e, List.replicate_succ, List.flatten_cons]
    exact Sh.oks_append h0 hr

theorem shape_ok : ∀ (n : Nat) (t : TypeId) (ks : List Sh) (m : Nat) (cs : List Value) (x : DataW H × List MemPlace), shape P n t = some ks → DataW.trod enc P w 0 (fun _ => true) held m t cs = some x → Sh.oks w w.heap.size ks cs := by
  intro n
  induction n with
  | zero => intro t ks m cs x h; simp [shape] at h
  | succ n ih =>
    intro t ks m cs x h hx
    simp only [shape] at h
    split at h
    · rename_i hu
      obtain rfl : [Sh.bool] = ks := by injection h
      cases m with
      | zero => simp [DataW.trod] at hx
      | succ m =>
        unfold DataW.trod at hx
        rw [hu] at hx
        match cs, hx with
        | [.bool b], _ => simp only [Sh.oks, Sh.ok, and_true]; exact ⟨b, rfl⟩
    · rename_i k hu
      obtain rfl : [Sh.int k] = ks := by injection h
      cases m with
      | zero => simp [DataW.trod] at hx
      | succ m =>
        unfold DataW.trod at hx
        rw [hu] at hx
        match cs, hx with
        | [.int k' z], hx =>
          simp only at hx
          split at hx
          case isTrue hk => obtain ⟨rfl, hw⟩ := hk; simp only [Sh.oks, Sh.ok, and_true]; exact ⟨z, rfl, hw⟩
          case isFalse => cases hx
    · rename_i hu
      obtain rfl : [Sh.str] = ks := by injection h
      cases m with
      | zero => simp [DataW.trod] at hx
      | succ m =>
        unfold DataW.trod at hx
        rw [hu] at hx
        match cs, hx with
        | [.string s], hx =>
          simp only at hx
          split at hx
          case isTrue hk => simp only [Sh.oks, Sh.ok, and_true]; exact ⟨s, rfl, hk⟩
          case isFalse => cases hx
    · rename_i e hu
      obtain ⟨es, h1, h2⟩ := Option.bind_eq_some_iff.1 h
      split at h2
      case isFalse => cases h2
      case isTrue hce =>
        obtain ⟨hc, hpos⟩ := hce
        simp only [Option.some.injEq] at h2
        subst h2
        rcases open_slice hu hx with ⟨hcs, _⟩ | ⟨a, len, cap, mm, k, D, Pl, hcs, _, hl, hcm, hmm, _, hi⟩
        · subst hcs
          simp only [Sh.oks, Sh.ok, and_true]
          exact ⟨none, 0, 0, [], rfl, Nat.le_refl _, by simp, rfl, by simp, by simp [Sl]⟩
        · subst hcs
          simp only [if_true] at hmm
          subst hmm
          have hrow : ∀ i, i < len → ∃ cs', w.cells? 0 (a.add (i * es.length)) es.length = some cs' ∧ Sh.oks w w.heap.size es cs' := fun i hin => by
            obtain ⟨cs', g1, g2⟩ := hi i (by omega)
            rw [hc] at g1
            exact ⟨cs', g1, ih e es _ _ _ h1 g2⟩
          let f : Nat → List Value := fun i => (w.cells? 0 (a.add (i * es.length)) es.length).getD []
          have hf1 : ∀ i, i < len → w.cells? 0 (a.add (i * es.length)) es.length = some (f i) ∧ Sh.oks w w.heap.size es (f i) := fun i hin => by
            obtain ⟨cs', g1, g2⟩ := hrow i hin
            have : f i = cs' := by show (w.cells? 0 (a.add (i * es.length)) es.length).getD [] = cs'; rw [g1]; rfl
            rw [this]; exact ⟨g1, g2⟩
          simp only [Sh.oks, Sh.ok, and_true]
          refine ⟨some a, len, _, (List.range len).map f, rfl, hl, hcm, by simp, fun x hx => ?_, ?_, fun hn => ?_⟩
          · obtain ⟨i, hin, rfl⟩ := List.mem_map.1 hx
            exact (hf1 i (List.mem_range.1 hin)).2
          · have := flatten_len (c := es.length) ((List.range len).map f) (fun x hx => by
              obtain ⟨i, hin, rfl⟩ := List.mem_map.1 hx
              exact Sh.oks_len (hf1 i (List.mem_range.1 hin)).2)
            simpa using this
          · have h0 := (World.cells?_some (hf1 0 hn).1).2
            have hl0 := Sh.oks_len (hf1 0 hn).2
            have c0 := h0.2 0 hpos
            rw [List.getElem?_eq_getElem (by omega)] at c0
            have e0 : (a.add (0 * es.length)).add 0 = a := by simp [Addr.add]
            rw [e0] at c0
            have hs := World.cell?_spot c0
            obtain ⟨b, o, sp⟩ := a
            simp only at hs
            subst hs
            refine ⟨b, o, rfl, ?_, fun j hj => ?_⟩
            · rcases Nat.lt_or_ge b w.heap.size with h | h
              · exact h
              · simp [World.cell?, Array.getElem?_eq_none h] at c0
            · have hq : j / es.length < len := (Nat.div_lt_iff_lt_mul hpos).2 hj
              have hr := Nat.mod_lt j hpos
              obtain ⟨g1, g2⟩ := hf1 (j / es.length) hq
              have hc1 := (World.cells?_some g1).2.2 (j % es.length) hr
              rw [add_add, Nat.mul_comm (j / es.length), Nat.div_add_mod] at hc1
              have ea : (⟨b, o, none⟩ : Addr).add j = ⟨b, o + j, none⟩ := by unfold Addr.add; split <;> simp_all
              rw [ea] at hc1
              rw [hc1]
              have := flatten_get (c := es.length) ((List.range len).map f) (fun x hx => by
                obtain ⟨i, hin, rfl⟩ := List.mem_map.1 hx
                exact Sh.oks_len (hf1 i (List.mem_range.1 hin)).2) (j / es.length) (j % es.length) hr
              rw [Nat.mul_comm (j / es.length), Nat.div_add_mod] at this
              rw [this]
              simp [hq]
    · rename_i fs hu
      obtain ⟨ks', h1, h2⟩ := Option.bind_eq_some_iff.1 h
      split at h2
      case isFalse => cases h2
      case isTrue hc =>
        simp only [Option.some.injEq] at h2
        subst h2
        obtain ⟨xs, m', _, _, hlen, hxl, hf⟩ := DataW.trod_struct hu hx
        have := shapeLoop_ok (shape P n) (fun t ks n' cs x h h' => ih t ks n' cs x h h') fs.toList 0 ks' cs m' h1 (fun f hf' => by
          obtain ⟨i, hi, rfl⟩ := List.getElem_of_mem hf'
          have hi' : i < fs.size := by simpa using hi
          have e := hf i fs[i] (Array.getElem?_eq_getElem hi')
          rw [List.getElem?_eq_getElem (by omega)] at e
          exact ⟨_, e⟩) (by rw [hlen, hc]; omega)
        simpa using this
    · rename_i mm e hu
      obtain ⟨ks', h1, h2⟩ := Option.bind_eq_some_iff.1 h
      split at h2
      case isFalse => cases h2
      case isTrue hc =>
        simp only [Option.some.injEq] at h2
        subst h2
        obtain ⟨hce, hct⟩ := hc
        obtain ⟨xs, m', _, _, hlen, hxl, hf⟩ := DataW.trod_array hu hx
        rw [hce] at hf
        have := shapeRep_ok (w := w) (B := w.heap.size) (ks := ks') (cs := cs) mm 0 (fun i hi => by
          have e := hf i hi
          rw [List.getElem?_eq_getElem (by omega)] at e
          rw [Nat.zero_add]
          exact ih _ ks' m' _ _ h1 e) (by rw [hlen, hct]; omega)
        simpa using this
    · cases h

/-- an argument's cells, whatever its type -/
theorem open_nest {t : TypeId} {v : Value} {d : DataW H} {p : List MemPlace} {ks : List Sh} (hf : shape P 9 t = some ks) (h : DataW.Trod enc P w 0 (fun _ => true) held t v d p) : Sh.oks w w.heap.size ks v.cells.toList := by
  obtain ⟨m, hm⟩ := h
  exact shape_ok 9 t ks m _ _ hf hm
/-- a slice -/
theorem open_nest_slice {r : Reach} {b0 : Nat} {t e : TypeId} {v : Value} {d : DataW H} {p : List MemPlace} {es : List Sh} (ht : P.underlying t = some (.slice e)) (hf : shape P 9 t = some [.sl es]) (hv : Value.okWide P w r b0 t v)
    (h : DataW.Trod enc P w 0 (fun _ => true) held t v d p) : ∃ (A : Option Addr) (n c : Nat) (rows : List (List Value)), v = .slice A n c ∧ n ≤ c ∧ c ≤ maxLen ∧ rows.length = n ∧ (∀ x ∈ rows, Sh.oks w w.heap.size es x) ∧ Sl w w.heap.size es.length A n rows.flatten := by
  obtain ⟨a0, n, c, rfl⟩ := okWide_slice ht hv
  have := open_nest hf h
  simp only [Value.cells, Sh.oks, Sh.ok, and_true] at this
  exact this
end
end Go.Proofs.YtihggkmjalofiaaGreatDoor

/- A slice literal of structs, whatever their cells. No program in sight but as a variable. -/
namespace Go.Proofs.YtihggkmjalofiaaGreatDoor
open Go.RowKit

theorem fill_vals {size : Nat} (hpos : 0 < size) (vs : List (List Value)) (hv : ∀ x ∈ vs, x.length = size) (cells : Array Value) (hc : cells.size = vs.length * size) :
    Instr.fill (fun i => some (i * size, size)) cells (((vs.map fun x => Value.agg x.toArray).zipIdx 0).map fun x => (x.2, x.1)) = some vs.flatten.toArray := by
  obtain ⟨r, hr, hsz, hk⟩ := Great.fill_dense hpos (vs.map fun x => Value.agg x.toArray) 0 cells (fun v h => by
    obtain ⟨x, hx, rfl⟩ := List.mem_map.1 h
    simpa [Value.cells] using hv x hx) (by rw [List.length_map, Nat.zero_add, hc]; exact Nat.le_refl _)
  rw [hr]
  congr 1
  apply Array.ext_getElem?
  intro k
  have hf := flatten_len vs hv
  rw [hk k]
  simp only [Nat.zero_mul, Nat.zero_le, true_and, Nat.zero_add, List.length_map, Nat.sub_zero]
  by_cases h : k < vs.length * size
  · rw [if_pos h]
    have hq : k / size < vs.length := (Nat.div_lt_iff_lt_mul hpos).2 h
    have hm := Nat.mod_lt k hpos
    have hg := flatten_get vs hv (k / size) (k % size) hm
    rw [Nat.mul_comm (k / size), Nat.div_add_mod] at hg
    simp only [List.getElem?_toArray]
    rw [hg]
    simp [hq, Value.cells]
  · rw [if_neg h, Array.getElem?_eq_none (by omega)]
    simp only [List.getElem?_toArray]
    rw [List.getElem?_eq_none (by omega)]
section
variable {P : Program} {w : World} {ops : Array Oper} {rest : List Oper} {a : Act} {Q : Exit → Act → World → Prop}
/-- a slice literal of structs -/
theorem wpList_lits {t e : TypeId} {size bytes : Nat} (T : SlT P t e size bytes) {d : Option Tmp} {ty : TypeId} {pos : String} {after : Array Edge} {len : Nat} {parts : Array (Nat × Operand)} (vs : List (List Value)) (hlen : len = vs.length) (hl : 0 < vs.length) (hv : ∀ x ∈ vs, x.length = size)
    (hs : vs.length * size ≤ 16777216) (hx : (parts.map fun (i, x) => (i, a.eval x)).toList = ((vs.map fun x => Value.agg x.toArray).zipIdx 0).map fun x => (x.2, x.1))
    (h : wpList P ops Q rest (a.put d (.slice (some ⟨w.heap.size, 0, none⟩) len len)) (w.alloc (.cells vs.flatten.toArray e))) : wpList P ops Q (⟨d, .buildSlice t len parts, ty, pos, after, none⟩ :: rest) a w := by
  obtain ⟨i, z, hi, hz, hsz, hby, hzs⟩ := T.hi
  have hpos := T.pos
  subst hlen
  have h1 : 0 < vs.length * size := Nat.mul_pos hl hpos
  refine wpList_buildSlice rfl t e vs.length parts rfl vs.flatten.toArray i z T.ht hi hz (by rw [hsz]; omega) (by rw [hsz]; omega) ?_ h
  rw [hx, hsz]
  exact fill_vals hpos vs hv _ (by simp)
/-- .. of one -/
theorem wpList_lit1 {t e : TypeId} {size bytes : Nat} (T : SlT P t e size bytes) {d : Option Tmp} {ty : TypeId} {pos : String} {after : Array Edge} {x : Operand} {cs : List Value} (hl : cs.length = size) (hs : size ≤ 16777216) (hx : a.eval x = .agg cs.toArray)
    (h : wpList P ops Q rest (a.put d (.slice (some ⟨w.heap.size, 0, none⟩) 1 1)) (w.alloc (.cells cs.toArray e))) : wpList P ops Q (⟨d, .buildSlice t 1 #[(0, x)], ty, pos, after, none⟩ :: rest) a w := by
  refine wpList_lits T [cs] rfl (by simp) (by simpa using hl) (by simpa using hs) (by simp [hx]) ?_
  simpa using h
end
end Go.Proofs.YtihggkmjalofiaaGreatDoor

/- Worlds that have only more than another one, blocks and draws; regions that draw their order and whose calls make only such. No program in sight but as a variable. -/
namespace Go.Proofs.YtihggkmjalofiaaGreatDoor
open Go.RowKit

structure Grew (w w' : World) : Prop where
  below : Below w.heap.size w w'
  drawn : w.drawn ≤ w'.drawn
theorem Grew.refl (w : World) : Grew w w := ⟨Below.refl _ _, Nat.le_refl _⟩
theorem Grew.trans {a b c : World} (h : Grew a b) (k : Grew b c) : Grew a c := ⟨ext_trans h.below k.below, Nat.le_trans h.drawn k.drawn⟩
theorem Grew.alloc {a b : World} (h : Grew a b) (o : Obj) : Grew a (b.alloc o) := ⟨h.below.alloc h.below.size _, h.drawn⟩
theorem Grew.drew {a b : World} (h : Grew a b) : Grew a b.drew := ⟨h.below.drew, Nat.le_succ_of_le h.drawn⟩
theorem Grew.drewN {a b : World} (h : Grew a b) (n : Nat) : Grew a (b.drewN n) := ⟨below_drewN h.below n, Nat.le_trans h.drawn (Nat.le_add_right _ _)⟩
theorem Grew.grow {w w' : World} (h : Grew w w') : ∃ q os, w' = Go.Sort.grow (w.drewN q) os := by
  refine ⟨w'.drawn - w.drawn, w'.heap.extract w.heap.size w'.heap.size, ?_⟩
  have hh : w'.heap = w.heap ++ w'.heap.extract w.heap.size w'.heap.size := by
    apply Array.ext_getElem?
    intro k
    rw [Array.getElem?_append]
    split
    · rename_i hk; exact h.below.block k hk
    · rename_i hk
      rw [Array.getElem?_extract]
      have := h.below.size
      split
      · congr 1; omega
      · rw [Array.getElem?_eq_none]; omega
  obtain ⟨heap, tape, drawn, os, output⟩ := w
  obtain ⟨heap', tape', drawn', os', output'⟩ := w'
  have h1 := h.below.os
  have h2 := h.below.tape
  have h3 := h.below.output
  have h4 := h.drawn
  simp only at h1 h2 h3 h4 hh
  subst h1 h2 h3
  simp only [Go.Sort.grow, World.drewN, World.mk.injEq, and_true, true_and]
  exact ⟨hh, by omega⟩
def RetG (w : World) (v : Value) (e : Ending) (w' : World) : Prop := e = .returned v ∧ Grew w w'
structure GExt (w0 : World) where
  w : World
  h : Grew w0 w
instance (w0 : World) : Nonempty (GExt w0) := ⟨⟨w0, Grew.refl _⟩⟩
theorem wp_region_grew {P : Program} {id : Nat} {Q : Exit → Act → World → Prop} {a : Act} {w : World} {l : List Oper} (hm : P.follows .mixedOrders = true) (hB : Region.lexB .any l.toArray = true)
    (h : wpQuiet P l.toArray (fun w' => ∃ z : GExt w, w' = z.w) (fun a' => ∀ w', (∃ z : GExt w, w' = z.w) → Q .normal a' w') l a) : (Code.region id l.toArray true).wp P Q a w :=
  wp_region_quiet (C := fun w' => ∃ z : GExt w, w' = z.w) hm hB ⟨⟨_, (Grew.refl _).drew⟩, rfl⟩ (by simpa using h)
theorem gext_call {P : Program} {f : FuncId} {args : Array Value} {w0 : World} {z : GExt w0} {v : Value}
    (h : Calls P f args z.w (RetG z.w v)) : Calls P f args z.w fun e w'' => e = .returned v ∧ ∃ z' : GExt w0, w'' = z'.w :=
  h.mono fun _ w' ⟨he, hb⟩ => ⟨he, ⟨w', z.h.trans hb⟩, rfl⟩
theorem RetG.of {w w' : World} {v : Value} {e : Ending} (h : Ret w v e w') : RetG w v e w' := ⟨h.1, by rw [← h.2]; exact Grew.refl _⟩
end Go.Proofs.YtihggkmjalofiaaGreatDoor

/- Sets by a number each: plain laws. No program in sight. -/
namespace Go.Proofs.YtihggkmjalofiaaGreatDoor

section
variable {α : Type} (key : α → Int)
def insK (x : α) : List α → List α
  | [] => [x]
  | y :: ys => if key x < key y then x :: y :: ys else if key x = key y then y :: ys else y :: insK x ys
def setK (l : List α) : List α := l.foldl (fun out x => insK key x out) []
def RiseK (l : List α) : Prop := l.Pairwise fun a b => key a < key b
variable {key}
theorem insK_len (x : α) (l : List α) : (insK key x l).length ≤ l.length + 1 := by
  induction l with
  | nil => simp [insK]
  | cons y ys ih =>
    unfold insK
    split
    · simp
    · split
      · simp
      · simp only [List.length_cons]; omega
variable (inj : ∀ x y : α, key x = key y → x = y)
include inj
theorem insK_mem (x : α) (l : List α) (z : α) : z ∈ insK key x l ↔ z = x ∨ z ∈ l := by
  induction l with
  | nil => simp [insK]
  | cons y ys ih =>
    unfold insK
    split
    · simp
    · split
      · rename_i h1 h2
        have := inj _ _ h2
        subst this
        simp only [List.mem_cons]
        exact ⟨fun h => .inr h, fun h => h.elim (fun e => .inl e) id⟩
      · simp only [List.mem_cons, ih]
        exact ⟨fun h => h.elim (fun e => .inr (.inl e)) (fun h => h.elim .inl (fun h => .inr (.inr h))), fun h => h.elim (fun e => .inr (.inl e)) (fun h => h.elim .inl (fun h => .inr (.inr h)))⟩
theorem insK_rise (x : α) (l : List α) (h : RiseK key l) : RiseK key (insK key x l) := by
  induction l with
  | nil => simp [insK, RiseK]
  | cons y ys ih =>
    have hy := List.pairwise_cons.1 h
    unfold insK
    split
    · rename_i h1
      refine List.pairwise_cons.2 ⟨fun z hz => ?_, h⟩
      rcases List.mem_cons.1 hz with rfl | hz
      · exact h1
      · have := hy.1 z hz; omega
    · split
      · exact h
      · rename_i h1 h2
        refine List.pairwise_cons.2 ⟨fun z hz => ?_, ih hy.2⟩
        rcases (insK_mem inj x ys z).1 hz with rfl | hz
        · omega
        · exact hy.1 z hz
theorem setK_go (l : List α) : ∀ out : List α, RiseK key out → RiseK key (l.foldl (fun out x => insK key x out) out) ∧ ∀ z, z ∈ l.foldl (fun out x => insK key x out) out ↔ z ∈ out ∨ z ∈ l := by
  induction l with
  | nil => intro out h; exact ⟨h, fun z => by simp⟩
  | cons x l ih =>
    intro out h
    rw [List.foldl_cons]
    obtain ⟨h1, h2⟩ := ih _ (insK_rise inj x out h)
    refine ⟨h1, fun z => ?_⟩
    rw [h2, insK_mem inj, List.mem_cons]
    exact ⟨fun h => h.elim (fun h => h.elim (fun e => .inr (.inl e)) .inl) (fun h => .inr (.inr h)), fun h => h.elim (fun h => .inl (.inr h)) (fun h => h.elim (fun e => .inl (.inl e)) .inr)⟩
theorem setK_rise (l : List α) : RiseK key (setK key l) := (setK_go inj l [] List.Pairwise.nil).1
theorem setK_mem (l : List α) (z : α) : z ∈ setK key l ↔ z ∈ l := by
  rw [setK, (setK_go inj l [] List.Pairwise.nil).2]; simp
omit inj in
theorem setK_len (l : List α) : (setK key l).length ≤ l.length := by
  have go : ∀ (l out : List α), (l.foldl (fun out x => insK key x out) out).length ≤ out.length + l.length := by
    intro l
    induction l with
    | nil => intro out; simp
    | cons x l ih =>
      intro out
      rw [List.foldl_cons]
      have h1 := ih (insK key x out)
      have h2 := insK_len (key := key) x out
      simp only [List.length_cons]; omega
  have := go l []
  simpa [setK] using this
omit inj in
theorem rise_eq : ∀ {a b : List α}, RiseK key a → RiseK key b → (∀ z, z ∈ a ↔ z ∈ b) → a = b
  | [], [], _, _, _ => rfl
  | [], y :: b, _, _, h => absurd ((h y).2 (by simp)) (by simp)
  | x :: a, [], _, _, h => absurd ((h x).1 (by simp)) (by simp)
  | x :: a, y :: b, ha, hb, h => by
    have h1 := List.pairwise_cons.1 ha
    have h2 := List.pairwise_cons.1 hb
    have e : x = y := by
      rcases List.mem_cons.1 ((h x).1 (by simp)) with e | hx
      · exact e
      · rcases List.mem_cons.1 ((h y).2 (by simp)) with e | hy
        · exact e.symm
        · have := h1.1 y hy
          have := h2.1 x hx
          omega
    subst e
    have hx1 : x ∉ a := fun hx => by have := h1.1 x hx; omega
    have hx2 : x ∉ b := fun hx => by have := h2.1 x hx; omega
    rw [rise_eq h1.2 h2.2 (fun z => ?_)]
    have := h z
    rw [List.mem_cons, List.mem_cons] at this
    constructor
    · intro hz
      rcases this.1 (.inr hz) with e | hz'
      · subst e; exact absurd hz hx1
      · exact hz'
    · intro hz
      rcases this.2 (.inr hz) with e | hz'
      · subst e; exact absurd hz hx2
      · exact hz'
theorem setK_congr {l m : List α} (h : ∀ z, z ∈ l ↔ z ∈ m) : setK key l = setK key m := rise_eq (setK_rise inj l) (setK_rise inj m) (fun z => by rw [setK_mem inj, setK_mem inj, h])
/-- each once, of a list in which equals stand side by side -/
def onceK [DecidableEq α] : List α → List α
  | [] => []
  | [x] => [x]
  | x :: y :: r => if x = y then onceK (y :: r) else x :: onceK (y :: r)
omit inj in
theorem onceK_mem [DecidableEq α] : ∀ (l : List α) (z : α), z ∈ onceK l ↔ z ∈ l
  | [], z => by simp [onceK]
  | [x], z => by simp [onceK]
  | x :: y :: r, z => by
    unfold onceK
    have ih := onceK_mem (y :: r) z
    split
    · rename_i e
      subst e
      rw [ih]; simp
    · rw [List.mem_cons, ih, List.mem_cons (b := x)]
theorem onceK_rise [DecidableEq α] : ∀ (l : List α), (l.Pairwise fun a b => key a ≤ key b) → RiseK key (onceK l)
  | [], _ => List.Pairwise.nil
  | [x], _ => by simp [onceK, RiseK]
  | x :: y :: r, h => by
    have h1 := List.pairwise_cons.1 h
    have ih := onceK_rise (y :: r) h1.2
    unfold onceK
    split
    · exact ih
    · rename_i ne
      refine List.pairwise_cons.2 ⟨fun z hz => ?_, ih⟩
      have hz' := (onceK_mem (y :: r) z).1 hz
      have hy := h1.1 y (by simp)
      have hxy : key x ≠ key y := fun e => ne (inj _ _ e)
      rcases List.mem_cons.1 hz' with rfl | hr
      · omega
      · have := (List.pairwise_cons.1 h1.2).1 z hr
        omega
theorem onceK_set [DecidableEq α] {l m : List α} (hp : l.Perm m) (hs : m.Pairwise fun a b => key a ≤ key b) : onceK m = setK key l :=
  rise_eq (onceK_rise inj m hs) (setK_rise inj l) (fun z => by rw [onceK_mem, setK_mem inj]; exact hp.mem_iff.symm)
end
end Go.Proofs.YtihggkmjalofiaaGreatDoor

/- Each once: plain laws of the loop that does it in place. No program in sight. -/
namespace Go.Proofs.YtihggkmjalofiaaGreatDoor
section
variable {α : Type} [DecidableEq α]
theorem onceK_head (y : α) (r : List α) : ∃ t, onceK (y :: r) = y :: t := by
  induction r generalizing y with
  | nil => exact ⟨[], rfl⟩
  | cons z r ih =>
    unfold onceK
    split
    · rename_i e; subst e; exact ih y
    · exact ⟨_, rfl⟩
omit [DecidableEq α] in
theorem drop_two {l : List α} {m : Nat} {x y : α} (hm : 0 < m) (hx : l[m - 1]? = some x) (hy : l[m]? = some y) : l.drop (m - 1) = x :: l.drop m ∧ l.drop m = y :: l.drop (m + 1) := by
  obtain ⟨h1, rfl⟩ := List.getElem?_eq_some_iff.1 hx
  obtain ⟨h2, rfl⟩ := List.getElem?_eq_some_iff.1 hy
  refine ⟨?_, List.drop_eq_getElem_cons h2⟩
  rw [List.drop_eq_getElem_cons h1]
  congr 2; omega
omit [DecidableEq α] in
theorem drop_last {l : List α} {m : Nat} {x : α} (hm : m = l.length) (hx : l[m - 1]? = some x) : l.drop (m - 1) = [x] := by
  obtain ⟨h1, rfl⟩ := List.getElem?_eq_some_iff.1 hx
  rw [List.drop_eq_getElem_cons h1, List.drop_eq_nil_of_le (by omega)]
theorem out_step {l : List α} {k : Nat} {x y : α} (hk : 0 < k) (hx : l[k - 1]? = some x) (hy : l[k]? = some y) (hne : x ≠ y) (h : onceK l = l.take (k - 1) ++ onceK (l.drop (k - 1))) : onceK l = l.take k ++ onceK (l.drop k) := by
  obtain ⟨e1, e2⟩ := drop_two hk hx hy
  rw [h, e1, e2]
  have e3 : onceK (x :: y :: l.drop (k + 1)) = x :: onceK (y :: l.drop (k + 1)) := by
    conv => lhs; unfold onceK
    rw [if_neg hne]
  rw [e3]
  obtain ⟨h1, rfl⟩ := List.getElem?_eq_some_iff.1 hx
  have e4 : l.take k = l.take (k - 1) ++ [l[k - 1]] := by
    have := List.take_succ_eq_append_getElem h1
    rwa [show k - 1 + 1 = k by omega] at this
  rw [e4, List.append_assoc, List.singleton_append]
theorem out_end {l : List α} {k : Nat} {x : α} (hk : k = l.length) (hx : l[k - 1]? = some x) (h : onceK l = l.take (k - 1) ++ onceK (l.drop (k - 1))) : onceK l = l := by
  have e := drop_last hk hx
  have e2 : onceK l = l.take (k - 1) ++ l.drop (k - 1) := by rw [h, e]; rfl
  rw [e2, List.take_append_drop]
theorem in_start {l : List α} {k : Nat} {x : α} (hk : 0 < k) (hx : l[k - 1]? = some x) (hy : l[k]? = some x) (h : onceK l = l.take (k - 1) ++ onceK (l.drop (k - 1))) : onceK l = l.take k ++ (onceK (l.drop k)).tail := by
  obtain ⟨e1, e2⟩ := drop_two hk hx hy
  obtain ⟨t, ht⟩ := onceK_head x (l.drop (k + 1))
  have e3 : onceK (l.drop (k - 1)) = x :: t := by
    rw [e1, e2]
    conv => lhs; unfold onceK
    rw [if_pos rfl, ht]
  obtain ⟨h1, h1'⟩ := List.getElem?_eq_some_iff.1 hx
  have e4 : l.take k = l.take (k - 1) ++ [x] := by
    have := List.take_succ_eq_append_getElem h1
    rwa [show k - 1 + 1 = k by omega, h1'] at this
  rw [h, e3, e4, e2, ht]; simp
theorem in_same {l : List α} {m : Nat} {x : α} (hm : 0 < m) (hx : l[m - 1]? = some x) (hy : l[m]? = some x) : (onceK (l.drop (m - 1))).tail = (onceK (l.drop m)).tail := by
  obtain ⟨e1, e2⟩ := drop_two hm hx hy
  rw [e1, e2]
  conv => lhs; unfold onceK
  rw [if_pos rfl]
theorem in_more {l : List α} {m : Nat} {x y : α} (hm : 0 < m) (hx : l[m - 1]? = some x) (hy : l[m]? = some y) (hne : x ≠ y) : (onceK (l.drop (m - 1))).tail = y :: (onceK (l.drop m)).tail := by
  obtain ⟨e1, e2⟩ := drop_two hm hx hy
  obtain ⟨t, ht⟩ := onceK_head y (l.drop (m + 1))
  rw [e1, e2]
  conv => lhs; unfold onceK
  rw [if_neg hne, ht]; rfl
theorem in_end {l : List α} {m : Nat} {x : α} (hm : m = l.length) (hx : l[m - 1]? = some x) : (onceK (l.drop (m - 1))).tail = [] := by
  rw [drop_last hm hx]; rfl
omit [DecidableEq α] in
theorem set_take {l : List α} {k : Nat} (y : α) (hk : k < l.length) : (l.set k y).take (k + 1) = l.take k ++ [y] := by
  rw [List.take_succ_eq_append_getElem (by rw [List.length_set]; exact hk), List.take_set_of_le (Nat.le_refl _)]
  simp
omit [DecidableEq α] in
theorem get_of_drop {l bs : List α} {m i : Nat} (h : bs.drop m = l.drop m) (hi : m ≤ i) : bs[i]? = l[i]? := by
  have := congrArg (fun d => d[i - m]?) h
  simp only [List.getElem?_drop] at this
  rwa [show m + (i - m) = i by omega] at this
omit [DecidableEq α] in
theorem drop_of_drop {l bs : List α} {m i : Nat} (h : bs.drop m = l.drop m) (hi : m ≤ i) : bs.drop i = l.drop i := by
  have := congrArg (List.drop (i - m)) h
  simp only [List.drop_drop] at this
  rwa [show m + (i - m) = i by omega] at this
end
end Go.Proofs.YtihggkmjalofiaaGreatDoor

/- From a walk to a row: what every law of this seat shares. -/
namespace Go.Proofs.YtihggkmjalofiaaGreatDoor
open Go.ChangeShapes Go.WideShapes Go.ChangeAt Go.RowKit

theorem own : ownKnob Tryz.prog.godebug = none := by kernel_rfl
theorem laidOut : laidOutB Tryz.prog = true := by kernel_rfl

section
variable {H : Type} {enc : TypeId × Value → H}
theorem trodAll_again {W W' : World} (bel : Below W.heap.size W W') : ∀ (ts : List TypeId) (vs : List Value) (ds : List (DataW H)) (ps : List MemPlace),
    (∀ t ∈ ts, Tryz.prog.readableRec t = true ∧ t < Tryz.prog.types.size) →
    DataW.TrodAll enc Tryz.prog W 0 (fun _ => true) true ts vs ds ps → DataW.TrodAll enc Tryz.prog W' 0 (fun b => decide (b < W.heap.size)) true ts vs ds ps
  | [], vs, ds, ps, _, h => by
    obtain ⟨rfl, rfl, rfl⟩ := trodAll_nil h
    rfl
  | t :: ts, vs, ds, ps, ht, h => by
    obtain ⟨v, vs', d, ds', p, q, rfl, rfl, rfl, h1, h2⟩ := trodAll_cons h
    have lt : ∀ x ∈ p, x.block < W.heap.size := by obtain ⟨m, hm⟩ := h1; exact DataW.trod_lt m _ _ _ hm
    exact trodAll_cons_mk (Below.trod laidOut (ht t (by simp)).1 (ht t (by simp)).2 h1 bel lt) (trodAll_again bel ts vs' ds' q (fun t' h' => ht t' (by simp [h'])) h2)

/-- the row's last step: the law returned true and only new memory was written -/
theorem law_post {fn : Func} {s : ChangeSpec} {W W' : World} {args : Array Value} {ds gs : List (DataW H)} {before : List MemPlace} {tb : TypeId} (hb : Tryz.prog.underlying tb = some .bool) (hr : fn.resultTypes = #[tb])
    (hts : ∀ t ∈ fn.params.toList, Tryz.prog.readableRec t = true ∧ t < Tryz.prog.types.size)
    (hW : DataW.Whole enc Tryz.prog fn.params.toList s.vars false W args.toList ds gs before) (hv : s.vars = []) (hs : s.fn H (ds ++ gs) = { results := [.lit (.bool true)], args := ds })
    (bel : Below W.heap.size W W') : s.post enc Tryz.prog fn false true false false W args (.bool true) W' := by
  have hW' := hW
  obtain ⟨p, q, hA, hV, hps, _, _⟩ := hW
  refine ⟨ds, gs, before, [], p, [], hW', ?_, ?_, ?_, ?_, fun h => by cases h⟩
  · rw [hr, hs]
    exact trodAll_mk1 (shut_bool hb true)
  · rw [hs]
    exact trodAll_again bel _ _ _ _ hts hA
  · have e : (s.fn H (ds ++ gs)).vars = [] := by rw [hs]
    rw [hv, e]
    exact rfl
  · exact bel.frame _
end

/-- what a type's shape says of one value that was read: the walk's hypotheses -/
def TypesOk (fn : Func) : Prop := ∀ t ∈ fn.params.toList, Tryz.prog.readableRec t = true ∧ t < Tryz.prog.types.size
theorem typesOk_of {fn : Func} (h : fn.params.toList.all (fun t => Tryz.prog.readableRec t && decide (t < Tryz.prog.types.size)) = true) : TypesOk fn := by
  intro t ht
  have := List.all_eq_true.1 h t ht
  simp only [Bool.and_eq_true, decide_eq_true_eq] at this
  exact this
end Go.Proofs.YtihggkmjalofiaaGreatDoor

/- Elements of a row of the call's own: written, cleared, cut. No program in sight but as a variable. -/
namespace Go.Proofs.YtihggkmjalofiaaGreatDoor
open Go.RowKit

section
variable {P : Program} {w : World} {base : Nat} {e : TypeId} {size : Nat} {g n cap : Nat} {xs : List Value}
theorem own_setCells : ∀ (cs : List Value) (o : Nat) (w : World) (xs : List Value), w.ownsRow base e size (.slice (some ⟨g, 0, none⟩) n cap) n xs → o + cs.length ≤ n * size →
    (w.setCells g o cs).ownsRow base e size (.slice (some ⟨g, 0, none⟩) n cap) n (xs.take o ++ cs ++ xs.drop (o + cs.length)) ∧ Below base w (w.setCells g o cs)
  | [], o, w, xs, h, _ => by
    simp only [World.setCells, List.append_nil, List.length_nil, Nat.add_zero, List.take_append_drop]
    exact ⟨h, Below.refl _ _⟩
  | c :: cs, o, w, xs, h, hl => by
    simp only [List.length_cons] at hl
    have hx := h.1
    obtain ⟨h1, h2⟩ := h.stored o c
    obtain ⟨i1, i2⟩ := own_setCells cs (o + 1) _ _ h1 (by omega)
    have hg := (h.lt g rfl).1
    refine ⟨?_, (Below.setCell (Below.refl base w) (p := ⟨g, o, none⟩) hg c).trans i2⟩
    have e1 : (xs.set o c).take (o + 1) = xs.take o ++ [c] := by
      rw [List.take_succ_eq_append_getElem (by rw [List.length_set]; omega), List.take_set_of_le (Nat.le_refl _)]
      simp
    have e2 : (xs.set o c).drop (o + 1 + cs.length) = xs.drop (o + (cs.length + 1)) := by
      rw [List.drop_set_of_lt (by omega)]
      congr 1; omega
    rw [e1, e2] at i1
    show ((w.setCell ⟨g, o, none⟩ c).setCells g (o + 1) cs).ownsRow base e size (.slice (some ⟨g, 0, none⟩) n cap) n _
    simpa using i1
theorem own_cut (h : w.ownsRow base e size (.slice (some ⟨g, 0, none⟩) n cap) n xs) {k : Nat} (hk : k ≤ n) : w.ownsRow base e size (.slice (some ⟨g, 0, none⟩) k cap) k (xs.take (k * size)) := by
  have hx := h.1
  have hks : k * size ≤ n * size := Nat.mul_le_mul_right _ hk
  rcases h.2 with ⟨h', _⟩ | ⟨g', cap', cur, h', hb, hg, hnc, hcm, hcs, htake⟩
  · simp at h'
  · simp only [Value.slice.injEq, Option.some.injEq, Addr.mk.injEq, and_true, true_and] at h'
    obtain ⟨rfl, rfl⟩ := h'
    refine ⟨by rw [List.length_take]; omega, .inr ⟨g, cap, cur, rfl, hb, hg, by omega, hcm, hcs, ?_⟩⟩
    rw [← htake, List.take_take, Nat.min_eq_left hks]
theorem own_there (h : w.ownsRow base e size (.slice (some ⟨g, 0, none⟩) n cap) n xs) {o m : Nat} (hl : o + m ≤ n * size) : w.there g o m := fun j hj => by
  refine ⟨?_, h.frozenAt _⟩
  rw [h.cellAt _ (by omega), List.getElem?_eq_getElem (by rw [h.1]; omega)]
  rfl
theorem own_range {α : Type} {enc : α → List Value} {l : List α} (h : w.ownsRow base e size (.slice (some ⟨g, 0, none⟩) n cap) n (l.flatMap enc)) (henc : ∀ x, (enc x).length = size) {k : Nat} {x : α} (hx : l[k]? = some x) (hk : k < n) : w.rangeAt g (k * size) (enc x) := fun j v hj => by
  obtain ⟨hkl, rfl⟩ := List.getElem?_eq_some_iff.1 hx
  have hjl : j < size := by
    have := henc l[k]
    have := (List.getElem?_eq_some_iff.1 hj).1
    omega
  have hlt : k * size + j < n * size := by
    have : k * size + size ≤ n * size := by rw [← Nat.succ_mul]; exact Nat.mul_le_mul_right _ hk
    omega
  rw [h.cellAt _ hlt, flatMap_get enc l (fun y _ => henc y) k j hkl hjl]
  exact hj
theorem set_flat {α : Type} {enc : α → List Value} (henc : ∀ x, (enc x).length = size) (l : List α) {k : Nat} (hk : k < l.length) (y : α) : (l.flatMap enc).take (k * size) ++ enc y ++ (l.flatMap enc).drop (k * size + size) = (l.set k y).flatMap enc := by
  have hl : l = l.take k ++ l[k] :: l.drop (k + 1) := by rw [List.getElem_cons_drop, List.take_append_drop]
  have hlen : ((l.take k).flatMap enc).length = k * size := by
    rw [flatMap_len enc _ (fun x _ => henc x), List.length_take, Nat.min_eq_left (by omega)]
  have e0 : l.flatMap enc = (l.take k).flatMap enc ++ (enc l[k] ++ (l.drop (k + 1)).flatMap enc) := by
    have := congrArg (List.flatMap enc) hl
    rw [List.flatMap_append, List.flatMap_cons] at this
    exact this
  have e1 : (l.set k y).flatMap enc = (l.take k).flatMap enc ++ (enc y ++ (l.drop (k + 1)).flatMap enc) := by
    rw [List.set_eq_take_append_cons_drop, if_pos hk]
    simp
  rw [e0, e1, ← hlen, List.take_left, List.drop_append, ← henc l[k]]
  simp
theorem cut_flat {α : Type} {enc : α → List Value} (henc : ∀ x, (enc x).length = size) (l : List α) {k : Nat} (hk : k ≤ l.length) : (l.flatMap enc).take (k * size) = (l.take k).flatMap enc := by
  have hlen : ((l.take k).flatMap enc).length = k * size := by
    rw [flatMap_len enc _ (fun x _ => henc x), List.length_take, Nat.min_eq_left (by omega)]
  have hl : l.flatMap enc = (l.take k).flatMap enc ++ (l.drop k).flatMap enc := by
    rw [← List.flatMap_append, List.take_append_drop]
  rw [hl, ← hlen, List.take_left]
/-- 'clear(s)' on a slice of structs -/
theorem run_clear_rows (w : World) (t e ty : TypeId) (z : Value) (ht : P.underlying t = some (.slice e)) (hv : ∀ w, (zeroValue e).run P w = .ok z w) (hz : z.cells.size = size) (hpos : 0 < size) (h1 : ∀ v ∈ z.cells, v.oneCell' = true) (b o n c : Nat) (hn : 0 < n)
    (hc : w.there b o (n * size)) :
    (Builtin.clear_ #[t] ty #[.slice (some ⟨b, o, none⟩) n c]).run P w = .ok (.tuple #[]) (w.setCells b o (Builtin.zeroCells z.cells n).toList) ∧ (Builtin.zeroCells z.cells n).toList.length = n * size := by
  have hlen : (Builtin.zeroCells z.cells n).toList.length = n * size := by simp [Builtin.zeroCells, hz]
  have hone : ∀ v ∈ (Builtin.zeroCells z.cells n).toList, v.oneCell' = true := by
    intro v hv'
    simp only [Builtin.zeroCells, Array.toList_map, List.mem_map] at hv'
    obtain ⟨i, _, rfl⟩ := hv'
    have hi : i % z.cells.size < z.cells.size := Nat.mod_lt _ (by omega)
    rw [getElem!_pos z.cells _ hi]
    exact h1 _ (Array.getElem_mem hi)
  have hst := run_storeCells_cells (P := P) b o (Builtin.zeroCells z.cells n).toList 0 w (by rw [hlen]; intro j hj; exact (hc j hj).1) (by rw [hlen]; intro j hj; exact (hc j hj).2) hone
  simp only [Nat.add_zero] at hst
  refine ⟨?_, hlen⟩
  obtain ⟨m, rfl⟩ : ∃ m, n = m + 1 := ⟨n - 1, by omega⟩
  simp [Builtin.clear_, run_underlying ht, hv, hst]
end
end Go.Proofs.YtihggkmjalofiaaGreatDoor

/- Parts of slices, and what is put behind one another, in regions that draw their order. No program in sight but as a variable. -/
namespace Go.Proofs.YtihggkmjalofiaaGreatDoor
open Go.RowKit

def cutAddr (A : Option Addr) (c k size : Nat) : Option Addr := if c = k then A else A.map (·.add (k * size))
section
variable {P : Program} {ops : Array Oper} {Q : Exit → Act → World → Prop} {S : World → Prop} {K : Act → World → Prop} {a : Act} {w w' : World} {d : Option Tmp} {ty t e : TypeId} {size bytes : Nat} {pos : String} {after : Array Edge} {gd : Option (Nat × Bool)}
theorem run_slice_low (T : SlT P t e size bytes) {A : Option Addr} {n c k : Nat} (hk : k ≤ n) (w : World) :
    (Instr.sliceAt t (.slice A n c) (some (.int .i64 k)) none none).run P w = .ok (.slice (cutAddr A c k size) (n - k) (c - k)) w := by
  obtain ⟨i, z, hi, hz, hsz, hby, hzs⟩ := T.hi
  simp [Instr.sliceAt, Instr.slice, run_underlying T.ht, Instr.sliceBounds, Instr.sliceBound, asIntOf, sizeOf, typeInfo, hi, hsz, cutAddr]
  intro h; omega
theorem run_slice_high (T : SlT P t e size bytes) {A : Option Addr} {n c k : Nat} (hk : k ≤ c) (w : World) :
    (Instr.sliceAt t (.slice A n c) none (some (.int .i64 k)) none).run P w = .ok (.slice (cutAddr A c 0 size) k c) w := by
  obtain ⟨i, z, hi, hz, hsz, hby, hzs⟩ := T.hi
  simp [Instr.sliceAt, Instr.slice, run_underlying T.ht, Instr.sliceBounds, Instr.sliceBound, asIntOf, sizeOf, typeInfo, hi, cutAddr]
  intro h; omega
theorem Sl.cutLow {α : Type} {enc : α → List Value} {B n c k : Nat} {A : Option Addr} {l : List α} (h : Sl w B size A n (l.flatMap enc)) (hn : l.length = n) (henc : ∀ x, (enc x).length = size) (hk : k ≤ n) (hc : n ≤ c) :
    Sl w B size (cutAddr A c k size) (n - k) ((l.drop k).flatMap enc) := by
  refine ⟨by rw [flatMap_len enc _ (fun x _ => henc x), List.length_drop, hn], fun hp => ?_⟩
  obtain ⟨b, o, rfl, hb, hcell⟩ := h.2 (by omega)
  unfold cutAddr
  rw [if_neg (by omega)]
  refine ⟨b, o + k * size, by simp [Addr.add_mid], hb, fun j hj => ?_⟩
  have hjk : k * size + j < n * size := by
    have : (n - k) * size + k * size = n * size := by rw [← Nat.add_mul]; congr 1; omega
    omega
  rw [Nat.add_assoc, hcell _ hjk]
  have e0 : l.flatMap enc = (l.take k).flatMap enc ++ (l.drop k).flatMap enc := by rw [← List.flatMap_append, List.take_append_drop]
  have hl : ((l.take k).flatMap enc).length = k * size := by rw [flatMap_len enc _ (fun x _ => henc x), List.length_take, Nat.min_eq_left (by omega)]
  rw [e0, List.getElem?_append_right (by omega), hl, Nat.add_sub_cancel_left]
theorem Sl.cutHigh {α : Type} {enc : α → List Value} {B n c k : Nat} {A : Option Addr} {l : List α} (h : Sl w B size A n (l.flatMap enc)) (hn : l.length = n) (henc : ∀ x, (enc x).length = size) (hk : k ≤ n) :
    Sl w B size (cutAddr A c 0 size) k ((l.take k).flatMap enc) := by
  have hl : ((l.take k).flatMap enc).length = k * size := by rw [flatMap_len enc _ (fun x _ => henc x), List.length_take, Nat.min_eq_left (by omega)]
  refine ⟨hl, fun hp => ?_⟩
  obtain ⟨b, o, rfl, hb, hcell⟩ := h.2 (by omega)
  refine ⟨b, o, ?_, hb, fun j hj => ?_⟩
  · unfold cutAddr
    split
    · rfl
    · simp [Addr.add_mid]
  · have hkn : k * size ≤ n * size := Nat.mul_le_mul_right _ hk
    have e0 : l.flatMap enc = (l.take k).flatMap enc ++ (l.drop k).flatMap enc := by rw [← List.flatMap_append, List.take_append_drop]
    rw [hcell _ (by omega), e0, List.getElem?_append_left (by omega)]
end
end Go.Proofs.YtihggkmjalofiaaGreatDoor

/- What a call may turn: the blocks of a footprint, and new ones; an append whose row is known to stay or to be new. No program in sight but as a variable. -/
namespace Go.Proofs.YtihggkmjalofiaaGreatDoor
open Go.RowKit

/-- apart from the blocks of F, and new ones, the world is as it was -/
structure Kept (F : Nat → Prop) (w w' : World) : Prop where
  os : w'.os = w.os
  tape : w'.tape = w.tape
  output : w'.output = w.output
  size : w.heap.size ≤ w'.heap.size
  block : ∀ k, k < w.heap.size → ¬ F k → w'.heap[k]? = w.heap[k]?
section
variable {F G : Nat → Prop} {a b c w w' : World}
theorem Kept.refl (F : Nat → Prop) (w : World) : Kept F w w := ⟨rfl, rfl, rfl, Nat.le_refl _, fun _ _ _ => rfl⟩
theorem Kept.of_below (h : Below w.heap.size w w') : Kept F w w' := ⟨h.os, h.tape, h.output, h.size, fun k hk _ => h.block k hk⟩
theorem Kept.trans (h : Kept F a b) (k : Kept G b c) (hG : ∀ x, G x → F x ∨ a.heap.size ≤ x) : Kept F a c :=
  ⟨k.os.trans h.os, k.tape.trans h.tape, k.output.trans h.output, Nat.le_trans h.size k.size, fun i hi hn =>
    (k.block i (Nat.lt_of_lt_of_le hi h.size) (fun e => (hG i e).elim hn (fun e => by omega))).trans (h.block i hi hn)⟩
theorem Kept.then (h : Kept F a b) (k : Below b.heap.size b c) : Kept F a c := h.trans (Kept.of_below (F := F) k) fun _ e => .inl e
theorem Kept.mono (h : Kept F w w') (hG : ∀ x, F x → G x) : Kept G w w' := ⟨h.os, h.tape, h.output, h.size, fun k hk hn => h.block k hk fun e => hn (hG k e)⟩
theorem Kept.below {B : Nat} (h : Kept F w w') (hF : ∀ k, F k → B ≤ k) (hB : B ≤ w.heap.size) : Below B w w' :=
  ⟨h.os, h.tape, h.output, h.size, fun k hk => h.block k (by omega) fun e => by have := hF k e; omega⟩
theorem Kept.drew (h : Kept F a w) : Kept F a w.drew := ⟨h.os, h.tape, h.output, h.size, h.block⟩
theorem Kept.drewN (h : Kept F a w) (n : Nat) : Kept F a (w.drewN n) := ⟨h.os, h.tape, h.output, h.size, h.block⟩
theorem Kept.alloc (h : Kept F a w) (o : Obj) : Kept F a (w.alloc o) := h.then (below_new w o)
theorem Kept.setCell (h : Kept F a w) {p : Addr} (hp : F p.block ∨ a.heap.size ≤ p.block) (u : Value) : Kept F a (w.setCell p u) :=
  ⟨h.os, h.tape, h.output, by simpa [World.setCell] using h.size, fun k hk hn => (Below.heap_setCell w p u k (by rintro rfl; exact hp.elim hn (fun e => by omega))).trans (h.block k hk hn)⟩
theorem Kept.setBlock (h : Kept F a w) {g : Nat} (hp : F g ∨ a.heap.size ≤ g) (o : Obj) : Kept F a (Go.ChangeMaps.setBlock w g o) :=
  ⟨h.os, h.tape, h.output, by simpa [Go.ChangeMaps.setBlock] using h.size, fun k hk hn => (setBlock_other (by rintro rfl; exact hp.elim hn (fun e => by omega))).trans (h.block k hk hn)⟩
theorem Kept.blk (h : Kept F w w') {g : Nat} {t : TypeId} {cs : Array Value} (hb : Blk w g t cs) (hn : ¬ F g) : Blk w' g t cs := (h.block g hb.lt hn).trans hb
theorem Blk.keep {g : Nat} {t : TypeId} {cs : Array Value} (hb : Blk w g t cs) (h : w'.heap[g]? = w.heap[g]?) : Blk w' g t cs := h.trans hb
theorem own_keepF {base size n : Nat} {e : TypeId} {v : Value} {xs : List Value} (h : w.ownsRow base e size v n xs) (hk : ∀ g, v.ownBlock = some g → w'.heap[g]? = w.heap[g]?) : w'.ownsRow base e size v n xs := by
  obtain ⟨hl, h2⟩ := h
  refine ⟨hl, ?_⟩
  rcases h2 with h2 | ⟨g, cap, cur, rfl, hg, hh, r⟩
  · exact .inl h2
  · exact .inr ⟨g, cap, cur, rfl, hg, (hk g rfl).trans hh, r⟩
theorem own_rebase {base base' size n : Nat} {e : TypeId} {v : Value} {xs : List Value} (h : w.ownsRow base e size v n xs) (hb : ∀ k, v.ownBlock = some k → base' ≤ k) : w.ownsRow base' e size v n xs := by
  obtain ⟨hl, h2⟩ := h
  refine ⟨hl, ?_⟩
  rcases h2 with h2 | ⟨g, cap, cur, rfl, hg, r⟩
  · exact .inl h2
  · exact .inr ⟨g, cap, cur, rfl, hb g rfl, r⟩
/-- an owned row's block is a block of cells of its element's type -/
theorem own_type {base size n : Nat} {e : TypeId} {v : Value} {xs : List Value} (h : w.ownsRow base e size v n xs) {g : Nat} (hg : v.ownBlock = some g) : ∃ cur, w.heap[g]? = some (.cells cur e (0, 0)) := by
  obtain ⟨hl, h2⟩ := h
  rcases h2 with ⟨rfl, _⟩ | ⟨g', cap, cur, rfl, _, hh, _⟩
  · cases hg
  · obtain rfl : g' = g := by simpa [Value.ownBlock] using hg
    exact ⟨cur, hh⟩
theorem own_ne_blk {base size n : Nat} {e t : TypeId} {v : Value} {xs : List Value} {cs : Array Value} {g k : Nat} (h : w.ownsRow base e size v n xs) (hb : Blk w g t cs) (hne : e ≠ t) (hk : v.ownBlock = some k) : k ≠ g := by
  rintro rfl
  obtain ⟨cur, hh⟩ := own_type h hk
  unfold Blk at hb
  rw [hh] at hb
  injection hb with hb
  injection hb with _ ht _
  exact hne ht
theorem own_ne_map {P : Program} {kt : TypeId} {l : List (Value × Value)} {base size n : Nat} {e : TypeId} {v : Value} {xs : List Value} {g k : Nat} (h : w.ownsRow base e size v n xs) (hm : MapIs P kt w g l) (hk : v.ownBlock = some k) : k ≠ g := by
  rintro rfl
  obtain ⟨cur, hh⟩ := own_type h hk
  obtain ⟨es, clock, hb, _⟩ := hm
  rw [hh] at hb; cases hb
theorem blk_ne_map {P : Program} {kt t : TypeId} {l : List (Value × Value)} {cs : Array Value} {g k : Nat} (h : Blk w g t cs) (hm : MapIs P kt w k l) : g ≠ k := by
  rintro rfl
  obtain ⟨es, clock, hb, _⟩ := hm
  unfold Blk at h
  rw [h] at hb; cases hb
theorem blk_ne_blk {t t' : TypeId} {cs cs' : Array Value} {g k : Nat} (h : Blk w g t cs) (h' : Blk w k t' cs') (hne : t ≠ t') : g ≠ k := by
  rintro rfl
  unfold Blk at h h'
  rw [h] at h'
  injection h' with h'
  injection h' with _ ht _
  exact hne ht
theorem own_ne_own {base base' size size' n n' : Nat} {e e' : TypeId} {v v' : Value} {xs xs' : List Value} {g k : Nat} (h : w.ownsRow base e size v n xs) (h' : w.ownsRow base' e' size' v' n' xs') (hne : e ≠ e') (hg : v.ownBlock = some g) (hk : v'.ownBlock = some k) : g ≠ k := by
  rintro rfl
  obtain ⟨cur, hh⟩ := own_type h hg
  obtain ⟨cur', hh'⟩ := own_type h' hk
  rw [hh] at hh'
  injection hh' with hh'
  injection hh' with _ ht _
  exact hne ht
end

section
variable {P : Program} {w w0 : World}
/-- an append to an owned row: the row stays where it is, or it is new -/
theorem run_append_stays (base : Nat) (t ty e : TypeId) (i : TypeInfo) (z : Value) (size bytes : Nat) (ht : P.underlying t = some (.slice e)) (hi : P.info? e = some i) (hz : i.zero = some z)
    (hsize : i.size = size) (hby : i.bytes = bytes) (hzs : z.cells.size = size) (hsz : 0 < size)
    (v : Value) (n : Nat) (xs : List Value) (hown : w.ownsRow base e size v n xs)
    (a : Addr) (m c : Nat) (news : List Value) (hl : news.length = m * size) (hnews : ∀ j u, news[j]? = some u → w.cell? (a.add j) = some u) (h1 : ∀ u ∈ news, u.oneCell' = true)
    (h63 : n + m ≤ maxLen) (hbytes : (n + m) * bytes ≤ 140737488355328) (hbase : base ≤ w.heap.size) :
    ∃ v' w', (Builtin.append_ #[t, t] ty #[v, .slice (some a) m c]).run P w = .ok v' w' ∧ w'.ownsRow base e size v' (n + m) (xs ++ news) ∧ w.grownBy w' v.ownBlock ∧
      (∀ k, v'.ownBlock = some k → v.ownBlock = some k ∨ w.heap.size ≤ k) := by
  obtain ⟨v', w', hr, h2, h3, h4⟩ := run_append_own (P := P) w base t ty e i z size bytes ht hi hz hsize hby hzs hsz v n xs hown a m c news hl hnews h1 h63 hbytes hbase
  refine ⟨v', w', hr, h2, h3, fun k hk => ?_⟩
  subst hsize
  subst hby
  have hsmall : n + m ≤ 9223372036854775807 := by simp only [maxLen] at h63; omega
  rcases hown.2 with ⟨rfl, rfl⟩ | ⟨g, cap, cur, rfl, hbg, hg, hnc, hcm, hcs, htake⟩
  · by_cases hm : m = 0
    · have := h4.2 ⟨rfl, hm⟩
      subst this
      cases hk
    · have hr' := run_append_nil (P := P) w t ty e i z ht hi hz a m c news hl hnews (by omega) (by omega) (by have hb := hbytes; simp only [Nat.zero_add] at hb; omega)
      rw [hr] at hr'
      injection hr' with e1 _
      subst e1
      simp only [Value.ownBlock, Option.some.injEq] at hk
      exact .inr (by omega)
  · by_cases hroom : n + m ≤ cap
    · have hfit : n * i.size + news.length ≤ cur.size := by rw [hl, hcs, ← Nat.add_mul]; exact Nat.mul_le_mul_right _ hroom
      have hr' := run_append_room (P := P) w t ty e i ht hi g n cap cur hg a m c news hl hnews h1 hroom hfit
      rw [hr] at hr'
      injection hr' with e1 _
      subst e1
      exact .inl hk
    · have holds : ∀ j u, xs[j]? = some u → w.cell? ((⟨g, 0, none⟩ : Addr).add j) = some u := hown.cells (g := g) rfl
      have hr' := run_append_grow (P := P) w t ty e i z ht hi hz ⟨g, 0, none⟩ n cap xs hown.1 holds a m c news hl hnews (by omega) (by omega) (growslice_fits (by omega) hbytes)
      rw [hr] at hr'
      injection hr' with e1 _
      subst e1
      simp only [Value.ownBlock, Option.some.injEq] at hk
      exact .inr (by omega)
end
end Go.Proofs.YtihggkmjalofiaaGreatDoor
