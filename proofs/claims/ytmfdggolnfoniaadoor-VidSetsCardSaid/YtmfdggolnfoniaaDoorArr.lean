/- Arrays of integers by value: held against each other. -/
import Derived.Test.YtmfdggolnfoniaaDoorFlat
namespace Go.Proofs.YtmfdggolnfoniaaDoor
open Go.RowKit
theorem eq_loop {P : Program} {e : TypeId} {k : IntKind} (he : P.underlying e = some (.int k)) (ha : ∀ w, (isAgg e).run P w = .ok false w) (d : Nat) (l1 l2 : List Int) (hl : l1.length = l2.length) (w : World) :
    ∀ (m s : Nat), s + m = l1.length →
    (forIn (List.range' s m) ((none : Option Bool), ()) fun i __s => (do
            let x ← part e (List.map (Value.int k) l1).toArray (i * 1)
            let y ← part e (List.map (Value.int k) l2).toArray (i * 1)
            let r ← Op.equalIn (d + 1) e x y
            if (!r) = true then pure (ForInStep.done (some false, ())) else pure (ForInStep.yield (none, ())) : Sem (ForInStep (Option Bool × Unit)))).run P w =
      .ok (if l1.drop s = l2.drop s then (none, ()) else (some false, ())) w
  | 0, s, h => by
    simp [List.drop_eq_nil_of_le (show l1.length ≤ s by omega), List.drop_eq_nil_of_le (show l2.length ≤ s by omega)]
  | m + 1, s, h => by
    have h1 : s < l1.length := by omega
    have h2 : s < l2.length := by omega
    have p1 : (part e (List.map (Value.int k) l1).toArray (s * 1)).run P w = .ok (.int k l1[s]) w := by
      simp [part, ha, h1]
    have p2 : (part e (List.map (Value.int k) l2).toArray (s * 1)).run P w = .ok (.int k l2[s]) w := by
      simp [part, ha, h2]
    rw [List.range'_succ, List.forIn_cons]
    simp only [Sem.run_bind, p1, p2, Result.andThen_ok, run_equalIn_int w d e k k _ _ he]
    have e1 := List.drop_eq_getElem_cons h1
    have e2 := List.drop_eq_getElem_cons h2
    by_cases heq : l1[s] = l2[s]
    · have hb : (l1[s] == l2[s]) = true := by simpa using heq
      simp only [hb, Bool.not_true, Bool.false_eq_true, if_false, Sem.run_pure, Result.andThen_ok]
      rw [eq_loop he ha d l1 l2 hl w m (s + 1) (by omega), e1, e2]
      by_cases htl : l1.drop (s + 1) = l2.drop (s + 1)
      · rw [if_pos htl, if_pos (by rw [heq, htl])]
      · rw [if_neg htl, if_neg (fun h => htl (List.cons.inj h).2)]
    · have hb : (l1[s] == l2[s]) = false := by simpa using heq
      simp only [hb, Bool.not_false, if_true, Sem.run_pure, Result.andThen_ok]
      rw [e1, e2, if_neg (fun h => heq (List.cons.inj h).1)]
theorem run_equal_ints {P : Program} {t e : TypeId} {k : IntKind} {n : Nat} (ht : P.underlying t = some (.array n e)) (he : P.underlying e = some (.int k)) (ha : ∀ w, (isAgg e).run P w = .ok false w) (hs : ∀ w, (sizeOf e).run P w = .ok 1 w)
    (d : Nat) (l1 l2 : List Int) (h1 : l1.length = n) (h2 : l2.length = n) (w : World) :
    (Op.equalIn (d + 2) t (.agg (l1.map (Value.int k)).toArray) (.agg (l2.map (Value.int k)).toArray)).run P w = .ok (decide (l1 = l2)) w := by
  unfold Op.equalIn
  simp only [Sem.run_bind, run_underlying ht, Result.andThen_ok, hs]
  rw [Std.Legacy.Range.forIn_eq_forIn_range']
  have := eq_loop he ha d l1 l2 (by omega) w n 0 (by omega)
  simp only [Std.Legacy.Range.size] at *
  rw [show (n - 0 + 1 - 1) / 1 = n by omega, this]
  by_cases h : l1 = l2
  · simp [h]
  · simp [h]
theorem run_eql_ints {P : Program} {t e : TypeId} {k : IntKind} {n : Nat} (ht : P.underlying t = some (.array n e)) (he : P.underlying e = some (.int k)) (ha : ∀ w, (isAgg e).run P w = .ok false w) (hs : ∀ w, (sizeOf e).run P w = .ok 1 w)
    (l1 l2 : List Int) (h1 : l1.length = n) (h2 : l2.length = n) (w : World) :
    (binOp .eql t (.agg (l1.map (Value.int k)).toArray) (.agg (l2.map (Value.int k)).toArray)).run P w = .ok (.bool (decide (l1 = l2))) w := by
  have h := run_equal_ints ht he ha hs 9998 l1 l2 h1 h2 w
  simp only [binOp]
  simp [Op.equal, Op.maxDepth, h]
theorem run_neq_ints {P : Program} {t e : TypeId} {k : IntKind} {n : Nat} (ht : P.underlying t = some (.array n e)) (he : P.underlying e = some (.int k)) (ha : ∀ w, (isAgg e).run P w = .ok false w) (hs : ∀ w, (sizeOf e).run P w = .ok 1 w)
    (l1 l2 : List Int) (h1 : l1.length = n) (h2 : l2.length = n) (w : World) :
    (binOp .neq t (.agg (l1.map (Value.int k)).toArray) (.agg (l2.map (Value.int k)).toArray)).run P w = .ok (.bool (!decide (l1 = l2))) w := by
  have h := run_equal_ints ht he ha hs 9998 l1 l2 h1 h2 w
  simp only [binOp]
  simp [Op.equal, Op.maxDepth, h]
end Go.Proofs.YtmfdggolnfoniaaDoor
