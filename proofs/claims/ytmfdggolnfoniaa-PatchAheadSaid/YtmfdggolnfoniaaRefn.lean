/- The vertices that an operation names: they lie in a block of their own. -/
import Derived.Test.YtmfdggolnfoniaaPatd
namespace Go.Proofs.Ytmfdggolnfoniaa
open Go.RowKit

theorem ownRet_fresh {w w0 : World} {e : TypeId} {size n b : Nat} {xs : List Value} (hl : xs.length = n * size) (hb : Below w.heap.size w w0) (hs : w0.heap.size = b) (hm : n ≤ maxLen) :
    OwnedRet w e size n xs (.returned (.slice (some ⟨b, 0, none⟩) n n)) (w0.alloc (.cells xs.toArray e)) := by
  subst hs
  refine ⟨_, rfl, ?_, hb.alloc hb.size _⟩
  have h := World.ownsRow_lit (base := w.heap.size) (e := e) (size := size) w0 xs.toArray n hb.size hm (by simpa using hl)
  simpa using h
theorem refsV_le2 (k : Int) (x y : VidO) : (refsV k x y).length ≤ 2 := by unfold refsV; split; simp; split <;> simp
theorem ownRet_nil {w w0 : World} {e : TypeId} {size : Nat} (hb : Below w.heap.size w w0) : OwnedRet w e size 0 [] (.returned (.slice none 0 0)) w0 :=
  ⟨_, rfl, World.ownsRow_nil w0 _ e size, hb⟩
set_option maxHeartbeats 400000 in
theorem refs_own (k : Int) (x y : VidO) (t : ByteArray) (w : World) (hk : 0 ≤ k ∧ k < 256) : Calls Try.prog 40 #[opC k x y t] w (OwnedRet w 49 3 (refsV k x y).length ((refsV k x y).flatMap VidO.cs)) := by
  obtain ⟨hk0, hk1⟩ := hk
  by_cases c2 : k = 2
  · subst c2
    go_enter Try.func40, Try.ntmps40
    go_wp2
    go_ret
    exact ownRet_fresh rfl (below_box _ _) (by simp) (Nat.le_trans (refsV_le2 _ x y) (by decide))
  by_cases c3 : k = 3
  · subst c3
    go_enter Try.func40, Try.ntmps40
    go_wp2
    go_ret
    exact ownRet_fresh rfl (below_box _ _) (by simp) (Nat.le_trans (refsV_le2 _ x y) (by decide))
  by_cases c5 : k = 5
  · subst c5
    go_enter Try.func40, Try.ntmps40
    go_wp2
    go_ret
    exact ownRet_fresh rfl (below_box _ _) (by simp) (Nat.le_trans (refsV_le2 _ x y) (by decide))
  by_cases c4 : k = 4
  · subst c4
    go_enter Try.func40, Try.ntmps40
    go_wp2
    go_ret
    exact ownRet_fresh rfl (below_box _ _) (by simp) (Nat.le_trans (refsV_le2 _ x y) (by decide))
  rw [refsV_none x y (k := k) (by omega)]
  have d2 : (k == 2) = false := by simpa using c2
  have d3 : (k == 3) = false := by simpa using c3
  have d4 : (k == 4) = false := by simpa using c4
  have d5 : (k == 5) = false := by simpa using c5
  clear c2 c3 c4 c5
  go_enter Try.func40, Try.ntmps40
  go_wp2
  go_ret
  exact ownRet_nil (below_box _ _)

set_option maxHeartbeats 400000 in
theorem rrefs_own (k : Int) (x y : VidO) (t : ByteArray) (w : World) (hk : 0 ≤ k ∧ k < 256) : Calls Try.prog 42 #[opC k x y t] w (OwnedRet w 49 3 (refsV k x y).length ((refsV k x y).flatMap VidO.cs)) := by
  obtain ⟨hk0, hk1⟩ := hk
  by_cases c2 : k = 2
  · subst c2
    go_enter Try.func42, Try.ntmps42
    go_wp2
    go_ret
    exact ownRet_fresh rfl (below_box _ _) (by simp) (Nat.le_trans (refsV_le2 _ x y) (by decide))
  by_cases c3 : k = 3
  · subst c3
    go_enter Try.func42, Try.ntmps42
    go_wp2
    go_ret
    exact ownRet_fresh rfl (below_box _ _) (by simp) (Nat.le_trans (refsV_le2 _ x y) (by decide))
  by_cases c5 : k = 5
  · subst c5
    go_enter Try.func42, Try.ntmps42
    go_wp2
    go_ret
    exact ownRet_fresh rfl (below_box _ _) (by simp) (Nat.le_trans (refsV_le2 _ x y) (by decide))
  by_cases c4 : k = 4
  · subst c4
    go_enter Try.func42, Try.ntmps42
    go_wp2
    go_ret
    exact ownRet_fresh rfl (below_box _ _) (by simp) (Nat.le_trans (refsV_le2 _ x y) (by decide))
  rw [refsV_none x y (k := k) (by omega)]
  have d2 : (k == 2) = false := by simpa using c2
  have d3 : (k == 3) = false := by simpa using c3
  have d4 : (k == 4) = false := by simpa using c4
  have d5 : (k == 5) = false := by simpa using c5
  clear c2 c3 c4 c5
  go_enter Try.func42, Try.ntmps42
  go_wp2
  go_ret
  exact ownRet_nil (below_box _ _)
theorem refsW (o : OpV) (w : World) : Calls Try.prog 40 #[.agg (encO o).toArray] w (OwnedRet w 49 3 (refsO o).length ((refsO o).flatMap encV)) := by
  have h := refs_own ((o.1.val : Nat) : Int) (oldV o.2.1) (oldV o.2.2.1) o.2.2.2 w ⟨by omega, by have := o.1.isLt; omega⟩
  rw [refsO_old, old_flat, List.length_map] at h
  exact h
theorem rrefsW (o : OpV) (w : World) : Calls Try.prog 42 #[.agg (encO o).toArray] w (OwnedRet w 49 3 (refsO o).length ((refsO o).flatMap encV)) := by
  have h := rrefs_own ((o.1.val : Nat) : Int) (oldV o.2.1) (oldV o.2.2.1) o.2.2.2 w ⟨by omega, by have := o.1.isLt; omega⟩
  rw [refsO_old, old_flat, List.length_map] at h
  exact h
/-- two rows of other types never share a block -/
theorem own_ne {w : World} {b1 b2 : Nat} {e1 e2 : TypeId} {s1 s2 n1 n2 : Nat} {v1 v2 : Value} {x1 x2 : List Value} (h1 : w.ownsRow b1 e1 s1 v1 n1 x1) (h2 : w.ownsRow b2 e2 s2 v2 n2 x2) (he : e1 ≠ e2) : v1.ownBlock = none ∨ v1.ownBlock ≠ v2.ownBlock := by
  rcases h1.2 with ⟨rfl, _⟩ | ⟨g, cap, cur, rfl, _, hh, _⟩
  · exact .inl rfl
  · refine .inr fun h => ?_
    rcases h2.2 with ⟨rfl, _⟩ | ⟨g', cap', cur', rfl, _, hh', _⟩
    · simp [Value.ownBlock] at h
    · have hg : g = g' := by simpa [Value.ownBlock] using h
      subst hg
      rw [hh] at hh'
      injection hh' with hh'
      injection hh' with _ ht _
      exact he ht
section
variable {P : Program} {w w0 : World} {ops : Array Oper} {rest : List Oper} {a : Act} {Q : Exit → Act → World → Prop}
/-- .. and only this row has turned -/
theorem wpList_pushOnly {d : Option Tmp} {ty : TypeId} {pos : String} {after : Array Edge} {s x : Operand} {t e : TypeId} {size bytes : Nat} (T : SlT P t e size bytes)
    {base : Nat} {v : Value} {n : Nat} {xs : List Value} (hown : w0.ownsRow base e size v n xs) (cs : List Value) (hl : cs.length = size) (h1 : ∀ u ∈ cs, u.oneCell' = true) (hbase : base ≤ w0.heap.size)
    (hb : (n + 1) * bytes ≤ 140737488355328) (hm : n + 1 ≤ maxLen)
    (H : Nat) (hH : w0.heap.size = H) (hs : a.eval s = v) (hx : a.eval x = .slice (some ⟨H, 0, none⟩) 1 1) (hw : w = w0.alloc (.cells cs.toArray e))
    (h : ∀ v' w', w'.ownsRow base e size v' (n + 1) (xs ++ cs) → (w0.alloc (.cells cs.toArray e)).grownBy w' v.ownBlock → Below base w0 w' → wpList P ops Q rest (a.put d v') w') :
    wpList P ops Q (⟨d, .call { callee := .builtin .append, args := #[s, x], argTypes := #[t, t] }, ty, pos, after, none⟩ :: rest) a w := by
  obtain ⟨i, z, hi, hz, hsz, hby, hzs⟩ := T.hi
  subst hw hH
  have hown' := hown.alloc (.cells cs.toArray e)
  refine wpList_append_own _ rfl s x t rfl base e i z size bytes T.ht hi hz hsz hby hzs T.pos v n xs hs hown' ⟨w0.heap.size, 0, none⟩ 1 1 cs hx (by omega) (news_new w0 e cs) h1 hm hb (by simp; omega) ?_
  intro v' w' ho hg _
  exact h v' w' ho hg (((Below.refl base w0).alloc hbase _).grown hg (by simp; omega) (fun k hk => (hown'.lt k hk).1))
end

theorem own_base {w : World} {base base' : Nat} {e : TypeId} {size n : Nat} {v : Value} {xs : List Value} (h : w.ownsRow base e size v n xs) (hb : base' ≤ base) : w.ownsRow base' e size v n xs :=
  ⟨h.1, h.2.imp id fun ⟨g, cap, cur, e, hg, r⟩ => ⟨g, cap, cur, e, Nat.le_trans hb hg, r⟩⟩
end Go.Proofs.Ytmfdggolnfoniaa
