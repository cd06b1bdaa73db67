/- Parts of slices, and what is put behind one another, in regions that draw their order. No program in sight but as a variable. -/
import Derived.Test.YtmfdggolnfoniaaDoorHeldm
import Derived.Test.YtmfdggolnfoniaaDoorCat
namespace Go.Proofs.YtmfdggolnfoniaaDoor
open Go.RowKit

def cutAddr (A : Option Addr) (c k size : Nat) : Option Addr := if c = k then A else A.map (·.add (k * size))
section
variable {P : Program} {ops : Array Oper} {Q : Exit → Act → World → Prop} {S : World → Prop} {K : Act → World → Prop} {a : Act} {w w' : World} {d : Option Tmp} {ty t e : TypeId} {size bytes : Nat} {pos : String} {after : Array Edge} {gd : Option (Nat × Bool)}
theorem run_slice_low (T : SlT P t e size bytes) {A : Option Addr} {n c k : Nat} (hk : k ≤ n) (w : World) :
    (Instr.sliceAt t (.slice A n c) (some (.int .i64 k)) none none).run P w = .ok (.slice (cutAddr A c k size) (n - k) (c - k)) w := by
  obtain ⟨i, z, hi, hz, hsz, hby, hzs⟩ := T.hi
  simp [Instr.sliceAt, Instr.slice, run_underlying T.ht, Instr.sliceBounds, Instr.sliceBound, asIntOf, sizeOf, typeInfo, hi, hsz, cutAddr]
  intro h; omega
theorem run_slice_high (T : SlT P t e size bytes) {A : Option Addr} {n c k : Nat} (hk : k ≤ c) (w : World) :
    (Instr.sliceAt t (.slice A n c) none (some (.int .i64 k)) none).run P w = .ok (.slice (cutAddr A c 0 size) k c) w := by
  obtain ⟨i, z, hi, hz, hsz, hby, hzs⟩ := T.hi
  simp [Instr.sliceAt, Instr.slice, run_underlying T.ht, Instr.sliceBounds, Instr.sliceBound, asIntOf, sizeOf, typeInfo, hi, cutAddr]
  intro h; omega
theorem Sl.cutLow {α : Type} {enc : α → List Value} {B n c k : Nat} {A : Option Addr} {l : List α} (h : Sl w B size A n (l.flatMap enc)) (hn : l.length = n) (henc : ∀ x, (enc x).length = size) (hk : k ≤ n) (hc : n ≤ c) :
    Sl w B size (cutAddr A c k size) (n - k) ((l.drop k).flatMap enc) := by
  refine ⟨by rw [flatMap_len enc _ (fun x _ => henc x), List.length_drop, hn], fun hp => ?_⟩
  obtain ⟨b, o, rfl, hb, hcell⟩ := h.2 (by omega)
  unfold cutAddr
  rw [if_neg (by omega)]
  refine ⟨b, o + k * size, by simp [Addr.add_mid], hb, fun j hj => ?_⟩
  have hjk : k * size + j < n * size := by
    have : (n - k) * size + k * size = n * size := by rw [← Nat.add_mul]; congr 1; omega
    omega
  rw [Nat.add_assoc, hcell _ hjk]
  have e0 : l.flatMap enc = (l.take k).flatMap enc ++ (l.drop k).flatMap enc := by rw [← List.flatMap_append, List.take_append_drop]
  have hl : ((l.take k).flatMap enc).length = k * size := by rw [flatMap_len enc _ (fun x _ => henc x), List.length_take, Nat.min_eq_left (by omega)]
  rw [e0, List.getElem?_append_right (by omega), hl, Nat.add_sub_cancel_left]
theorem Sl.cutHigh {α : Type} {enc : α → List Value} {B n c k : Nat} {A : Option Addr} {l : List α} (h : Sl w B size A n (l.flatMap enc)) (hn : l.length = n) (henc : ∀ x, (enc x).length = size) (hk : k ≤ n) :
    Sl w B size (cutAddr A c 0 size) k ((l.take k).flatMap enc) := by
  have hl : ((l.take k).flatMap enc).length = k * size := by rw [flatMap_len enc _ (fun x _ => henc x), List.length_take, Nat.min_eq_left (by omega)]
  refine ⟨hl, fun hp => ?_⟩
  obtain ⟨b, o, rfl, hb, hcell⟩ := h.2 (by omega)
  refine ⟨b, o, ?_, hb, fun j hj => ?_⟩
  · unfold cutAddr
    split
    · rfl
    · simp [Addr.add_mid]
  · have hkn : k * size ≤ n * size := Nat.mul_le_mul_right _ hk
    have e0 : l.flatMap enc = (l.take k).flatMap enc ++ (l.drop k).flatMap enc := by rw [← List.flatMap_append, List.take_append_drop]
    rw [hcell _ (by omega), e0, List.getElem?_append_left (by omega)]
theorem take_slice {d : Tmp} {x : Operand} {lo hi mx : Option Operand} {xv v : Value} {lv hv mv : Option Value} {i fuel : Nat} {ls : Array Bool} {md : Region.Mode} (hi' : ops[i]? = some ⟨some d, .slice t x lo hi mx, ty, pos, after, gd⟩)
    (hs : Region.noSelect ops = true) (hf : Region.free md ops ls i = true) (hr : (Region.ready md ops ls).contains i = true) (hQ : ∀ c (a : Act) (w : World), Q (.panic c) (a.put (some d) v) w → Q (.panic c) a w)
    (hw : Region.wanted ⟨some d, .slice t x lo hi mx, ty, pos, after, gd⟩ (yielded ops a.tmps) = true) (hx : a.eval x = xv) (hl : lo.map a.eval = lv) (hh : hi.map a.eval = hv) (hm : mx.map a.eval = mv) (hrun : ∀ u : World, (Instr.sliceAt t xv lv hv mv).run P u = .ok v u) (hS : S w)
    (h : wpAnyH P md ops Q S fuel (ls.setIfInBounds i true) (a.put (some d) v) w) : wpAnyH P md ops Q S (fuel + 1) ls a w :=
  wpAnyH_take (oi := ⟨some d, .slice t x lo hi mx, ty, pos, after, gd⟩) hi' hs hf hr hQ (.inl ⟨hw, fun w' _ => by unfold execOp; simp only [hx, hl, hh, hm, Sem.run_bind, hrun, Result.andThen_ok, Sem.run_pure]⟩) hS h
theorem wp_built0 (T : SlT P t e size bytes) (h : K (a.put d (.slice (some ⟨w.heap.size, 0, none⟩) 0 0)) (w.alloc (.cells #[] e))) : Oper.wp P ⟨d, .buildSlice t 0 #[], ty, pos, after, gd⟩ a w K Q := by
  obtain ⟨i, z, hi, hz, hsz, hby, hzs⟩ := T.hi
  have hr : (Instr.buildSlice t 0 #[]).run P w = .ok (.slice (some ⟨w.heap.size, 0, none⟩) 0 0) (w.alloc (.cells #[] e)) := by
    simp [Instr.buildSlice, run_underlying T.ht, sizeOf, typeInfo, hi, Instr.fill, newRow]
    rw [show Array.map (fun _ => default) (Array.range 0) = (#[] : Array Value) from Array.eq_empty_of_size_eq_zero (by simp)]
  unfold Oper.wp execOp
  simp only [List.map_toArray, List.map_nil, Sem.run_bind, hr, Result.andThen_ok, Sem.run_pure]
  exact h
theorem wp_cat {s x : Operand} (T : SlT P t e size bytes) {base : Nat} {v : Value} {n : Nat} {xs : List Value} (hown : w.ownsRow base e size v n xs) {B : Nat} {A : Option Addr} {m c : Nat} {news : List Value} (hr : Sl w B size A m news) (h1 : ∀ u ∈ news, u.oneCell' = true) (hbase : base ≤ w.heap.size)
    (hb : (n + m) * bytes ≤ 140737488355328) (hm : n + m ≤ maxLen) (hs : a.eval s = v) (hx : a.eval x = .slice A m c)
    (h : ∀ v' w', w'.ownsRow base e size v' (n + m) (xs ++ news) → Below base w w' → K (a.put d v') w') :
    Oper.wp P ⟨d, .call { callee := .builtin .append, args := #[s, x], argTypes := #[t, t] }, ty, pos, after, gd⟩ a w K Q := by
  obtain ⟨i, z, hi, hz, hsz, hby, hzs⟩ := T.hi
  rcases A with _ | ad
  · have hm0 : m = 0 := by
      rcases Nat.eq_zero_or_pos m with h0 | h0
      · exact h0
      · obtain ⟨b, o, he, _⟩ := hr.2 h0
        cases he
    subst hm0
    have hn : news = [] := List.eq_nil_of_length_eq_zero (by simpa using hr.1)
    subst hn
    have hrun := run_append_noAddr (P := P) (ty := ty) T.ht hi hown c
    unfold Oper.wp execOp
    simp only [resolve, invoke, builtin, Sem.run_bind, Sem.run_pure, Result.andThen_ok, List.map_toArray, List.map_cons, List.map_nil, hs, hx, hrun]
    exact h v w (by simpa using hown) (Below.refl _ _)
  · refine wp_append_own w s x t rfl base e i z size bytes T.ht hi hz hsz hby hzs T.pos v n xs hs hown ad m c news hx hr.1 ?_ h1 hm hb hbase ?_
    · intro j u hu
      have hj : j < m * size := by
        have := (List.getElem?_eq_some_iff.1 hu).1
        rwa [hr.1] at this
      have hm0 : 0 < m := by
        rcases Nat.eq_zero_or_pos m with h0 | h0
        · subst h0; simp at hj
        · exact h0
      obtain ⟨b, o, he, _, hc⟩ := hr.2 hm0
      injection he with he
      subst he
      have ea : (⟨b, o, none⟩ : Addr).add j = ⟨b, o + j, none⟩ := by unfold Addr.add; split <;> simp_all
      rw [ea, hc j hj]; exact hu
    · intro v' w' ho hg _
      exact h v' w' ho ((Below.refl base w).grown hg hbase (fun k hk => (hown.lt k hk).1))
end
end Go.Proofs.YtmfdggolnfoniaaDoor
