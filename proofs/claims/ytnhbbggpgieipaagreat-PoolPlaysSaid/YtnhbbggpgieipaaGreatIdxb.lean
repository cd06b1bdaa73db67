/- Patches that lie in known blocks; an index as it lies. -/
import Derived.Test.YtnhbbggpgieipaaGreatIdxa
import Derived.Test.YtnhbbggpgieipaaGreatGen
import Derived.Test.YtnhbbggpgieipaaGreatLists
import Derived.Test.YtnhbbggpgieipaaGreatPatw
namespace Go.Proofs.YtnhbbggpgieipaaGreat
open Go.RowKit

/-- whatever a slice holds lies in a block of G -/
def InB (G : Nat → Prop) (A : Option Addr) (n : Nat) : Prop := 0 < n → ∀ b o, A = some ⟨b, o, none⟩ → G b
/-- of the blocks of G nothing has turned -/
def Stay (G : Nat → Prop) (w w' : World) : Prop := w.heap.size ≤ w'.heap.size ∧ ∀ k, k < w.heap.size → G k → w'.heap[k]? = w.heap[k]?
section
variable {w w' : World} {F G : Nat → Prop}
theorem Kept.stay (h : Kept F w w') (hd : ∀ k, k < w.heap.size → G k → ¬ F k) : Stay G w w' := ⟨h.size, fun k hk hg => h.block k hk (hd k hk hg)⟩
theorem Stay.of_below (h : Below w.heap.size w w') : Stay G w w' := ⟨h.size, fun k hk _ => h.block k hk⟩
theorem Stay.mono (h : Stay F w w') (hg : ∀ k, G k → F k) : Stay G w w' := ⟨h.1, fun k hk e => h.2 k hk (hg k e)⟩
theorem InB.mono {A : Option Addr} {n : Nat} (h : InB F A n) (hg : ∀ k, F k → G k) : InB G A n := fun hn b o e => hg b (h hn b o e)
theorem Sl.stay {B size n : Nat} {A : Option Addr} {xs : List Value} (h : Sl w B size A n xs) (hG : InB G A n) (hB : B ≤ w.heap.size) (hk : Stay G w w') : Sl w' B size A n xs :=
  ⟨h.1, fun hn => by
    obtain ⟨b, o, e, hb, hc⟩ := h.2 hn
    exact ⟨b, o, e, hb, fun j hj => (World.cell?_of_block (a := ⟨b, o + j, none⟩) (hk.2 b (by omega) (hG hn b o e))).trans (hc j hj)⟩⟩
theorem PidsAt.stay {A : Option Addr} {n : Nat} {l : List PidV} (h : PidsAt w A n l) (hG : InB G A n) (hk : Stay G w w') : PidsAt w' A n l := ⟨h.len, (h.sl.stay hG (Nat.le_refl _) hk).more hk.1⟩
theorem OpsAt.stay {A : Option Addr} {n : Nat} {l : List OpV} (h : OpsAt w A n l) (hG : InB G A n) (hk : Stay G w w') : OpsAt w' A n l := ⟨h.len, (h.sl.stay hG (Nat.le_refl _) hk).more hk.1, h.ok⟩
theorem own_inB {base size n : Nat} {e : TypeId} {A : Option Addr} {c : Nat} {xs : List Value} (h : w.ownsRow base e size (.slice A n c) n xs) : InB (fun k => base ≤ k ∧ k < w.heap.size) A n := by
  intro hn b o e
  subst e
  exact h.lt b rfl
end
/-- a patch whose lists lie in G -/
structure PatIn (w : World) (G : Nat → Prop) (r : List Value) (p : PatV) : Prop where
  ex : ∃ A c A' c', r = patC p.1 A p.2.1.length c A' p.2.2.length c' ∧ PidsAt w A p.2.1.length p.2.1 ∧ OpsAt w A' p.2.2.length p.2.2 ∧ InB G A p.2.1.length ∧ InB G A' p.2.2.length
  len1 : p.2.1.length ≤ maxLen
  len2 : p.2.2.length ≤ maxLen
section
variable {w w' : World} {F G : Nat → Prop} {r : List Value} {p : PatV}
theorem PatIn.at_ (h : PatIn w G r p) : PatAt w r p := by
  obtain ⟨⟨A, c, A', c', e, h1, h2, _⟩, h3, h4⟩ := h
  exact ⟨⟨A, c, A', c', e, h1, h2⟩, h3, h4⟩
theorem PatIn.stay (h : PatIn w G r p) (hk : Stay G w w') : PatIn w' G r p := by
  obtain ⟨⟨A, c, A', c', e, h1, h2, i1, i2⟩, h3, h4⟩ := h
  exact ⟨⟨A, c, A', c', e, h1.stay i1 hk, h2.stay i2 hk, i1, i2⟩, h3, h4⟩
theorem PatIn.mono (h : PatIn w F r p) (hg : ∀ k, F k → G k) : PatIn w G r p := by
  obtain ⟨⟨A, c, A', c', e, h1, h2, i1, i2⟩, h3, h4⟩ := h
  exact ⟨⟨A, c, A', c', e, h1, h2, i1.mono hg, i2.mono hg⟩, h3, h4⟩
theorem PatIn.ext (h : PatIn w G r p) (hb : Below w.heap.size w w') : PatIn w' G r p := h.stay (Stay.of_below hb)
theorem PatIn.len4 (h : PatIn w G r p) : r.length = 4 := h.at_.len4
theorem PatIn.one (h : PatIn w G r p) : ∀ u ∈ r, u.oneCell' = true := h.at_.one
/-- what came in lies in old blocks -/
theorem PatAt.in_ (h : PatAt w r p) : PatIn w (fun k => k < w.heap.size) r p := by
  obtain ⟨⟨A, c, A', c', e, h1, h2⟩, h3, h4⟩ := h
  refine ⟨⟨A, c, A', c', e, h1, h2, ?_, ?_⟩, h3, h4⟩
  · intro hn b o ea
    obtain ⟨b', o', e', hb, _⟩ := h1.sl.2 hn
    rw [ea] at e'; injection e' with e'; injection e' with e1 _; show b < _; rw [e1]; exact hb
  · intro hn b o ea
    obtain ⟨b', o', e', hb, _⟩ := h2.sl.2 hn
    rw [ea] at e'; injection e' with e'; injection e' with e1 _; show b < _; rw [e1]; exact hb
theorem PatIn.of_copy {B : Nat} {A1 A2 : Option Addr} {c1 c2 : Nat} (h1 : w.ownsRow B 33 2 (.slice A1 p.2.1.length c1) p.2.1.length (p.2.1.flatMap encP)) (h2 : w.ownsRow B 78 8 (.slice A2 p.2.2.length c2) p.2.2.length (p.2.2.flatMap encO))
    (ho : ∀ o ∈ p.2.2, OpV.ok o) (l1 : p.2.1.length ≤ maxLen) (l2 : p.2.2.length ≤ maxLen) : PatIn w (fun k => B ≤ k ∧ k < w.heap.size) (patC p.1 A1 p.2.1.length c1 A2 p.2.2.length c2) p := by
  obtain ⟨A, c, e, _, s1⟩ := Sl.of_own h1
  obtain ⟨A', c', e', _, s2⟩ := Sl.of_own h2
  injection e with ea _ _
  injection e' with ea' _ _
  subst ea ea'
  exact ⟨⟨A1, c1, A2, c2, rfl, ⟨rfl, s1⟩, ⟨rfl, s2, ho⟩, own_inB h1, own_inB h2⟩, l1, l2⟩
theorem PatAt.oks (h : PatAt w r p) : ∀ o ∈ p.2.2, OpV.ok o := by
  obtain ⟨⟨A, c, A', c', e, h1, h2⟩, h3, h4⟩ := h
  exact h2.ok
end
def RowsIn (w : World) (G : Nat → Prop) (rows : List (List Value)) (l : List PatV) : Prop := rows.length = l.length ∧ ∀ (k : Nat) (r : List Value) (p : PatV), rows[k]? = some r → l[k]? = some p → PatIn w G r p
section
variable {w w' : World} {F G : Nat → Prop} {rows : List (List Value)} {l : List PatV}
theorem RowsIn.rowsP (h : RowsIn w G rows l) : RowsP w rows l := ⟨h.1, fun k r p h1 h2 => (h.2 k r p h1 h2).at_⟩
theorem RowsIn.stay (h : RowsIn w G rows l) (hk : Stay G w w') : RowsIn w' G rows l := ⟨h.1, fun k r p h1 h2 => (h.2 k r p h1 h2).stay hk⟩
theorem RowsIn.mono (h : RowsIn w F rows l) (hg : ∀ k, F k → G k) : RowsIn w G rows l := ⟨h.1, fun k r p h1 h2 => (h.2 k r p h1 h2).mono hg⟩
theorem RowsIn.nil (w : World) (G : Nat → Prop) : RowsIn w G [] [] := ⟨rfl, fun _ _ _ h => by simp at h⟩
theorem RowsIn.snoc {r : List Value} {p : PatV} (h : RowsIn w G rows l) (hp : PatIn w G r p) : RowsIn w G (rows ++ [r]) (l ++ [p]) := by
  refine ⟨by simp [h.1], fun k r' p' h1 h2 => ?_⟩
  rcases Nat.lt_or_ge k rows.length with hk | hk
  · rw [List.getElem?_append_left hk] at h1
    rw [List.getElem?_append_left (by rw [← h.1]; exact hk)] at h2
    exact h.2 k r' p' h1 h2
  · rw [List.getElem?_append_right hk] at h1
    rw [List.getElem?_append_right (by rw [← h.1]; exact hk), ← h.1] at h2
    match k - rows.length, h1, h2 with
    | 0, h1, h2 =>
      obtain rfl : r = r' := by simpa using h1
      obtain rfl : p = p' := by simpa using h2
      exact hp
    | j + 1, h1, _ => simp at h1
theorem RowsP.in_ (h : RowsP w rows l) : RowsIn w (fun k => k < w.heap.size) rows l := ⟨h.1, fun k r p h1 h2 => (h.2 k r p h1 h2).in_⟩
end
/-- a slice of patches that lies in G, with all that it leads to -/
structure PatsIn (w : World) (G : Nat → Prop) (A : Option Addr) (n : Nat) (l : List PatV) : Prop where
  len : l.length = n
  inb : InB G A n
  ex : ∃ rows, RowsIn w G rows l ∧ Sl w w.heap.size 4 A n rows.flatten
section
variable {w w' : World} {F G : Nat → Prop} {A : Option Addr} {n : Nat} {l : List PatV}
theorem PatsIn.at_ (h : PatsIn w G A n l) : PatsAt w A n l := by
  obtain ⟨rows, h1, h2⟩ := h.ex
  exact ⟨h.len, rows, h1.rowsP, h2⟩
theorem PatsIn.stay (h : PatsIn w G A n l) (hk : Stay G w w') : PatsIn w' G A n l := by
  obtain ⟨rows, h1, h2⟩ := h.ex
  exact ⟨h.len, h.inb, rows, h1.stay hk, (h2.stay h.inb (Nat.le_refl _) hk).more hk.1⟩
theorem PatsIn.mono (h : PatsIn w F A n l) (hg : ∀ k, F k → G k) : PatsIn w G A n l := by
  obtain ⟨rows, h1, h2⟩ := h.ex
  exact ⟨h.len, h.inb.mono hg, rows, h1.mono hg, h2⟩
theorem PatsIn.ext (h : PatsIn w G A n l) (hb : Below w.heap.size w w') : PatsIn w' G A n l := h.stay (Stay.of_below hb)
theorem PatsAt.in_ (h : PatsAt w A n l) : PatsIn w (fun k => k < w.heap.size) A n l := by
  obtain ⟨rows, h1, h2⟩ := h.ex
  refine ⟨h.len, fun hn b o ea => ?_, rows, h1.in_, h2⟩
  obtain ⟨b', o', e', hb, _⟩ := h2.2 hn
  rw [ea] at e'; injection e' with e'; injection e' with e1 _; show b < _; rw [e1]; exact hb
end

/-- a row of patches of one's own, each with lists of its own: all made from block B on -/
def OwnC (B : Nat) (w : World) (s : Value) (l : List PatV) : Prop := ∃ rows D, w.ownsRow B 37 4 s l.length rows.flatten ∧ RowsIn w D rows l ∧ ∀ k, D k → B ≤ k ∧ k < w.heap.size ∧ s.ownBlock ≠ some k
section
variable {w w' : World} {B : Nat} {s : Value} {l : List PatV}
theorem OwnC.nil (B : Nat) (w : World) : OwnC B w (.slice none 0 0) [] := ⟨[], fun _ => False, World.ownsRow_nil _ _ _ _, RowsIn.nil w _, fun _ h => h.elim⟩
theorem OwnC.stay (h : OwnC B w s l) (hk : Stay (fun k => B ≤ k) w w') : OwnC B w' s l := by
  obtain ⟨rows, D, h1, h2, h3⟩ := h
  exact ⟨rows, D, own_keepF h1 (fun g e => hk.2 g (h1.lt g e).2 (h1.lt g e).1), h2.stay (hk.mono fun k e => (h3 k e).1), fun k e => ⟨(h3 k e).1, Nat.lt_of_lt_of_le (h3 k e).2.1 hk.1, (h3 k e).2.2⟩⟩
theorem OwnC.ext (h : OwnC B w s l) (hb : Below w.heap.size w w') : OwnC B w' s l := h.stay (Stay.of_below hb)
theorem OwnC.mono {B' : Nat} (h : OwnC B w s l) (hB : B' ≤ B) : OwnC B' w s l := by
  obtain ⟨rows, D, h1, h2, h3⟩ := h
  exact ⟨rows, D, own_rebase h1 (fun k e => Nat.le_trans hB (h1.lt k e).1), h2, fun k e => ⟨Nat.le_trans hB (h3 k e).1, (h3 k e).2⟩⟩
theorem OwnC.slice (h : OwnC B w s l) : ∃ A c, s = .slice A l.length c ∧ l.length ≤ c := by
  obtain ⟨rows, D, h1, _⟩ := h
  obtain ⟨A, c, rfl, hc, _⟩ := Sl.of_own h1
  exact ⟨A, c, rfl, hc⟩
theorem OwnC.pats {A : Option Addr} {c : Nat} (h : OwnC B w (.slice A l.length c) l) : PatsIn w (fun k => B ≤ k ∧ k < w.heap.size) A l.length l := by
  obtain ⟨rows, D, h1, h2, h3⟩ := h
  obtain ⟨A', c', e, _, hs⟩ := Sl.of_own h1
  injection e with e1 _ _
  subst e1
  exact ⟨rfl, own_inB h1, rows, h2.mono fun k e => ⟨(h3 k e).1, (h3 k e).2.1⟩, hs⟩
/-- one more that was copied between w and w0, and pushed -/
theorem OwnC.push {w0 : World} {v : Value} {r : List Value} {p : PatV} {C : Nat} {rows : List (List Value)} {D : Nat → Prop} (ho : w'.ownsRow B 37 4 v (l.length + 1) (rows.flatten ++ r)) (hk : Kept (fun k => s.ownBlock = some k) w0 w')
    (hv : ∀ k, v.ownBlock = some k → s.ownBlock = some k ∨ w0.heap.size ≤ k) (hr : RowsIn w0 D rows l) (hD : ∀ k, D k → B ≤ k ∧ k < w0.heap.size ∧ s.ownBlock ≠ some k) (hp : PatIn w0 (fun k => C ≤ k ∧ k < w0.heap.size) r p) (hC : B ≤ C) (hs : ∀ k, s.ownBlock = some k → k < C) : OwnC B w' v (l ++ [p]) := by
  have st : Stay (fun k => D k ∨ C ≤ k ∧ k < w0.heap.size) w0 w' := hk.stay fun k _ hd e => hd.elim (fun hd => (hD k hd).2.2 e) (fun hd => by have := hs k e; omega)
  refine ⟨rows ++ [r], fun k => D k ∨ C ≤ k ∧ k < w0.heap.size, ?_, ((hr.mono fun k hd => .inl hd).snoc (hp.mono fun k hd => .inr hd)).stay st, fun k hd => ?_⟩
  · rw [List.length_append, List.flatten_append]
    simpa using ho
  · have hlt : B ≤ k ∧ k < w0.heap.size := hd.elim (fun hd => ⟨(hD k hd).1, (hD k hd).2.1⟩) (fun hd => ⟨by omega, hd.2⟩)
    refine ⟨hlt.1, Nat.lt_of_lt_of_le hlt.2 hk.size, fun e => ?_⟩
    rcases hv k e with e | e
    · exact hd.elim (fun hd => (hD k hd).2.2 e) (fun hd => by have := hs k e; omega)
    · omega
end
/-- an index's cells -/
def idxC (v : List Int) (s : Value) (gm : Nat) : Array Value := vecA v ++ #[s, .map (some gm)]
def idxM (L : List PatV) : List (Value × Value) := L.mapIdx fun i p => (.agg (encP p.1).toArray, .int .i64 ((i : Nat) : Int))
/-- an index as it lies: its own blocks are those of F -/
structure IdxAt (w : World) (F : Nat → Prop) (g : Nat) (L : List PatV) : Prop where
  ok : IdxOk L
  lt : ∀ k, F k → k < w.heap.size
  self : F g
  ex : ∃ s gm rows D, Blk w g 94 (idxC (vecL L) s gm) ∧ F gm ∧ MapIs Tryz.prog 33 w gm (idxM L) ∧ w.ownsRow 0 37 4 s L.length rows.flatten ∧ (∀ k, s.ownBlock = some k → F k) ∧ RowsIn w D rows L ∧ ∀ k, D k → F k ∧ k ≠ g ∧ k ≠ gm ∧ s.ownBlock ≠ some k
theorem IdxAt.stay {w w' : World} {F : Nat → Prop} {g : Nat} {L : List PatV} (h : IdxAt w F g L) (hk : Stay F w w') : IdxAt w' F g L := by
  obtain ⟨h1, h2, h3, s, gm, rows, D, k1, k2, k3, k4, k5, k6, k7⟩ := h
  exact ⟨h1, fun k hF => Nat.lt_of_lt_of_le (h2 k hF) hk.1, h3, s, gm, rows, D, k1.keep (hk.2 g (h2 g h3) h3), k2, k3.keep (hk.2 gm (h2 gm k2) k2), own_keepF k4 (fun k e => hk.2 k (h2 k (k5 k e)) (k5 k e)), k5, k6.stay (hk.mono fun k e => (k7 k e).1), k7⟩
theorem IdxAt.ext {w w' : World} {F : Nat → Prop} {g : Nat} {L : List PatV} (h : IdxAt w F g L) (hb : Below w.heap.size w w') : IdxAt w' F g L := h.stay (Stay.of_below hb)
theorem idxM_snoc (L : List PatV) (p : PatV) : idxM (L ++ [p]) = idxM L ++ [(.agg (encP p.1).toArray, .int .i64 ((L.length : Nat) : Int))] := by
  unfold idxM; rw [List.mapIdx_append]; simp
theorem encP_inj {x y : PidV} (h : (Value.agg (encP x).toArray) = .agg (encP y).toArray) : x = y := by
  unfold encP at h
  simp only [Value.agg.injEq, Array.mk.injEq, List.cons.injEq, Value.int.injEq, true_and, and_true] at h
  exact Prod.ext (Fin.ext (by omega)) (Fin.ext (by omega))
theorem idxM_key {L : List PatV} {d : PidV} {v : Value} (h : ((Value.agg (encP d).toArray), v) ∈ idxM L) : ∃ (i : Nat) (p : PatV), L[i]? = some p ∧ p.1 = d ∧ v = .int .i64 (i : Int) := by
  obtain ⟨i, hi, e⟩ := List.getElem_of_mem h
  unfold idxM at hi e
  rw [List.getElem_mapIdx] at e
  rw [List.length_mapIdx] at hi
  injection e with e1 e2
  exact ⟨i, L[i], List.getElem?_eq_getElem hi, encP_inj e1, e2.symm⟩
theorem idxM_none {L : List PatV} {d : PidV} (h : ∀ q ∈ idxM L, q.1 ≠ .agg (encP d).toArray) : ∀ p ∈ L, p.1 ≠ d := by
  intro p hp e
  obtain ⟨i, hi, rfl⟩ := List.getElem_of_mem hp
  refine h (.agg (encP L[i].1).toArray, .int .i64 ((i : Nat) : Int)) ?_ (by rw [e])
  unfold idxM
  rw [List.mem_iff_getElem]
  exact ⟨i, by simpa using hi, by simp⟩
end Go.Proofs.YtnhbbggpgieipaaGreat
