/- Regions that draw their order: what only reads, or calls quietly, comes in any order; then a tail in its one order, which may write. No program in sight but as a variable. -/
import Derived.Test.YtmfdggolnfoniaaDoorPush
import Derived.StillTail
namespace Go.Proofs.YtmfdggolnfoniaaDoor
open Go.RowKit

section
variable {P : Program} {ops : Array Oper} {md : Region.Mode} {C : World → Prop} {n g : Nat} {L : Act → Prop}

/-- the head's operations come in whatever order; when all have come, the tail comes in its own -/
def Heads (P : Program) (md : Region.Mode) (ops : Array Oper) (C : World → Prop) (n g : Nat) (L : Act → Prop) : Nat → Array Bool → Act → Prop
  | 0, ls, a => Region.seqB md ops g n ls = true ∧ L a
  | f + 1, ls, a => Region.ready md ops ls ≠ [] ∧ ∀ i, i ∈ Region.ready md ops ls → i < n ∧ qOp P ops C i (Heads P md ops C n g L f (ls.setIfInBounds i true)) a

theorem Heads.any {Q : Exit → Act → World → Prop} (hg : (ops.toList.drop n).length = g) (hL : ∀ a w, C w → L a → wpList P ops Q (ops.toList.drop n) a w) :
    ∀ (f : Nat) (ls : Array Bool) (a : Act) (w : World), C w → Heads P md ops C n g L f ls a → wpAny P md ops Q (f + g) ls a w := by
  intro f
  induction f with
  | zero =>
    intro ls a w hw h
    have := wpAny_of_seq (P := P) (md := md) (ops := ops) (Q' := Q) (ops.toList.drop n) n ls a w (fun j => by simp [List.getElem?_drop]) (by rw [hg]; exact h.1) (hL a w hw h.2)
    rw [hg] at this
    rwa [Nat.zero_add]
  | succ f ih =>
    intro ls a w hw h
    have e : f + 1 + g = (f + g) + 1 := by omega
    rw [e]
    refine ⟨fun h0 => absurd h0 h.1, fun i hi => ?_⟩
    exact wpOp_of_qOp hw (fun a' w' hw' k => ih _ a' w' hw' k) (h.2 i hi).2

/-- what holds of the operations that have come -/
structure Far (md : Region.Mode) (ops : Array Oper) (i : Nat) (oi : Oper) (ls : Array Bool) : Prop where
  far : ∀ j oj, ops[j]? = some oj → j ≠ i → ls.getD j true = false → (∀ e ∈ oj.after, Region.binds md e = true → e.on ≠ i) → oi.apart ops oj = true
theorem Far.set {i j : Nat} {oi : Oper} {ls : Array Bool} (h : Far md ops i oi ls) (hj : ls.getD j true = false) : Far md ops i oi (ls.setIfInBounds j true) :=
  ⟨fun k ok hk hki hun hno => h.far k ok hk hki (by
    by_cases e : j = k
    · subst e; exact hj
    · rwa [getD_set_ne true e] at hun) hno⟩

theorem Heads.first (hsel : ∀ (j : Nat) (o : Oper) cs b, ops[j]? = some o → o.op ≠ .select cs b) (hs : Region.sinkB md ops n = true) (hc : Region.chainB md ops n = true) (hn : n < ops.size)
    {i : Nat} {oi : Oper} {v : Value} (hi : ops[i]? = some oi) (hin : i < n) :
    ∀ (f : Nat) (ls : Array Bool) (a : Act), HeadInv md ops n ls → Far md ops i oi ls → i ∈ Region.ready md ops ls → YieldsIn P ops C oi v a →
      Heads P md ops C n g L f (ls.setIfInBounds i true) (a.put oi.dst v) → Heads P md ops C n g L (f + 1) ls a := by
  intro f
  induction f with
  | zero =>
    intro ls a inv _ hr hy H
    refine ⟨fun h => by rw [h] at hr; exact absurd hr (by simp), fun j hj => ?_⟩
    have hlt : j < n := Nat.lt_of_not_le fun hge => tail_waits hs hc hn inv _ i rfl hin (mem_ready.1 hr).1 j hge hj
    by_cases e : j = i
    · subst e; exact ⟨hlt, hy.qOp hi H⟩
    · exact absurd (seqB_ready H.1 j (ready_mono hj e)) (by omega)
  | succ f ih =>
    intro ls a inv hf hr hy H
    refine ⟨fun h => by rw [h] at hr; exact absurd hr (by simp), fun j hj => ?_⟩
    have hun := (mem_ready.1 hr).1
    have hlt : j < n := Nat.lt_of_not_le fun hge => tail_waits hs hc hn inv _ i rfl hin hun j hge hj
    by_cases e : j = i
    · subst e; exact ⟨hlt, hy.qOp hi H⟩
    · obtain ⟨hjun, oj, hoj, hall⟩ := mem_ready.1 hj
      have hw : ∀ x ∈ oj.after, Region.binds md x = true → x.on ≠ i := by
        intro x hx hb he
        have h1 := hall x hx hb
        rw [he, getD_both hun] at h1
        cases h1
      refine ⟨hlt, qOp_mono (fun a' h3 => ?_) (qOp_put hoj (hf.far j oj hoj e hjun hw) (fun cs b => hsel i oi cs b hi) (fun cs b => hsel j oj cs b hoj) hy (H.2 j (ready_mono hj e)).2)⟩
      have h4 := h3.2
      rw [Array.setIfInBounds_comm _ _ (Ne.symm e)] at h4
      exact ih _ a' (inv.set hj hlt) (hf.set hjun) (ready_mono hr (Ne.symm e)) h3.1 h4

theorem Heads.lex (hsel : Region.noSelect ops = true) (hs : Region.sinkB md ops n = true) (hc : Region.chainB md ops n = true) (hn : n < ops.size) :
    ∀ (l : List Oper) (k : Nat) (ls : Array Bool) (a : Act), (∀ j, j < l.length → l[j]? = ops[k + j]?) → k + l.length = n → HeadInv md ops n ls →
      Region.lexHead md ops g l.length k ls = true → wpQuiet P ops C L l a → Heads P md ops C n g L l.length ls a := by
  intro l
  induction l with
  | nil =>
    intro k ls a _ hk _ hB h
    have e : k = n := by simpa using hk
    subst e
    exact ⟨by simpa [Region.lexHead] using hB, h⟩
  | cons o l ih =>
    intro k ls a hl hk inv hB h
    have hl' : k + l.length + 1 = n := by simp at hk; omega
    have h0 : ops[k]? = some o := by have := hl 0 (by simp); simpa using this.symm
    simp only [List.length_cons, Region.lexHead, Bool.and_eq_true] at hB
    obtain ⟨⟨hr, hfree⟩, hB'⟩ := hB
    have hkr : k ∈ Region.ready md ops ls := by simpa using hr
    have hq : qOp P ops C k (wpQuiet P ops C L l) a := by
      unfold qOp
      simp only [h0]
      exact h
    obtain ⟨v, hy, hK⟩ := yieldsIn_of_qOp h0 hq
    refine Heads.first (Region.noSelect_spec hsel) hs hc hn h0 (by omega) l.length ls a inv ⟨Region.free_spec h0 hfree⟩ hkr hy ?_
    refine ih (k + 1) _ _ (fun j hj => ?_) (by omega) (inv.set hkr (by omega)) hB' hK
    have := hl (j + 1) (by simp; omega)
    rw [show k + 1 + j = k + (j + 1) by omega, ← this]
    simp

/-- the head walked in the order of the text, the tail behind it -/
theorem wp_region_tail {id : Nat} {Q : Exit → Act → World → Prop} {a : Act} {w : World} {l : List Oper} (n : Nat) (hm : P.follows .mixedOrders = true) (hB : Region.lexTailB .any l.toArray n = true) (hC : C w.drew)
    (h : wpQuiet P l.toArray C (fun a' => ∀ w', C w' → wpList P l.toArray Q (l.drop n) a' w') (l.take n) a) : (Code.region id l.toArray true).wp P Q a w := by
  simp only [Region.lexTailB, Bool.and_eq_true, decide_eq_true_eq] at hB
  obtain ⟨⟨⟨⟨hsel, hn⟩, hs⟩, hc⟩, hlex⟩ := hB
  have hnl : n < l.length := by simpa using hn
  have hlen : (l.take n).length = n := by simp; omega
  have inv : HeadInv .any l.toArray n (Array.replicate l.toArray.size false) := by
    refine ⟨by simp, fun j oj _ hl => ?_, fun t _ ht => getD_in (by simpa using ht) (getD_replicate_false _ _)⟩
    rw [getD_replicate_false] at hl; cases hl
  have H := Heads.lex (P := P) (md := .any) (C := C) (L := fun a' => ∀ w', C w' → wpList P l.toArray Q (l.drop n) a' w') (g := l.toArray.size - n) hsel hs hc hn (l.take n) 0 _ a
    (fun j hj => by rw [hlen] at hj; simp [hj]) (by omega) inv (by rw [hlen]; exact hlex) h
  refine wp_region_any hm ?_
  have K := Heads.any (P := P) (md := .any) (C := C) (Q := Q) (n := n) (g := l.toArray.size - n) (L := fun a' => ∀ w', C w' → wpList P l.toArray Q (l.drop n) a' w') (by simp) (fun a' w' hw' hl => by simpa using hl w' hw')
    _ _ _ _ hC H
  have e : (l.take n).length + (l.toArray.size - n) = l.toArray.size := by rw [hlen]; simp; omega
  rw [e] at K
  exact K
/-- .. where the head only draws -/
theorem wp_region_drawn {id : Nat} {Q : Exit → Act → World → Prop} {a : Act} {w : World} {l : List Oper} (n : Nat) (hm : P.follows .mixedOrders = true) (hB : Region.lexTailB .any l.toArray n = true)
    (h : wpQuiet P l.toArray (fun w' => ∃ k, w' = w.drewN k) (fun a' => ∀ w', (∃ k, w' = w.drewN k) → wpList P l.toArray Q (l.drop n) a' w') (l.take n) a) : (Code.region id l.toArray true).wp P Q a w :=
  wp_region_tail (C := fun w' => ∃ k, w' = w.drewN k) n hm hB ⟨1, rfl⟩ h
/-- .. where the head only makes memory -/
theorem wp_region_made {id : Nat} {Q : Exit → Act → World → Prop} {a : Act} {w : World} {l : List Oper} (n : Nat) (hm : P.follows .mixedOrders = true) (hB : Region.lexTailB .any l.toArray n = true)
    (h : wpQuiet P l.toArray (fun w' => ∃ z : Ext w, w' = z.w) (fun a' => ∀ w', (∃ z : Ext w, w' = z.w) → wpList P l.toArray Q (l.drop n) a' w') (l.take n) a) : (Code.region id l.toArray true).wp P Q a w :=
  wp_region_tail (C := fun w' => ∃ z : Ext w, w' = z.w) n hm hB ⟨⟨_, (Below.refl _ _).drew⟩, rfl⟩ h
end
theorem below_setCell {B : Nat} {a w : World} (h : Below B a w) {p : Addr} (hp : B ≤ p.block) {u : Value} : Below B a (w.setCell p u) := h.setCell hp u
end Go.Proofs.YtmfdggolnfoniaaDoor
