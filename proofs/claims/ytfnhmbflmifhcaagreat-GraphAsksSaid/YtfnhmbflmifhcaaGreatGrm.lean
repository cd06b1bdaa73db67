/- Two graphs that hold the same are the same: graph.Same, walked for that case. -/
import Derived.Test.YtfnhmbflmifhcaaGreatGrl
import Derived.Test.YtfnhmbflmifhcaaGreatKinds
namespace Go.Proofs.YtfnhmbflmifhcaaGreat
open Go.RowKit

/-- vertices in a slice -/
structure VertsAt (w : World) (A : Option Addr) (n : Nat) (l : List VertV) : Prop where
  len : l.length = n
  sl : Sl w w.heap.size 9 A n (l.flatMap encX)
theorem VertsAt.ext {w w' : World} {A : Option Addr} {n : Nat} {l : List VertV} (h : VertsAt w A n l) (hb : Below w.heap.size w w') : VertsAt w' A n l := ⟨h.len, (h.sl.below hb (Nat.le_refl _)).more hb.size⟩
theorem VertsAt.at_ {w : World} {A : Option Addr} {n : Nat} {l : List VertV} (h : VertsAt w A n l) {k : Nat} (hk : k < n) : ∃ b o x, A = some ⟨b, o, none⟩ ∧ b < w.heap.size ∧ l[k]? = some x ∧ w.rangeAt b (o + k * 9) (encX x) := by
  have hk' : k < l.length := by rw [h.len]; exact hk
  obtain ⟨b, o, e, hb, hr⟩ := h.sl.rowAt h.len (fun x _ => encX_len x) hk'
  exact ⟨b, o, l[k], e, hb, List.getElem?_eq_getElem hk', hr⟩
theorem VertsAt.of_own {w : World} {base n : Nat} {v : Value} {l : List VertV} (h : w.ownsRow base 46 9 v n (l.flatMap encX)) (hn : l.length = n) : ∃ A c, v = .slice A n c ∧ n ≤ c ∧ VertsAt w A n l := by
  obtain ⟨A, c, rfl, hc, hs⟩ := Sl.of_own h
  exact ⟨A, c, rfl, hc, hn, hs⟩
/-- steps in a slice -/
structure EdgesAt (w : World) (A : Option Addr) (n : Nat) (l : List EdgeV) : Prop where
  len : l.length = n
  sl : Sl w w.heap.size 6 A n (l.flatMap encE)
theorem EdgesAt.ext {w w' : World} {A : Option Addr} {n : Nat} {l : List EdgeV} (h : EdgesAt w A n l) (hb : Below w.heap.size w w') : EdgesAt w' A n l := ⟨h.len, (h.sl.below hb (Nat.le_refl _)).more hb.size⟩
theorem EdgesAt.at_ {w : World} {A : Option Addr} {n : Nat} {l : List EdgeV} (h : EdgesAt w A n l) {k : Nat} (hk : k < n) : ∃ b o x, A = some ⟨b, o, none⟩ ∧ b < w.heap.size ∧ l[k]? = some x ∧ w.rangeAt b (o + k * 6) (encE x) := by
  have hk' : k < l.length := by rw [h.len]; exact hk
  obtain ⟨b, o, e, hb, hr⟩ := h.sl.rowAt h.len (fun x _ => encE_len x) hk'
  exact ⟨b, o, l[k], e, hb, List.getElem?_eq_getElem hk', hr⟩
theorem EdgesAt.of_own {w : World} {base n : Nat} {v : Value} {l : List EdgeV} (h : w.ownsRow base 64 6 v n (l.flatMap encE)) (hn : l.length = n) : ∃ A c, v = .slice A n c ∧ n ≤ c ∧ EdgesAt w A n l := by
  obtain ⟨A, c, rfl, hc, hs⟩ := Sl.of_own h
  exact ⟨A, c, rfl, hc, hn, hs⟩
theorem neqX_self (x : VertV) (w : World) : (binOp .neq 46 (.agg (encX x).toArray) (.agg (encX x).toArray)).run Tryz.prog w = .ok (.bool false) w := by
  unfold encX
  simp [go_sem]
theorem edgesL_few {L : List PatV} (hG : GrOk L) (hfew : L.length ≤ 400) : (edgesL L).length ≤ 80000 := by
  have h1 : (edgesL L).length ≤ (edgesOf L).length := by unfold edgesL; exact setK_len _
  have h2 : (edgesOf L).length ≤ opsN L := by
    unfold edgesOf opsN
    have : ∀ M : List PatV, (M.flatMap edgesP).length ≤ (M.map fun p => p.2.2.length).sum := by
      intro M
      induction M with
      | nil => simp
      | cons p M ih =>
        rw [List.flatMap_cons, List.length_append, List.map_cons, List.sum_cons]
        have : (edgesP p).length ≤ p.2.2.length := by
          unfold edgesP
          exact List.length_filterMap_le _ _
        omega
    exact this L
  have := hG.opsN
  omega
theorem neqE_self (x : EdgeV) (w : World) : (binOp .neq 64 (.agg (encE x).toArray) (.agg (encE x).toArray)).run Tryz.prog w = .ok (.bool false) w := by
  obtain ⟨kl, hk⟩ := kKeyE x
  obtain ⟨r, hr, hiff⟩ := run_equal_deep (P := Tryz.prog) w (m := 4) (by omega) (k := 64) (by kernel_rfl) (by kernel_rfl) hk hk
  obtain rfl : r = true := hiff.2 rfl
  have hr' : (Op.equalIn 10000 64 (.agg (encE x).toArray) (.agg (encE x).toArray)).run Tryz.prog w = .ok true w := hr
  clear hr
  generalize (encE x).toArray = E at *
  simp [go_sem, hr']
end Go.Proofs.YtfnhmbflmifhcaaGreat
