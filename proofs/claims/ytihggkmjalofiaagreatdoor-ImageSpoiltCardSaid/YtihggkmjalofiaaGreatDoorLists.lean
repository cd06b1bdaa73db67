/- Texts of general use, one behind another. -/
import Derived.Test.YtihggkmjalofiaaGreatDoorPaws
import Derived.Test.YtihggkmjalofiaaGreatDoorOps

/- Lists of patches as they lie; whether they are few and small: walked. -/
namespace Go.Proofs.YtihggkmjalofiaaGreatDoor
open Go.RowKit

theorem PatAt.len4 {w : World} {r : List Value} {p : PatV} (h : PatAt w r p) : r.length = 4 := by
  obtain ⟨⟨A, c, A', c', rfl, _, _⟩, _, _⟩ := h
  rfl
/-- rows of patches, each as it lies -/
def RowsP (w : World) (rows : List (List Value)) (l : List PatV) : Prop := rows.length = l.length ∧ ∀ (k : Nat) (r : List Value) (p : PatV), rows[k]? = some r → l[k]? = some p → PatAt w r p
theorem RowsP.ext {w w' : World} {rows : List (List Value)} {l : List PatV} (h : RowsP w rows l) (hb : Below w.heap.size w w') : RowsP w' rows l := ⟨h.1, fun k r p h1 h2 => (h.2 k r p h1 h2).ext hb⟩
theorem RowsP.nil (w : World) : RowsP w [] [] := ⟨rfl, fun _ _ _ h => by simp at h⟩
theorem RowsP.snoc {w : World} {rows : List (List Value)} {l : List PatV} {r : List Value} {p : PatV} (h : RowsP w rows l) (hp : PatAt w r p) : RowsP w (rows ++ [r]) (l ++ [p]) := by
  refine ⟨by simp [h.1], fun k r' p' h1 h2 => ?_⟩
  rcases Nat.lt_or_ge k rows.length with hk | hk
  · rw [List.getElem?_append_left hk] at h1
    rw [List.getElem?_append_left (by rw [← h.1]; exact hk)] at h2
    exact h.2 k r' p' h1 h2
  · rw [List.getElem?_append_right hk] at h1
    rw [List.getElem?_append_right (by rw [← h.1]; exact hk), ← h.1] at h2
    match k - rows.length, h1, h2 with
    | 0, h1, h2 =>
      obtain rfl : r = r' := by simpa using h1
      obtain rfl : p = p' := by simpa using h2
      exact hp
    | j + 1, h1, _ => simp at h1
theorem RowsP.len4 {w : World} {rows : List (List Value)} {l : List PatV} (h : RowsP w rows l) : ∀ r ∈ rows, r.length = 4 := by
  intro r hr
  obtain ⟨k, hk, rfl⟩ := List.getElem_of_mem hr
  have hk' : k < l.length := by rw [← h.1]; exact hk
  exact (h.2 k _ _ (List.getElem?_eq_getElem hk) (List.getElem?_eq_getElem hk')).len4
/-- a slice of patches -/
structure PatsAt (w : World) (A : Option Addr) (n : Nat) (l : List PatV) : Prop where
  len : l.length = n
  ex : ∃ rows, RowsP w rows l ∧ Sl w w.heap.size 4 A n rows.flatten
theorem PatsAt.ext {w w' : World} {A : Option Addr} {n : Nat} {l : List PatV} (h : PatsAt w A n l) (hb : Below w.heap.size w w') : PatsAt w' A n l := by
  obtain ⟨rows, h1, h2⟩ := h.ex
  exact ⟨h.len, rows, h1.ext hb, (h2.below hb (Nat.le_refl _)).more hb.size⟩
theorem PatsAt.at_ {w : World} {A : Option Addr} {n : Nat} {l : List PatV} (h : PatsAt w A n l) {k : Nat} (hk : k < n) : ∃ b o x r, A = some ⟨b, o, none⟩ ∧ b < w.heap.size ∧ l[k]? = some x ∧ PatAt w r x ∧ w.rangeAt b (o + k * 4) r := by
  obtain ⟨rows, h1, h2⟩ := h.ex
  have hk1 : k < l.length := by rw [h.len]; exact hk
  have hk2 : k < rows.length := by rw [h1.1]; exact hk1
  have e : rows.flatten = rows.flatMap id := by simp [List.flatMap_def]
  rw [e] at h2
  obtain ⟨b, o, rfl, hb, hr⟩ := h2.rowAt (by rw [h1.1, h.len]) (fun x hx => h1.len4 x hx) hk2
  exact ⟨b, o, l[k], rows[k], rfl, hb, List.getElem?_eq_getElem hk1, h1.2 k _ _ (List.getElem?_eq_getElem hk2) (List.getElem?_eq_getElem hk1), hr⟩
theorem pats_rows {w : World} : ∀ rows : List (List Value), (∀ r ∈ rows, Sh.oks w w.heap.size shPat r) → ∃ l, RowsP w rows l
  | [], _ => ⟨[], RowsP.nil w⟩
  | r :: rs, h => by
    obtain ⟨p, hp⟩ := pat_of (h r (by simp))
    obtain ⟨l, h1, h2⟩ := pats_rows rs fun x hx => h x (by simp [hx])
    refine ⟨p :: l, by simp [h1], fun k => ?_⟩
    match k with
    | 0 =>
      intro r' p' e1 e2
      obtain rfl : r = r' := by simpa using e1
      obtain rfl : p = p' := by simpa using e2
      exact hp
    | k + 1 => intro r' p' e1 e2; exact h2 k r' p' (by simpa using e1) (by simpa using e2)
theorem pats_of {w : World} {A : Option Addr} {n : Nat} {rows : List (List Value)} (hl : rows.length = n) (ho : ∀ r ∈ rows, Sh.oks w w.heap.size shPat r) (hs : Sl w w.heap.size 4 A n rows.flatten) : ∃ l : List PatV, PatsAt w A n l := by
  obtain ⟨l, hr⟩ := pats_rows rows ho
  exact ⟨l, by rw [← hr.1, hl], rows, hr, hs⟩

def fewOne (p : PatV) : Bool := fewP p && decide (p.2.2.length ≤ 60)
def fewsB (l : List PatV) (most : Int) : Bool := decide ((l.length : Int) ≤ most) && l.all fewOne
def fewsN (l : List PatV) (most : Int) : Int := if fewsB l most = true then 1 else 0
theorem fewsN_true {l : List PatV} {most : Int} (h : fewsB l most = true) : fewsN l most = 1 := by unfold fewsN; rw [if_pos h]
theorem fewsN_false {l : List PatV} {most : Int} (h : fewsB l most = false) : fewsN l most = 0 := by unfold fewsN; rw [if_neg (by simp [h])]
theorem allL_snoc {α : Type} {l : List α} {f : α → Bool} {k : Nat} {x : α} (h : l[k]? = some x) (hk : (l.take k).all f = true) (hx : f x = true) : (l.take (k + 1)).all f = true := by
  rw [take_snoc' h, List.all_append, hk]; simp [hx]
theorem allL_false {α : Type} {l : List α} {f : α → Bool} {k : Nat} {x : α} (h : l[k]? = some x) (hx : f x = false) : l.all f = false := by
  obtain ⟨h1, rfl⟩ := List.getElem?_eq_some_iff.1 h
  exact List.all_eq_false.2 ⟨_, List.getElem_mem h1, by simp [hx]⟩
set_option maxRecDepth 100000 in
set_option maxHeartbeats 4000000 in
theorem few20_any (l : List PatV) (w : World) (A : Option Addr) (n c : Nat) (most : Int) (h : PatsAt w A n l) (hm : n ≤ maxLen) :
    Calls Tryz.prog 11 #[.slice A n c, .int .i64 most] w (RetB w (.int .i64 (fewsN l most))) := by
  unfold maxLen at hm
  have H := Lib.hid h
  clear h
  go_enter Tryz.func11, Tryz.ntmps11
  by_cases d1 : most < (n : Int)
  · have F : Hid (fewsB l most = false) := by
      unfold fewsB
      rw [decide_eq_false (by rw [H.out.len]; omega)]; rfl
    go_wp2
    go_ret
    exact ⟨ret_int (fewsN_false F.out).symm, Below.refl _ _⟩
  · have F : Hid (l.all fewOne = fewsB l most) := by
      unfold fewsB
      rw [decide_eq_true (by rw [H.out.len]; omega)]; rfl
    go_wp2_with fail
    go_loopw [5] (fun i wr => ∃ k : Nat, k ≤ n ∧ i = .int .i64 k ∧ Hid ((l.take k).all fewOne = true) ∧ Hid (Below w.heap.size w wr)) (fun i _ => n - (intOf i).toNat)
    case atStart => exact ⟨0, by omega, rfl, by rw [List.take_zero]; rfl, Below.refl _ _⟩
    case round =>
      obtain ⟨k, hk, rfl, T, B⟩ := hrel
      have hk0 : (0 : Int) ≤ (k : Int) := by omega
      by_cases hlt : k < n
      · have hlk : (k : Int) < (n : Int) := by omega
        obtain ⟨b, o, x, r, rfl, hb, hx, pa, R⟩ := H.out.at_ hlt
        have PA := Lib.hid (pa.ext B.out)
        have R := Lib.hid (rangeAt_below R B.out hb)
        have hb' : b < wr.heap.size := Nat.lt_of_lt_of_le hb B.out.size
        have HF := Lib.hid (few18_any x wr r PA.out)
        obtain ⟨⟨A1, c1, A2, c2, rfl, _, _⟩, _, _⟩ := PA.out
        clear pa PA
        cases hf : fewP x
        · have N : Hid (l.all fewOne = false) := allL_false hx (by unfold fewOne; rw [hf]; rfl)
          rw [fewN_false hf] at HF
          clear T hx hf
          go_wp2_with (refine wpList_load_mid rfl 31 _ (by rfl) b (o + k * 4) (by rfl) _ _ R.out underPat rfl infoPat ?_)
          refine HF.out.mono ?_
          rintro e w3 ⟨rfl, b3⟩
          have B3 := Lib.hid (B.out.trans (b3.mono B.out.size))
          clear b3 HF R
          go_wp2
          go_ret
          exact ⟨ret_int (fewsN_false (F.out.symm.trans N.out)).symm, B3.out⟩
        · rw [fewN_true hf] at HF
          have t3 : ∀ u, Below wr.heap.size wr u → u.cell? ⟨b, o + k * 4 + 3, none⟩ = some (.slice A2 x.2.2.length c2) := fun u hu => rangeAt_below R.out hu hb' 3 _ rfl
          by_cases ht : x.2.2.length ≤ 60
          · have N := Lib.hid (allL_snoc hx T.out (show fewOne x = true by unfold fewOne; rw [hf, decide_eq_true ht]; rfl))
            have dt : ¬ (60 < (x.2.2.length : Int)) := by omega
            clear T hx hf
            go_wp2_with (refine wpList_load_mid rfl 31 _ (by rfl) b (o + k * 4) (by rfl) _ _ R.out underPat rfl infoPat ?_)
            refine HF.out.mono ?_
            rintro e w3 ⟨rfl, b3⟩
            have B3 := Lib.hid (B.out.trans (b3.mono B.out.size))
            have t3 := t3 w3 b3
            clear b3 HF R
            go_wp2_with fail
            go_roundw
            case rel => exact ⟨k + 1, by omega, by go_num, N.out, B3.out⟩
            case measure => simp [intOf]; omega
          · have N : Hid (l.all fewOne = false) := allL_false hx (by unfold fewOne; rw [hf, decide_eq_false ht]; rfl)
            have dt : 60 < (x.2.2.length : Int) := by omega
            clear T hx hf
            go_wp2_with (refine wpList_load_mid rfl 31 _ (by rfl) b (o + k * 4) (by rfl) _ _ R.out underPat rfl infoPat ?_)
            refine HF.out.mono ?_
            rintro e w3 ⟨rfl, b3⟩
            have B3 := Lib.hid (B.out.trans (b3.mono B.out.size))
            have t3 := t3 w3 b3
            clear b3 HF R
            go_wp2
            go_ret
            exact ⟨ret_int (fewsN_false (F.out.symm.trans N.out)).symm, B3.out⟩
      · have hlk : ¬ ((k : Int) < (n : Int)) := by omega
        rw [List.take_of_length_le (by rw [H.out.len]; omega)] at T
        go_wp2
        go_ret
        exact ⟨ret_int (fewsN_true (F.out.symm.trans T.out)).symm, B.out⟩
end Go.Proofs.YtihggkmjalofiaaGreatDoor

/- Lists of patches: two that are the same, walked. -/
namespace Go.Proofs.YtihggkmjalofiaaGreatDoor
open Go.RowKit

end Go.Proofs.YtihggkmjalofiaaGreatDoor

/- Lists of patches that are handed back. -/
namespace Go.Proofs.YtihggkmjalofiaaGreatDoor
open Go.RowKit

theorem patSl : SlT Tryz.prog 22 31 4 56 := slT_of (z := .agg #[.int .u8 0, .int .u16 0, .slice none 0 0, .slice none 0 0]) Tryz.underlying22 (by kernel_rfl) rfl (by omega)
theorem PatAt.one {w : World} {r : List Value} {p : PatV} (h : PatAt w r p) : ∀ u ∈ r, u.oneCell' = true := by
  obtain ⟨⟨A, c, A', c', rfl, _, _⟩, _, _⟩ := h
  intro u hu
  simp only [patC, List.mem_cons, List.not_mem_nil, or_false] at hu
  rcases hu with rfl | rfl | rfl | rfl <;> rfl
end Go.Proofs.YtihggkmjalofiaaGreatDoor
