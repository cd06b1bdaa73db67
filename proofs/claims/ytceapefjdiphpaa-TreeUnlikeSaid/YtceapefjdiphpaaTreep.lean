/- Trees: unlike trees without line feeds have unlike texts (a plain law). -/
import Derived.Test.YtceapefjdiphpaaTreeo
namespace Go.Proofs.Ytceapefjdiphpaa
open Go.RowKit

/-- a text's lines, read from its end -/
def stepB (c : UInt8) (l : List (List UInt8)) : List (List UInt8) := if c = 10 then [] :: l else match l with
  | [] => [[c]]
  | x :: xs => (c :: x) :: xs
theorem stepB_run (r : List UInt8) (l : List (List UInt8)) (h : r.all (fun c => c != 10) = true) : r.foldr stepB ([] :: l) = r :: l := by
  induction r with
  | nil => rfl
  | cons c r ih =>
    simp only [List.all_cons, Bool.and_eq_true, bne_iff_ne, ne_eq] at h
    rw [List.foldr_cons, ih h.2]
    unfold stepB
    rw [if_neg h.1]
def rowsText (rs : List (List UInt8)) : List UInt8 := rs.flatMap (fun r => r ++ [10])
theorem rowsText_read (rs : List (List UInt8)) (h : ∀ r ∈ rs, r.all (fun c => c != 10) = true) : (rowsText rs).foldr stepB [] = rs := by
  induction rs with
  | nil => rfl
  | cons r rs ih =>
    have e : rowsText (r :: rs) = r ++ ([10] ++ rowsText rs) := by unfold rowsText; simp
    rw [e, List.foldr_append, List.foldr_append, ih (fun x hx => h x (by simp [hx]))]
    show r.foldr stepB (stepB 10 rs) = _
    unfold stepB
    exact stepB_run r rs (h r (by simp))
/-- a tree's rows -/
def recF (f : FileV) : List (List UInt8) := (61 :: 32 :: bsT f.name) :: (f.also.map (fun s => 124 :: 32 :: bsT s) ++ f.lines.map (fun s => 58 :: bsT s))
def recT (fs : List FileV) : List (List UInt8) := fs.flatMap recF
theorem putT_rows (ah : ByteArray) (l : List ByteArray) : putT ah l = rowsText (l.map (fun s => bsT ah ++ bsT s)) := by
  unfold putT rowsText oneT
  rw [List.flatMap_map]
  simp [List.append_assoc]
theorem rowsText_app (a b : List (List UInt8)) : rowsText (a ++ b) = rowsText a ++ rowsText b := by unfold rowsText; rw [List.flatMap_append]
theorem fileT_rows (f : FileV) : fileT f = rowsText (recF f) := by
  unfold fileT recF
  rw [putT_rows, putT_rows, putT_rows, ← rowsText_app, ← rowsText_app]
  rfl
theorem textT_rows (fs : List FileV) : textT fs = rowsText (recT fs) := by
  unfold textT recT
  induction fs with
  | nil => rfl
  | cons f fs ih => rw [List.flatMap_cons, List.flatMap_cons, ih, rowsText_app, fileT_rows]
theorem recT_plain (fs : List FileV) (h : plT fs = true) : ∀ r ∈ recT fs, r.all (fun c => c != 10) = true := by
  intro r hr
  unfold recT at hr
  obtain ⟨f, hf, hr⟩ := List.mem_flatMap.1 hr
  unfold plT at h
  have hp := List.all_eq_true.1 h f hf
  unfold plF at hp
  simp only [Bool.and_eq_true] at hp
  obtain ⟨h1, h2, h3⟩ := hp
  unfold recF at hr
  simp only [List.mem_cons, List.mem_append, List.mem_map] at hr
  rcases hr with rfl | ⟨s, hs, rfl⟩ | ⟨s, hs, rfl⟩
  · unfold plS at h1; simp only [List.all_cons, h1]; rfl
  · have := List.all_eq_true.1 h2 s hs; unfold plS at this; simp only [List.all_cons, this]; rfl
  · have := List.all_eq_true.1 h3 s hs; unfold plS at this; simp only [List.all_cons, this]; rfl
abbrev PlainR := List (List UInt8) × List (List UInt8) × List (List UInt8 × List (List UInt8) × List (List UInt8))
/-- rows, read from the end -/
def stepR (r : List UInt8) (z : PlainR) : PlainR := match r with
  | 61 :: 32 :: n => ([], [], (n, z.1, z.2.1) :: z.2.2)
  | 124 :: 32 :: s => (s :: z.1, z.2.1, z.2.2)
  | 58 :: s => (z.1, s :: z.2.1, z.2.2)
  | _ => z
theorem stepR_also (l : List ByteArray) (z : PlainR) : (l.map (fun s => (124 : UInt8) :: 32 :: bsT s)).foldr stepR z = (l.map bsT ++ z.1, z.2.1, z.2.2) := by
  induction l with
  | nil => rfl
  | cons s l ih => rw [List.map_cons, List.foldr_cons, ih]; rfl
theorem stepR_lines (l : List ByteArray) (z : PlainR) : (l.map (fun s => (58 : UInt8) :: bsT s)).foldr stepR z = (z.1, l.map bsT ++ z.2.1, z.2.2) := by
  induction l with
  | nil => rfl
  | cons s l ih => rw [List.map_cons, List.foldr_cons, ih]; rfl
def plainR (f : FileV) : List UInt8 × List (List UInt8) × List (List UInt8) := (bsT f.name, f.also.map bsT, f.lines.map bsT)
theorem recT_read (fs : List FileV) : (recT fs).foldr stepR ([], [], []) = ([], [], fs.map plainR) := by
  unfold recT
  induction fs with
  | nil => rfl
  | cons f fs ih =>
    rw [List.flatMap_cons, List.foldr_append, ih]
    unfold recF
    rw [List.foldr_cons, List.foldr_append, stepR_lines, stepR_also]
    simp only [List.append_nil]
    rfl
theorem bsT_inj {a b : ByteArray} (h : bsT a = bsT b) : a = b := (bsT_mk h).trans (bsT_mk rfl).symm
theorem map_inj' {α β : Type} {f : α → β} (hf : ∀ a b, f a = f b → a = b) : ∀ {l m : List α}, l.map f = m.map f → l = m
  | [], [], _ => rfl
  | [], _ :: _, h => by simp at h
  | _ :: _, [], h => by simp at h
  | a :: l, b :: m, h => by
    simp only [List.map_cons, List.cons.injEq] at h
    rw [hf _ _ h.1, map_inj' hf h.2]
theorem plainF_of {fs gs : List FileV} (h : fs.map plainR = gs.map plainR) : fs.map plainF = gs.map plainF := by
  have e : ∀ l : List FileV, l.map plainR = (l.map plainF).map (fun p => (bsT p.1, p.2.1.map bsT, p.2.2.map bsT)) := fun l => by rw [List.map_map]; rfl
  rw [e, e] at h
  refine map_inj' (fun a b hab => ?_) h
  obtain ⟨a1, a2, a3⟩ := a
  obtain ⟨b1, b2, b3⟩ := b
  simp only [Prod.mk.injEq] at hab
  rw [bsT_inj hab.1, map_inj' (fun _ _ => bsT_inj) hab.2.1, map_inj' (fun _ _ => bsT_inj) hab.2.2]
theorem textT_inj {fs gs : List FileV} (hf : plT fs = true) (hg : plT gs = true) (h : textT fs = textT gs) : fs.map plainF = gs.map plainF := by
  refine plainF_of ?_
  rw [textT_rows, textT_rows] at h
  have h2 : recT fs = recT gs := by rw [← rowsText_read _ (recT_plain fs hf), ← rowsText_read _ (recT_plain gs hg), h]
  have h3 := recT_read fs
  rw [h2, recT_read gs] at h3
  injection h3 with _ h4
  injection h4 with _ h5
  exact h5.symm
theorem textT_same {fs gs : List FileV} (h : fs.map plainF = gs.map plainF) : textT fs = textT gs := by
  have e : ∀ l : List FileV, textT l = (l.map plainF).flatMap (fun p => putT ah0 [p.1] ++ (putT ah1 p.2.1 ++ putT ah2 p.2.2)) := fun l => by
    rw [List.flatMap_map]; rfl
  rw [e, e, h]
theorem sameT_symm (fs gs : List FileV) : sameT fs gs = sameT gs fs := decide_eq_decide.2 ⟨Eq.symm, Eq.symm⟩
theorem text_ne {fs gs : List FileV} (h : textT fs ≠ textT gs) : (⟨(textT fs).toArray⟩ : ByteArray) ≠ ⟨(textT gs).toArray⟩ := fun e => h (by
  have := congrArg bsT e
  simpa [bsT] using this)
end Go.Proofs.Ytceapefjdiphpaa
