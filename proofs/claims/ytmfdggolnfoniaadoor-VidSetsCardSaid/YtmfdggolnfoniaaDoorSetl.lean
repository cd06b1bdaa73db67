/- Sets by a number each: plain laws. No program in sight. -/
import Derived.Test.YtmfdggolnfoniaaDoorBase
import Derived.Sort.Statements
namespace Go.Proofs.YtmfdggolnfoniaaDoor

section
variable {α : Type} (key : α → Int)
def insK (x : α) : List α → List α
  | [] => [x]
  | y :: ys => if key x < key y then x :: y :: ys else if key x = key y then y :: ys else y :: insK x ys
def setK (l : List α) : List α := l.foldl (fun out x => insK key x out) []
def RiseK (l : List α) : Prop := l.Pairwise fun a b => key a < key b
/-- one round of the document's inner loop -/
def stepK (x : α) (s : List α × Bool) (y : α) : List α × Bool := (if !s.2 && decide (key x < key y) then s.1 ++ [x, y] else s.1 ++ [y], s.2 || decide (key x < key y) || decide (key x = key y))
def endK (x : α) (s : List α × Bool) : List α := if s.2 then s.1 else s.1 ++ [x]
variable {key}
theorem stepK_true (x : α) (ys : List α) (acc : List α) : ys.foldl (stepK key x) (acc, true) = (acc ++ ys, true) := by
  induction ys generalizing acc with
  | nil => simp
  | cons y ys ih =>
    rw [List.foldl_cons]
    have e : stepK key x (acc, true) y = (acc ++ [y], true) := by simp [stepK]
    rw [e, ih]; simp
theorem endK_foldl (x : α) (ys : List α) (acc : List α) : endK x (ys.foldl (stepK key x) (acc, false)) = acc ++ insK key x ys := by
  induction ys generalizing acc with
  | nil => simp [endK, insK]
  | cons y ys ih =>
    rw [List.foldl_cons]
    by_cases h1 : key x < key y
    · have e : stepK key x (acc, false) y = (acc ++ [x, y], true) := by simp [stepK, h1]
      rw [e, stepK_true]
      simp [endK, insK, h1]
    · by_cases h2 : key x = key y
      · have e : stepK key x (acc, false) y = (acc ++ [y], true) := by simp [stepK, h2]
        rw [e, stepK_true]
        simp [endK, insK, h2]
      · have e : stepK key x (acc, false) y = (acc ++ [y], false) := by simp [stepK, h1, h2]
        rw [e, ih]
        simp [insK, h1, h2]
theorem stepK_len (x : α) (ys : List α) : ∀ s : List α × Bool, (ys.foldl (stepK key x) s).1.length ≤ s.1.length + ys.length + (if s.2 then 0 else 1) ∧ s.1.length ≤ (ys.foldl (stepK key x) s).1.length := by
  induction ys with
  | nil => intro s; simp
  | cons y ys ih =>
    intro s
    rw [List.foldl_cons]
    have h := ih (stepK key x s y)
    have h1 : (stepK key x s y).1.length + (if (stepK key x s y).2 then 0 else 1) ≤ s.1.length + 1 + (if s.2 then 0 else 1) ∧ s.1.length ≤ (stepK key x s y).1.length := by
      unfold stepK
      obtain ⟨l, b⟩ := s
      cases b
      · by_cases h1 : key x < key y
        · simp [h1]
        · by_cases h2 : key x = key y <;> simp [h1, h2]
      · simp
    simp only [List.length_cons]
    omega
theorem insK_len (x : α) (l : List α) : (insK key x l).length ≤ l.length + 1 := by
  induction l with
  | nil => simp [insK]
  | cons y ys ih =>
    unfold insK
    split
    · simp
    · split
      · simp
      · simp only [List.length_cons]; omega
variable (inj : ∀ x y : α, key x = key y → x = y)
include inj
theorem insK_mem (x : α) (l : List α) (z : α) : z ∈ insK key x l ↔ z = x ∨ z ∈ l := by
  induction l with
  | nil => simp [insK]
  | cons y ys ih =>
    unfold insK
    split
    · simp
    · split
      · rename_i h1 h2
        have := inj _ _ h2
        subst this
        simp only [List.mem_cons]
        exact ⟨fun h => .inr h, fun h => h.elim (fun e => .inl e) id⟩
      · simp only [List.mem_cons, ih]
        exact ⟨fun h => h.elim (fun e => .inr (.inl e)) (fun h => h.elim .inl (fun h => .inr (.inr h))), fun h => h.elim (fun e => .inr (.inl e)) (fun h => h.elim .inl (fun h => .inr (.inr h)))⟩
theorem insK_rise (x : α) (l : List α) (h : RiseK key l) : RiseK key (insK key x l) := by
  induction l with
  | nil => simp [insK, RiseK]
  | cons y ys ih =>
    have hy := List.pairwise_cons.1 h
    unfold insK
    split
    · rename_i h1
      refine List.pairwise_cons.2 ⟨fun z hz => ?_, h⟩
      rcases List.mem_cons.1 hz with rfl | hz
      · exact h1
      · have := hy.1 z hz; omega
    · split
      · exact h
      · rename_i h1 h2
        refine List.pairwise_cons.2 ⟨fun z hz => ?_, ih hy.2⟩
        rcases (insK_mem inj x ys z).1 hz with rfl | hz
        · omega
        · exact hy.1 z hz
theorem setK_go (l : List α) : ∀ out : List α, RiseK key out → RiseK key (l.foldl (fun out x => insK key x out) out) ∧ ∀ z, z ∈ l.foldl (fun out x => insK key x out) out ↔ z ∈ out ∨ z ∈ l := by
  induction l with
  | nil => intro out h; exact ⟨h, fun z => by simp⟩
  | cons x l ih =>
    intro out h
    rw [List.foldl_cons]
    obtain ⟨h1, h2⟩ := ih _ (insK_rise inj x out h)
    refine ⟨h1, fun z => ?_⟩
    rw [h2, insK_mem inj, List.mem_cons]
    exact ⟨fun h => h.elim (fun h => h.elim (fun e => .inr (.inl e)) .inl) (fun h => .inr (.inr h)), fun h => h.elim (fun h => .inl (.inr h)) (fun h => h.elim (fun e => .inl (.inl e)) .inr)⟩
theorem setK_rise (l : List α) : RiseK key (setK key l) := (setK_go inj l [] List.Pairwise.nil).1
theorem setK_mem (l : List α) (z : α) : z ∈ setK key l ↔ z ∈ l := by
  rw [setK, (setK_go inj l [] List.Pairwise.nil).2]; simp
omit inj in
theorem rise_snoc {l : List α} {k : Nat} {x y : α} (h0 : 0 < k) (h : RiseK key (l.take k)) (hx : l[k - 1]? = some x) (hy : l[k]? = some y) (hl : key x < key y) : RiseK key (l.take (k + 1)) := by
  obtain ⟨hk, rfl⟩ := List.getElem?_eq_some_iff.1 hy
  obtain ⟨hk1, rfl⟩ := List.getElem?_eq_some_iff.1 hx
  rw [List.take_succ_eq_append_getElem hk]
  refine List.pairwise_append.2 ⟨h, by simp, fun a ha b hb => ?_⟩
  obtain rfl := List.mem_singleton.1 hb
  obtain ⟨i, hi, rfl⟩ := List.getElem_of_mem ha
  have hi2 : i < k := by rw [List.length_take] at hi; omega
  rw [List.getElem_take]
  rcases Nat.lt_or_ge i (k - 1) with h1 | h1
  · have := List.pairwise_iff_getElem.1 h i (k - 1) (by rw [List.length_take]; omega) (by rw [List.length_take]; omega) h1
    rw [List.getElem_take, List.getElem_take] at this
    omega
  · obtain rfl : i = k - 1 := by omega
    exact hl
omit inj in
theorem rise_adj {l : List α} (h : RiseK key l) {k : Nat} {x y : α} (h0 : 0 < k) (hx : l[k - 1]? = some x) (hy : l[k]? = some y) : key x < key y := by
  obtain ⟨hk, rfl⟩ := List.getElem?_eq_some_iff.1 hy
  obtain ⟨hk1, rfl⟩ := List.getElem?_eq_some_iff.1 hx
  exact List.pairwise_iff_getElem.1 h _ _ _ _ (by omega)
omit inj in
theorem setK_len (l : List α) : (setK key l).length ≤ l.length := by
  have go : ∀ (l out : List α), (l.foldl (fun out x => insK key x out) out).length ≤ out.length + l.length := by
    intro l
    induction l with
    | nil => intro out; simp
    | cons x l ih =>
      intro out
      rw [List.foldl_cons]
      have h1 := ih (insK key x out)
      have h2 := insK_len (key := key) x out
      simp only [List.length_cons]; omega
  have := go l []
  simpa [setK] using this
omit inj in
theorem rise_eq : ∀ {a b : List α}, RiseK key a → RiseK key b → (∀ z, z ∈ a ↔ z ∈ b) → a = b
  | [], [], _, _, _ => rfl
  | [], y :: b, _, _, h => absurd ((h y).2 (by simp)) (by simp)
  | x :: a, [], _, _, h => absurd ((h x).1 (by simp)) (by simp)
  | x :: a, y :: b, ha, hb, h => by
    have h1 := List.pairwise_cons.1 ha
    have h2 := List.pairwise_cons.1 hb
    have e : x = y := by
      rcases List.mem_cons.1 ((h x).1 (by simp)) with e | hx
      · exact e
      · rcases List.mem_cons.1 ((h y).2 (by simp)) with e | hy
        · exact e.symm
        · have := h1.1 y hy
          have := h2.1 x hx
          omega
    subst e
    have hx1 : x ∉ a := fun hx => by have := h1.1 x hx; omega
    have hx2 : x ∉ b := fun hx => by have := h2.1 x hx; omega
    rw [rise_eq h1.2 h2.2 (fun z => ?_)]
    have := h z
    rw [List.mem_cons, List.mem_cons] at this
    constructor
    · intro hz
      rcases this.1 (.inr hz) with e | hz'
      · subst e; exact absurd hz hx1
      · exact hz'
    · intro hz
      rcases this.2 (.inr hz) with e | hz'
      · subst e; exact absurd hz hx2
      · exact hz'
theorem setK_of_rise {l : List α} (h : RiseK key l) : setK key l = l := rise_eq (setK_rise inj l) h (setK_mem inj l)
theorem setK_idem (l : List α) : setK key (setK key l) = setK key l := setK_of_rise inj (setK_rise inj l)
theorem setK_congr {l m : List α} (h : ∀ z, z ∈ l ↔ z ∈ m) : setK key l = setK key m := rise_eq (setK_rise inj l) (setK_rise inj m) (fun z => by rw [setK_mem inj, setK_mem inj, h])
/-- each once, of a list in which equals stand side by side -/
def onceK [DecidableEq α] : List α → List α
  | [] => []
  | [x] => [x]
  | x :: y :: r => if x = y then onceK (y :: r) else x :: onceK (y :: r)
omit inj in
theorem onceK_mem [DecidableEq α] : ∀ (l : List α) (z : α), z ∈ onceK l ↔ z ∈ l
  | [], z => by simp [onceK]
  | [x], z => by simp [onceK]
  | x :: y :: r, z => by
    unfold onceK
    have ih := onceK_mem (y :: r) z
    split
    · rename_i e
      subst e
      rw [ih]; simp
    · rw [List.mem_cons, ih, List.mem_cons (b := x)]
theorem onceK_rise [DecidableEq α] : ∀ (l : List α), (l.Pairwise fun a b => key a ≤ key b) → RiseK key (onceK l)
  | [], _ => List.Pairwise.nil
  | [x], _ => by simp [onceK, RiseK]
  | x :: y :: r, h => by
    have h1 := List.pairwise_cons.1 h
    have ih := onceK_rise (y :: r) h1.2
    unfold onceK
    split
    · exact ih
    · rename_i ne
      refine List.pairwise_cons.2 ⟨fun z hz => ?_, ih⟩
      have hz' := (onceK_mem (y :: r) z).1 hz
      have hy := h1.1 y (by simp)
      have hxy : key x ≠ key y := fun e => ne (inj _ _ e)
      rcases List.mem_cons.1 hz' with rfl | hr
      · omega
      · have := (List.pairwise_cons.1 h1.2).1 z hr
        omega
theorem onceK_set [DecidableEq α] {l m : List α} (hp : l.Perm m) (hs : m.Pairwise fun a b => key a ≤ key b) : onceK m = setK key l :=
  rise_eq (onceK_rise inj m hs) (setK_rise inj l) (fun z => by rw [onceK_mem, setK_mem inj]; exact hp.mem_iff.symm)
end
end Go.Proofs.YtmfdggolnfoniaaDoor
