/- Names read from texts: plain laws. -/
import Derived.Test.YtmfdggolnfoniaaDoorPidx
import Derived.Lib.ParseIntBCases
import Derived.Lib.ItoaMem
namespace Go.Proofs.YtmfdggolnfoniaaDoor
open Go.RowKit

def digB (c : UInt8) : Bool := decide (48 ≤ c.toNat) && decide (c.toNat ≤ 57)
theorem digB_iff {c : UInt8} : digB c = true ↔ 48 ≤ c.toNat ∧ c.toNat ≤ 57 := by simp [digB]
def valD (l : List UInt8) (a : Nat) : Nat := l.foldl (fun a c => a * 10 + (c.toNat - 48)) a
theorem valD_app (l m : List UInt8) (a : Nat) : valD (l ++ m) a = valD m (valD l a) := by unfold valD; rw [List.foldl_append]
theorem valD_cons (c : UInt8) (l : List UInt8) (a : Nat) : valD (c :: l) a = valD l (a * 10 + (c.toNat - 48)) := by unfold valD; rw [List.foldl_cons]
theorem valD_ge (l : List UInt8) : ∀ a : Nat, a ≤ valD l a := by
  induction l with
  | nil => exact fun _ => Nat.le_refl _
  | cons c l ih =>
    intro a
    rw [valD_cons]
    exact Nat.le_trans (Nat.le_trans (Nat.le_mul_of_pos_right a (by decide)) (Nat.le_add_right _ _)) (ih _)
theorem dig_of {u : Nat} (h : u < 10) : (UInt8.ofNat (48 + u)).toNat = 48 + u := by
  rw [UInt8.toNat_ofNat', Nat.mod_eq_of_lt (by omega)]
theorem dec_digs (u : Nat) : (Lib.decDigits u).all digB = true := by
  induction u using Nat.strongRecOn with
  | _ u ih =>
    rw [Lib.decDigits]
    split
    · rename_i h
      simp only [List.all_cons, List.all_nil, Bool.and_true]
      rw [digB_iff, dig_of h]; omega
    · rename_i h
      rw [List.all_append, ih (u / 10) (by omega)]
      simp only [List.all_cons, List.all_nil, Bool.and_true, Bool.true_and]
      rw [digB_iff, dig_of (by omega)]; omega
theorem dec_val (u : Nat) : valD (Lib.decDigits u) 0 = u := by
  induction u using Nat.strongRecOn with
  | _ u ih =>
    rw [Lib.decDigits]
    split
    · rename_i h
      rw [valD_cons, dig_of h]
      show 0 * 10 + (48 + u - 48) = u
      omega
    · rename_i h
      rw [valD_app, ih (u / 10) (by omega), valD_cons, dig_of (by omega)]
      show u / 10 * 10 + (48 + u % 10 - 48) = u
      omega
theorem dec_ne (u : Nat) : Lib.decDigits u ≠ [] := by
  rw [Lib.decDigits]
  split <;> simp
theorem itoa_dec (n : Nat) : Lib.itoa (n : Int) = Lib.decDigits n := Lib.itoa_nonneg n
theorem pu_ok (M : Nat) (hM : M ≤ 65535) : ∀ (l : List UInt8) (acc : Nat), l.all digB = true → valD l acc ≤ M → Lib.parseUintM M acc l = .ok (valD l acc)
  | [], _, _, _ => rfl
  | c :: l, acc, hd, hv => by
    simp only [List.all_cons, Bool.and_eq_true] at hd
    have hc := digB_iff.1 hd.1
    rw [valD_cons] at hv ⊢
    have h1 := valD_ge l (acc * 10 + (c.toNat - 48))
    unfold Lib.parseUintM
    rw [if_pos hc, if_neg (by omega), if_neg (by omega)]
    exact pu_ok M hM l _ hd.2 hv
theorem parse8 {n : Nat} (h : n ≤ 255) : Lib.parseUintB 8 (Lib.itoa (n : Int)) = .ok n := by
  rw [itoa_dec]
  unfold Lib.parseUintB
  rw [if_neg (dec_ne n), pu_ok (2 ^ 8 - 1) (by decide) _ 0 (dec_digs n) (by rw [dec_val]; exact h), dec_val]
theorem parse16 {n : Nat} (h : n ≤ 65535) : Lib.parseUintB 16 (Lib.itoa (n : Int)) = .ok n := by
  rw [itoa_dec]
  unfold Lib.parseUintB
  rw [if_neg (dec_ne n), pu_ok (2 ^ 16 - 1) (by decide) _ 0 (dec_digs n) (by rw [dec_val]; exact h), dec_val]
theorem dig_dot {l : List UInt8} (h : l.all digB = true) : ∀ c ∈ l, c ≠ 46 := fun c hc e => by
  have := digB_iff.1 (List.all_eq_true.1 h c hc)
  rw [e] at this
  exact absurd this.1 (by decide)
theorem split_dot : ∀ {a b x y : List UInt8}, (∀ c ∈ a, c ≠ 46) → (∀ c ∈ x, c ≠ 46) → a ++ 46 :: b = x ++ 46 :: y → a = x ∧ b = y
  | [], _, [], _, _, _, h => by simp at h; exact ⟨rfl, h⟩
  | [], _, c :: x, _, _, hx, h => by simp at h; exact absurd h.1.symm (hx c (by simp))
  | c :: a, _, [], _, ha, _, h => by simp at h; exact absurd h.1 (ha c (by simp))
  | c :: a, _, d :: x, _, ha, hx, h => by
    simp only [List.cons_append, List.cons.injEq] at h
    have := split_dot (fun e he => ha e (by simp [he])) (fun e he => hx e (by simp [he])) h.2
    rw [h.1, this.1]; exact ⟨rfl, this.2⟩
theorem itoa_dot (n : Nat) : ∀ c ∈ Lib.itoa (n : Int), c ≠ 46 := by rw [itoa_dec]; exact dig_dot (dec_digs n)
theorem itoa_inj {m n : Nat} (h : Lib.itoa (m : Int) = Lib.itoa (n : Int)) : m = n := by
  rw [itoa_dec, itoa_dec] at h
  have := congrArg (fun l => valD l 0) h
  simp only [dec_val] at this
  exact this
theorem pidText_inj {a s b t : Nat} (h : pidText a s = pidText b t) : a = b ∧ s = t := by
  unfold pidText at h
  obtain ⟨h1, h2⟩ := split_dot (itoa_dot a) (itoa_dot b) h
  exact ⟨itoa_inj h1, itoa_inj h2⟩
theorem index_dot : ∀ {a : List UInt8} (b : List UInt8), (∀ c ∈ a, c ≠ 46) → Lib.indexByte (a ++ 46 :: b) 46 = a.length
  | [], _, _ => rfl
  | c :: a, b, h => by
    have ih := index_dot (a := a) b (fun d hd => h d (List.mem_cons_of_mem _ hd))
    rw [List.cons_append]
    unfold Lib.indexByte
    rw [ih]
    have hc : (c == 46) = false := beq_eq_false_iff_ne.2 (h c (by simp))
    have hn : (((a.length : Nat) : Int) == -1) = false := beq_eq_false_iff_ne.2 (by omega)
    simp [hc, hn]
theorem index_bd (l : List UInt8) (c : UInt8) : -1 ≤ Lib.indexByte l c ∧ Lib.indexByte l c < l.length ∨ Lib.indexByte l c = -1 := by
  induction l with
  | nil => exact .inr rfl
  | cons d l ih =>
    unfold Lib.indexByte
    split
    · left; simp
    · split
      · exact .inr rfl
      · rename_i h1 h2
        left
        have h3 : Lib.indexByte l c ≠ -1 := by simpa using h2
        simp only [List.length_cons]
        omega
/-- a text's parts between its dots -/
def addH (p : List UInt8) : List (List UInt8) → List (List UInt8)
  | [] => [p]
  | x :: xs => (p ++ x) :: xs
def dotsL : List UInt8 → List (List UInt8)
  | [] => [[]]
  | c :: r => if c = 46 then [] :: dotsL r else addH [c] (dotsL r)
theorem dotsL_cons {c : UInt8} (h : c ≠ 46) (r : List UInt8) : dotsL (c :: r) = addH [c] (dotsL r) := if_neg h
theorem dotsL_ne (l : List UInt8) : dotsL l ≠ [] := by
  cases l with
  | nil => simp [dotsL]
  | cons c r =>
    unfold dotsL
    split
    · simp
    · cases dotsL r <;> simp [addH]
theorem addH_addH (p q : List UInt8) {d : List (List UInt8)} (h : d ≠ []) : addH p (addH q d) = addH (p ++ q) d := by
  cases d with
  | nil => exact absurd rfl h
  | cons x xs => simp [addH]
theorem addH_nil {d : List (List UInt8)} (h : d ≠ []) : addH [] d = d := by
  cases d with
  | nil => exact absurd rfl h
  | cons x xs => simp [addH]
theorem dotsL_free {l : List UInt8} (h : ∀ c ∈ l, c ≠ 46) : dotsL l = [l] := by
  induction l with
  | nil => rfl
  | cons c r ih =>
    unfold dotsL
    rw [if_neg (h c (by simp)), ih (fun d hd => h d (by simp [hd]))]
    rfl
theorem dotsL_dot {a : List UInt8} (b : List UInt8) (h : ∀ c ∈ a, c ≠ 46) : dotsL (a ++ 46 :: b) = a :: dotsL b := by
  induction a with
  | nil => simp [dotsL]
  | cons c r ih =>
    rw [List.cons_append, dotsL_cons (h c (by simp)), ih (fun d hd => h d (by simp [hd]))]
    rfl
theorem dotsL_join {l x y : List UInt8} (h : dotsL l = [x, y]) : l = x ++ 46 :: y := by
  induction l generalizing x y with
  | nil => simp [dotsL] at h
  | cons c r ih =>
    unfold dotsL at h
    split at h
    · rename_i hc
      simp only [List.cons.injEq] at h
      obtain ⟨rfl, h⟩ := h
      have h2 : r = y := by
        have key : ∀ (m : List UInt8) (z : List UInt8), dotsL m = [z] → m = z := by
          intro m
          induction m with
          | nil => intro z hz; simp [dotsL] at hz; exact hz.symm
          | cons e m ihm =>
            intro z hz
            unfold dotsL at hz
            split at hz
            · simp only [List.cons.injEq] at hz
              exact absurd hz.2 (dotsL_ne m)
            · cases hd : dotsL m with
              | nil => exact absurd hd (dotsL_ne m)
              | cons u us =>
                rw [hd] at hz
                simp only [addH, List.cons.injEq] at hz
                obtain ⟨h1, rfl⟩ := hz
                rw [ihm u hd, ← h1]; rfl
        exact key r y h
      rw [hc, h2]; rfl
    · cases hd : dotsL r with
      | nil => exact absurd hd (dotsL_ne r)
      | cons u us =>
        rw [hd] at h
        simp only [addH, List.cons.injEq] at h
        obtain ⟨h1, rfl⟩ := h
        rw [ih hd, ← h1]; rfl
theorem dotsL_pid (a s : Nat) : dotsL (pidText a s) = [Lib.itoa (a : Int), Lib.itoa (s : Int)] := by
  unfold pidText
  rw [dotsL_dot _ (itoa_dot a), dotsL_free (itoa_dot s)]
end Go.Proofs.YtmfdggolnfoniaaDoor
