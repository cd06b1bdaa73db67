/- A message's bytes, and the message that bytes tell: plain law; no program in sight. -/
import Derived.Test.YtdafiipedlglpaaGreatDoorPcds
import Derived.Test.YtdafiipedlglpaaGreatDoorCrcp
import Derived.Test.YtdafiipedlglpaaGreatDoorVecs
import Derived.Test.YtdafiipedlglpaaGreatDoorHints
namespace Go.Proofs.YtdafiipedlglpaaGreatDoor

/-- a message -/
abbrev MsgV := (Fin 256 × Fin 256 × Fin 256) × List Int × List Nat × List PatV
def zeroM : MsgV := ((0, 0, 0), vec0, zeroBl, [])
structure MsgOk (m : MsgV) : Prop where
  vec : VecOk m.2.1
  bl : BlOk m.2.2.1
def vgoodV (v : List Int) : Bool := v.all fun n => decide (n ≤ 60000)
def nodeN (n : Nat) : Bool := decide (1 ≤ n ∧ n ≤ 64)
/-- whether a message may be -/
def goodM (m : MsgV) : Bool :=
  nodeN m.1.2.1.val && (nodeN m.1.2.2.val && (decide (m.1.2.1 ≠ m.1.2.2) && (vgoodV m.2.1 && (
    if m.1.1.val = 1 then decide (m.2.2.2.length = 0)
    else decide (m.1.1.val = 2) && ((m.2.2.2.all patB) && (decide (m.2.2.1 = zeroBl) && decide (m.2.2.2.length ≤ 8)))))))
/-- the numbers that a vector has -/
def pairAt (v : List Int) (i : Nat) : Option (Nat × Nat) := if 0 < v.getD i 0 then some (i + 1, (v.getD i 0).toNat) else none
def pairsTo (v : List Int) (k : Nat) : List (Nat × Nat) := (List.range k).filterMap (pairAt v)
theorem pairsTo_zero (v : List Int) : pairsTo v 0 = [] := rfl
theorem pairsTo_succ (v : List Int) (k : Nat) : pairsTo v (k + 1) = pairsTo v k ++ (pairAt v k).toList := by
  unfold pairsTo
  rw [List.range_succ, List.filterMap_append]
  cases h : pairAt v k <;> simp [h]
theorem pairsTo_yes {v : List Int} {k : Nat} (h : 0 < v.getD k 0) : pairsTo v (k + 1) = pairsTo v k ++ [(k + 1, (v.getD k 0).toNat)] := by
  rw [pairsTo_succ]; unfold pairAt; rw [if_pos h]; rfl
theorem pairsTo_no {v : List Int} {k : Nat} (h : ¬ 0 < v.getD k 0) : pairsTo v (k + 1) = pairsTo v k := by
  rw [pairsTo_succ]; unfold pairAt; rw [if_neg h]; simp
theorem pairsTo_len (v : List Int) : ∀ k, (pairsTo v k).length ≤ k
  | 0 => Nat.le_refl _
  | k + 1 => by
    have := pairsTo_len v k
    by_cases h : 0 < v.getD k 0
    · rw [pairsTo_yes h, List.length_append]; simp; omega
    · rw [pairsTo_no h]; omega
theorem pairsTo_congr {v u : List Int} : ∀ k, (∀ i, i < k → v.getD i 0 = u.getD i 0) → pairsTo v k = pairsTo u k
  | 0, _ => rfl
  | k + 1, h => by
    rw [pairsTo_succ, pairsTo_succ, pairsTo_congr k fun i hi => h i (by omega)]
    unfold pairAt
    rw [h k (by omega)]
theorem pairsTo_zeros {v : List Int} {j : Nat} (h : ∀ i, j ≤ i → v.getD i 0 = 0) : ∀ d, pairsTo v (j + d) = pairsTo v j
  | 0 => rfl
  | d + 1 => by
    rw [← Nat.add_assoc, pairsTo_no (by rw [h _ (by omega)]; omega)]
    exact pairsTo_zeros h d
def pairB (p : Nat × Nat) : List UInt8 := UInt8.ofNat p.1 :: vbytes p.2
def vecB (v : List Int) : List UInt8 := vbytes (pairsTo v 64).length ++ (pairsTo v 64).flatMap pairB
def patText (p : PatV) : List UInt8 := vbytes (patBytes p).length ++ patBytes p
def tailB (m : MsgV) : List UInt8 := if m.1.1.val = 1 then m.2.2.1.flatMap vbytes else vbytes m.2.2.2.length ++ m.2.2.2.flatMap patText
/-- a message's bytes without their sum -/
def plainM (m : MsgV) : List UInt8 := [UInt8.ofNat m.1.1.val, UInt8.ofNat m.1.2.1.val, UInt8.ofNat m.1.2.2.val] ++ (vecB m.2.1 ++ tailB m)
/-- bytes with their sum -/
def toB8 (l : List UInt8) : List B8 := l.map (·.toBitVec)
def fourU (s : B32) : List UInt8 := (fourB s).map fun x => UInt8.ofBitVec x
def sealB (l : List UInt8) : List UInt8 := l ++ fourU (sumC (toB8 l))
def openB (l : List UInt8) : List UInt8 × Nat :=
  if l.length < 4 then ([], 2) else if l.drop (l.length - 4) = fourU (sumC (toB8 (l.take (l.length - 4)))) then (l.take (l.length - 4), 0) else ([], 5)
theorem fourU_len (s : B32) : (fourU s).length = 4 := rfl
theorem sealB_len (l : List UInt8) : (sealB l).length = l.length + 4 := by unfold sealB; rw [List.length_append, fourU_len]
theorem open_seal (l : List UInt8) : openB (sealB l) = (l, 0) := by
  have h1 : (sealB l).length - 4 = l.length := by rw [sealB_len]; omega
  unfold openB
  rw [if_neg (by rw [sealB_len]; omega), h1]
  unfold sealB
  rw [List.drop_left, List.take_left, if_pos rfl]
theorem seal_open {l b : List UInt8} (h : openB l = (b, 0)) : l = sealB b := by
  unfold openB at h
  split at h
  · simp at h
  · split at h
    · rename_i h1 h2
      simp only [Prod.mk.injEq, and_true] at h
      rw [← h]
      unfold sealB
      rw [← h2, List.take_append_drop]
    · simp at h
/-- reading -/
def pairRd : Rd (Nat × Nat) := bindR (rByte 64) fun a => bindR (rNum 60000) fun k => pureR (a, k)
def pairsRd : Nat → Rd (List (Nat × Nat))
  | 0 => pureR []
  | n + 1 => fun l e => if e ≠ 0 then ([], l, e) else bindR pairRd (fun p => bindR (pairsRd n) fun ps => pureR (p :: ps)) l e
def numsRd : Nat → Rd (List Nat)
  | 0 => pureR []
  | n + 1 => bindR (rNum 18446744073709551615) fun x => bindR (numsRd n) fun xs => pureR (x :: xs)
def patRd : Rd PatV := fun l e => if (rText 65536 l e).2.2 ≠ 0 then (zeroPat, (rText 65536 l e).2.1, (rText 65536 l e).2.2) else ((decP (rText 65536 l e).1).1, (rText 65536 l e).2.1, (decP (rText 65536 l e).1).2)
def patsRd : Nat → Rd (List PatV)
  | 0 => pureR []
  | n + 1 => fun l e => if e ≠ 0 then ([], l, e) else bindR patRd (fun p => bindR (patsRd n) fun ps => pureR (p :: ps)) l e
def restRd (k : Nat) : Rd (List Nat × List PatV) :=
  if k = 1 then bindR (numsRd 4) fun b => pureR (b, [])
  else if k = 2 then bindR (rNum 8) fun n => bindR (patsRd n) fun ps => pureR (zeroBl, ps)
  else pureR (zeroBl, [])
abbrev RawM := (Nat × Nat × Nat) × List (Nat × Nat) × List Nat × List PatV
def msgRd : Rd RawM := bindR (rByte 2) fun k => bindR (rByte 64) fun f => bindR (rByte 64) fun t => bindR (rNum 64) fun n => bindR (pairsRd n) fun ps => bindR (restRd k) fun r => pureR ((k, f, t), ps, r)
/-- the numbers are put in, as long as they rise -/
structure VSt where
  v : List Int
  last : Nat
  fine : Bool
def stepP (s : VSt) (p : Nat × Nat) : VSt := if p.1 ≤ s.last ∨ p.2 = 0 then ⟨s.v, s.last, false⟩ else ⟨s.v.set (p.1 - 1) (p.2 : Int), p.1, s.fine⟩
def foldP (ps : List (Nat × Nat)) : VSt := ps.foldl stepP ⟨vec0, 0, true⟩
def stepRf (s : VSt) (p : Nat × Nat) : VSt := ⟨if 0 < p.1 then s.v.set (p.1 - 1) (p.2 : Int) else s.v, p.1, if p.1 ≤ s.last ∨ p.2 = 0 then false else s.fine⟩
def foldR (ps : List (Nat × Nat)) : VSt := ps.foldl stepRf ⟨vec0, 0, true⟩
theorem foldP_snoc (ps : List (Nat × Nat)) (p : Nat × Nat) : foldP (ps ++ [p]) = stepP (foldP ps) p := by unfold foldP; rw [List.foldl_append]; rfl
theorem foldR_snoc (ps : List (Nat × Nat)) (p : Nat × Nat) : foldR (ps ++ [p]) = stepRf (foldR ps) p := by unfold foldR; rw [List.foldl_append]; rfl
theorem list_snoc_ind {α : Type} {P : List α → Prop} (h0 : P []) (h1 : ∀ l x, P l → P (l ++ [x])) (l : List α) : P l := by
  have : ∀ n (l : List α), l.length = n → P l := by
    intro n
    induction n with
    | zero => intro l h; rw [List.eq_nil_of_length_eq_zero h]; exact h0
    | succ n ih =>
      intro l h
      have hne : l ≠ [] := by intro e; rw [e] at h; cases h
      rw [← List.dropLast_concat_getLast hne]
      exact h1 _ _ (ih _ (by rw [List.length_dropLast]; omega))
  exact this _ l rfl
theorem fold_same (ps : List (Nat × Nat)) : (foldP ps).fine = (foldR ps).fine ∧ ((foldP ps).fine = true → (foldP ps).v = (foldR ps).v ∧ (foldP ps).last = (foldR ps).last) := by
  induction ps using list_snoc_ind with
  | h0 => exact ⟨rfl, fun _ => ⟨rfl, rfl⟩⟩
  | h1 l p ih =>
    obtain ⟨h1, h2⟩ := ih
    rw [foldP_snoc, foldR_snoc]
    unfold stepP stepRf
    cases hf : (foldP l).fine
    · rw [hf] at h1
      rw [← h1]
      by_cases h : p.1 ≤ (foldP l).last ∨ p.2 = 0
      · rw [if_pos h]; exact ⟨by simp, fun h => by cases h⟩
      · rw [if_neg h]; exact ⟨by simp, fun h => by cases h⟩
    · obtain ⟨e1, e2⟩ := h2 hf
      rw [hf] at h1
      rw [← h1, ← e1, ← e2]
      by_cases h : p.1 ≤ (foldP l).last ∨ p.2 = 0
      · rw [if_pos h]; exact ⟨by simp [h], fun h => by cases h⟩
      · rw [if_neg h]; exact ⟨by simp [h], fun _ => ⟨by rw [if_pos (by omega)], rfl⟩⟩
theorem vec0_get (i : Nat) : vec0.getD i 0 = 0 := by
  unfold vec0
  rw [List.getD_eq_getElem?_getD, List.getElem?_replicate]
  split <;> rfl
theorem getD_setI {v : List Int} {i j : Nat} {x : Int} (h : i < v.length) : (v.set i x).getD j 0 = if i = j then x else v.getD j 0 := by
  rw [List.getD_eq_getElem?_getD, List.getD_eq_getElem?_getD, List.getElem?_set]
  by_cases e : i = j
  · subst e; rw [if_pos rfl, if_pos rfl, if_pos h]; rfl
  · rw [if_neg e, if_neg e]
/-- numbers as they are read -/
def PairsOk (ps : List (Nat × Nat)) : Prop := ∀ p ∈ ps, p.1 ≤ 64 ∧ p.2 ≤ 60000
theorem foldP_told (ps : List (Nat × Nat)) (hp : PairsOk ps) : VecOk (foldP ps).v ∧ (foldP ps).last ≤ 64 ∧ (∀ i, (foldP ps).last ≤ i → (foldP ps).v.getD i 0 = 0) ∧ vgoodV (foldP ps).v = true ∧ ((foldP ps).fine = true → pairsTo (foldP ps).v (foldP ps).last = ps) := by
  induction ps using list_snoc_ind with
  | h0 =>
    refine ⟨⟨by rfl, fun n hn => ?_⟩, Nat.zero_le _, fun i _ => vec0_get i, by decide, fun _ => rfl⟩
    have := List.eq_of_mem_replicate hn
    omega
  | h1 l p ih =>
    obtain ⟨h1, h2, h3, h4, h5⟩ := ih fun q hq => hp q (List.mem_append_left _ hq)
    obtain ⟨p1, p2⟩ := hp p (by simp)
    rw [foldP_snoc]
    unfold stepP
    by_cases h : p.1 ≤ (foldP l).last ∨ p.2 = 0
    · rw [if_pos h]
      exact ⟨h1, h2, h3, h4, fun h => by cases h⟩
    · rw [if_neg h]
      have hi : p.1 - 1 < (foldP l).v.length := by rw [h1.len]; omega
      refine ⟨⟨by rw [List.length_set]; exact h1.len, fun n hn => ?_⟩, p1, fun i hi2 => ?_, ?_, fun hf => ?_⟩
      · rcases List.mem_or_eq_of_mem_set hn with h6 | h6
        · exact h1.bd n h6
        · omega
      · show ((foldP l).v.set (p.1 - 1) (p.2 : Int)).getD i 0 = 0
        have hi2 : p.1 ≤ i := hi2
        rw [getD_setI hi, if_neg (by omega)]
        exact h3 i (by omega)
      · unfold vgoodV at h4 ⊢
        rw [List.all_eq_true] at h4 ⊢
        intro n hn
        rcases List.mem_or_eq_of_mem_set hn with h6 | h6
        · exact h4 n h6
        · rw [h6, decide_eq_true_eq]; omega
      · show pairsTo ((foldP l).v.set (p.1 - 1) (p.2 : Int)) p.1 = l ++ [p]
        have e1 : p.1 = (p.1 - 1) + 1 := by omega
        have g : ((foldP l).v.set (p.1 - 1) (p.2 : Int)).getD (p.1 - 1) 0 = (p.2 : Int) := by rw [getD_setI hi, if_pos rfl]
        conv => lhs; rw [e1]
        rw [Nat.add_sub_cancel, pairsTo_yes (by rw [g]; omega), g]
        have e2 : pairsTo ((foldP l).v.set (p.1 - 1) (p.2 : Int)) (p.1 - 1) = l := by
          rw [pairsTo_congr (u := (foldP l).v) _ fun i hi3 => by rw [getD_setI hi, if_neg (by omega)]]
          have e3 : p.1 - 1 = (foldP l).last + (p.1 - 1 - (foldP l).last) := by omega
          rw [e3, pairsTo_zeros h3]
          exact h5 hf
        rw [e2, ← e1]
        rfl
theorem foldP_all (ps : List (Nat × Nat)) (hp : PairsOk ps) (hf : (foldP ps).fine = true) : pairsTo (foldP ps).v 64 = ps := by
  obtain ⟨_, h2, h3, _, h5⟩ := foldP_told ps hp
  have e : 64 = (foldP ps).last + (64 - (foldP ps).last) := by omega
  rw [e, pairsTo_zeros h3]
  exact h5 hf
theorem getD_padded {v : List Int} {k i : Nat} : (v.take k ++ List.replicate (64 - k) (0 : Int)).getD i 0 = if i < k then v.getD i 0 else if v.length ≤ k then v.getD i 0 else 0 := by
  rw [List.getD_eq_getElem?_getD, List.getD_eq_getElem?_getD, List.getElem?_append, List.length_take]
  by_cases h : i < min k v.length
  · rw [if_pos h, List.getElem?_take, if_pos (by omega), if_pos (by omega)]
  · rw [if_neg h, List.getElem?_replicate]
    by_cases h1 : i < k
    · rw [if_pos h1, List.getElem?_eq_none (l := v) (by omega)]
      split <;> rfl
    · rw [if_neg h1]
      by_cases h2 : v.length ≤ k
      · rw [if_pos h2, List.getElem?_eq_none (l := v) (by omega)]
        split <;> rfl
      · rw [if_neg h2]
        split <;> rfl
theorem foldP_pairs {v : List Int} (hv : VecOk v) : ∀ k, k ≤ 64 → (foldP (pairsTo v k)).fine = true ∧ (foldP (pairsTo v k)).last ≤ k ∧ (foldP (pairsTo v k)).v = v.take k ++ List.replicate (64 - k) (0 : Int)
  | 0, _ => ⟨rfl, Nat.le_refl _, rfl⟩
  | k + 1, hk => by
    obtain ⟨h1, h2, h3⟩ := foldP_pairs hv k (by omega)
    have hl := hv.len
    have hg := hv.get k (by omega)
    have lenp : ∀ j, j ≤ 64 → (v.take j ++ List.replicate (64 - j) (0 : Int)).length = 64 := fun j hj => by rw [List.length_append, List.length_take, List.length_replicate]; omega
    by_cases h : 0 < v.getD k 0
    · rw [pairsTo_yes h, foldP_snoc]
      unfold stepP
      rw [if_neg (by simp only; omega)]
      refine ⟨h1, Nat.le_refl _, ?_⟩
      simp only [Nat.add_sub_cancel]
      rw [h3]
      refine eq_of_getD (by rw [List.length_set]; exact lenp k (by omega)) (lenp (k + 1) hk) fun i hi => ?_
      rw [getD_setI (by rw [lenp k (by omega)]; omega), getD_padded, getD_padded]
      by_cases e : k = i
      · subst e
        rw [if_pos rfl, if_pos (by omega)]; omega
      · rw [if_neg e]
        by_cases e2 : i < k
        · rw [if_pos e2, if_pos (by omega)]
        · rw [if_neg e2, if_neg (by omega)]
          split <;> (try split) <;> first | rfl | omega
    · rw [pairsTo_no h]
      refine ⟨h1, by omega, ?_⟩
      rw [h3]
      refine eq_of_getD (lenp k (by omega)) (lenp (k + 1) hk) fun i hi => ?_
      rw [getD_padded, getD_padded]
      by_cases e : k = i
      · subst e
        rw [if_neg (by omega), if_neg (by omega), if_pos (by omega)]
        omega
      · by_cases e2 : i < k
        · rw [if_pos e2, if_pos (by omega)]
        · rw [if_neg e2, if_neg (by omega)]
          split <;> (try split) <;> first | rfl | omega
theorem foldP_vec {v : List Int} (hv : VecOk v) : (foldP (pairsTo v 64)).fine = true ∧ (foldP (pairsTo v 64)).v = v := by
  obtain ⟨h1, _, h3⟩ := foldP_pairs hv 64 (Nat.le_refl _)
  refine ⟨h1, ?_⟩
  rw [h3, List.take_of_length_le (by rw [hv.len]; omega)]
  simp
/-- the message of what was read -/
def mkM (r : RawM) : MsgV := ((kindF r.1.1, kindF r.1.2.1, kindF r.1.2.2), (foldP r.2.1).v, r.2.2.1, r.2.2.2)
def decBody (b : List UInt8) : MsgV × Nat :=
  if rEnd (msgRd b 0).2.1 (msgRd b 0).2.2 ≠ 0 then (zeroM, rEnd (msgRd b 0).2.1 (msgRd b 0).2.2)
  else if (foldP (msgRd b 0).1.2.1).fine = true ∧ goodM (mkM (msgRd b 0).1) = true then (mkM (msgRd b 0).1, 0) else (zeroM, 4)
/-- the message that bytes tell -/
def decM (l : List UInt8) : MsgV × Nat := if (openB l).2 ≠ 0 then (zeroM, (openB l).2) else decBody (openB l).1
theorem sticky_pairs : ∀ n, Sticky (pairsRd n)
  | 0 => sticky_pure _
  | n + 1 => fun l e h => by unfold pairsRd; rw [if_pos h]
theorem sticky_nums : ∀ n, Sticky (numsRd n)
  | 0 => sticky_pure _
  | n + 1 => (sticky_num _).bind fun _ => (sticky_nums n).bind fun _ => sticky_pure _
theorem sticky_pats : ∀ n, Sticky (patsRd n)
  | 0 => sticky_pure _
  | n + 1 => fun l e h => by unfold patsRd; rw [if_pos h]
theorem sticky_rest (k : Nat) : Sticky (restRd k) := by
  unfold restRd
  split
  · exact (sticky_nums _).bind fun _ => sticky_pure _
  · split
    · exact (sticky_num _).bind fun _ => (sticky_pats _).bind fun _ => sticky_pure _
    · exact sticky_pure _
theorem reads_pair {p : Nat × Nat} (h1 : p.1 ≤ 64) (h2 : p.2 ≤ 60000) : Reads pairRd p (pairB p) := by
  have hx := ofNat_toNat (n := p.1) (by omega)
  have b := reads_byte (most := 64) (x := UInt8.ofNat p.1) (by rw [hx]; exact h1)
  rw [hx] at b
  have n := (reads_num (most := 60000) h2 (by omega)).bind (g := fun k => pureR (p.1, k)) (reads_pure (p.1, p.2)) (fun k => sticky_pure _)
  have := b.bind (g := fun a => bindR (rNum 60000) fun k => pureR (a, k)) n (fun a => (sticky_num _).bind fun _ => sticky_pure _)
  unfold pairRd pairB
  simpa using this
theorem reads_pairs : ∀ (ps : List (Nat × Nat)), PairsOk ps → Reads (pairsRd ps.length) ps (ps.flatMap pairB)
  | [], _ => reads_pure _
  | p :: ps, h => by
    have h0 := h p (by simp)
    have h1 := reads_pair h0.1 h0.2
    have h2 := (reads_pairs ps fun x hx => h x (by simp [hx])).bind (reads_pure (p :: ps)) (fun x => sticky_pure (p :: x))
    have h3 := h1.bind (g := fun p => bindR (pairsRd ps.length) fun x => pureR (p :: x)) h2 (fun a => (sticky_pairs _).bind fun _ => sticky_pure _)
    rw [List.flatMap_cons]
    simp only [List.append_nil] at h3
    exact ⟨fun rest => by rw [List.length_cons]; unfold pairsRd; rw [if_neg (by simp)]; exact h3.all rest, fun m hm => by rw [List.length_cons]; unfold pairsRd; rw [if_neg (by simp)]; exact h3.cut m hm⟩
theorem reads_nums : ∀ (ns : List Nat), (∀ n ∈ ns, n < 18446744073709551616) → Reads (numsRd ns.length) ns (ns.flatMap vbytes)
  | [], _ => reads_pure _
  | n :: ns, h => by
    have h0 := h n (by simp)
    have h1 := reads_num (most := 18446744073709551615) (n := n) (by omega) (by omega)
    have h2 := (reads_nums ns fun x hx => h x (by simp [hx])).bind (reads_pure (n :: ns)) (fun x => sticky_pure (n :: x))
    have h3 := h1.bind (g := fun n => bindR (numsRd ns.length) fun x => pureR (n :: x)) h2 (fun a => (sticky_nums _).bind fun _ => sticky_pure _)
    rw [List.flatMap_cons]
    simp only [List.append_nil] at h3
    exact h3
theorem reads_pat {p : PatV} (h : patB p = true) : Reads patRd p (patText p) := by
  have hl := patBytes_len h
  have ht := reads_text (most := 65536) (s := patBytes p) (by omega) (by omega)
  have hd := dec_enc h
  refine ⟨fun rest => ?_, fun m hm => ?_⟩
  · have := ht.all rest
    unfold patRd patText
    rw [this, if_neg (by simp)]
    simp only [hd]
  · have := ht.cut m hm
    unfold patRd patText
    rw [if_pos (by rw [this]; decide)]
    exact this
theorem reads_pats : ∀ (ps : List PatV), (∀ p ∈ ps, patB p = true) → Reads (patsRd ps.length) ps (ps.flatMap patText)
  | [], _ => reads_pure _
  | p :: ps, h => by
    have h1 := reads_pat (h p (by simp))
    have h2 := (reads_pats ps fun x hx => h x (by simp [hx])).bind (reads_pure (p :: ps)) (fun x => sticky_pure (p :: x))
    have h3 := h1.bind (g := fun p => bindR (patsRd ps.length) fun x => pureR (p :: x)) h2 (fun a => (sticky_pats _).bind fun _ => sticky_pure _)
    rw [List.flatMap_cons]
    simp only [List.append_nil] at h3
    exact ⟨fun rest => by rw [List.length_cons]; unfold patsRd; rw [if_neg (by simp)]; exact h3.all rest, fun m hm => by rw [List.length_cons]; unfold patsRd; rw [if_neg (by simp)]; exact h3.cut m hm⟩
theorem goodM_parts {m : MsgV} (h : goodM m = true) : (1 ≤ m.1.2.1.val ∧ m.1.2.1.val ≤ 64) ∧ (1 ≤ m.1.2.2.val ∧ m.1.2.2.val ≤ 64) ∧ vgoodV m.2.1 = true ∧ ((m.1.1.val = 1 ∧ m.2.2.2 = []) ∨ (m.1.1.val = 2 ∧ (∀ p ∈ m.2.2.2, patB p = true) ∧ m.2.2.1 = zeroBl ∧ m.2.2.2.length ≤ 8)) := by
  unfold goodM nodeN at h
  simp only [Bool.and_eq_true, decide_eq_true_eq] at h
  obtain ⟨h1, h2, _, h4, h5⟩ := h
  refine ⟨h1, h2, h4, ?_⟩
  split at h5
  · rename_i hk
    rw [decide_eq_true_eq] at h5
    exact .inl ⟨hk, List.eq_nil_of_length_eq_zero h5⟩
  · simp only [Bool.and_eq_true, decide_eq_true_eq, List.all_eq_true] at h5
    exact .inr ⟨h5.1, h5.2.1, h5.2.2.1, h5.2.2.2⟩
theorem reads_restM {m : MsgV} (ho : MsgOk m) (h : goodM m = true) : Reads (restRd m.1.1.val) (m.2.2.1, m.2.2.2) (tailB m) := by
  obtain ⟨_, _, _, h4⟩ := goodM_parts h
  unfold restRd tailB
  rcases h4 with ⟨hk, hp⟩ | ⟨hk, hp, hz, hl⟩
  · rw [if_pos hk, if_pos hk, hp]
    have := (reads_nums m.2.2.1 ho.bl.2).bind (reads_pure (m.2.2.1, ([] : List PatV))) (fun b => sticky_pure (b, []))
    rw [ho.bl.1, List.append_nil] at this
    exact this
  · have h1 : ¬ m.1.1.val = 1 := by omega
    rw [if_neg h1, if_pos hk, if_neg h1, hz]
    have h2 := (reads_pats m.2.2.2 hp).bind (reads_pure (zeroBl, m.2.2.2)) (fun ps => sticky_pure (zeroBl, ps))
    have := (reads_num (most := 8) hl (by omega)).bind (g := fun n => bindR (patsRd n) fun ps => pureR (zeroBl, ps)) h2 (fun n => (sticky_pats _).bind fun _ => sticky_pure _)
    rw [List.append_nil] at this
    exact this
theorem pairsTo_ok {v : List Int} (hv : VecOk v) (hg : vgoodV v = true) : ∀ k, k ≤ 64 → PairsOk (pairsTo v k)
  | 0, _ => fun p hp => by cases hp
  | k + 1, hk => fun p hp => by
    have ih := pairsTo_ok hv hg k (by omega)
    by_cases h : 0 < v.getD k 0
    · rw [pairsTo_yes h] at hp
      rcases List.mem_append.1 hp with h1 | h1
      · exact ih p h1
      · rw [List.mem_singleton.1 h1]
        refine ⟨by show k + 1 ≤ 64; omega, ?_⟩
        unfold vgoodV at hg
        rw [List.all_eq_true] at hg
        have hm : v.getD k 0 ∈ v := by
          rw [List.getD_eq_getElem?_getD, List.getElem?_eq_getElem (by rw [hv.len]; omega)]
          exact List.getElem_mem _
        have := of_decide_eq_true (hg _ hm)
        show (v.getD k 0).toNat ≤ 60000
        omega
    · rw [pairsTo_no h] at hp
      exact ih p hp
def rawM (m : MsgV) : RawM := ((m.1.1.val, m.1.2.1.val, m.1.2.2.val), pairsTo m.2.1 64, m.2.2.1, m.2.2.2)
theorem reads_msg {m : MsgV} (ho : MsgOk m) (h : goodM m = true) : Reads msgRd (rawM m) (plainM m) := by
  obtain ⟨h1, h2, h3, h4⟩ := goodM_parts h
  have hk : m.1.1.val ≤ 2 := by rcases h4 with h4 | h4 <;> omega
  have rb : ∀ (most n : Nat), n ≤ most → n < 256 → Reads (rByte most) n [UInt8.ofNat n] := fun most n h h2 => by
    have hx := ofNat_toNat (n := n) h2
    have := reads_byte (most := most) (x := UInt8.ofNat n) (by rw [hx]; exact h)
    rwa [hx] at this
  have f : ∀ k f t, ∀ n, Sticky (bindR (pairsRd n) fun ps => bindR (restRd k) fun r => pureR (((k, f, t), ps, r) : RawM)) := fun k f t n => (sticky_pairs _).bind fun _ => (sticky_rest _).bind fun _ => sticky_pure _
  have g6 := (reads_restM ho h).bind (reads_pure (rawM m)) (fun r => sticky_pure (((m.1.1.val, m.1.2.1.val, m.1.2.2.val), pairsTo m.2.1 64, r) : RawM))
  have g5 := (reads_pairs _ (pairsTo_ok ho.vec h3 64 (Nat.le_refl _))).bind (g := fun ps => bindR (restRd m.1.1.val) fun r => pureR (((m.1.1.val, m.1.2.1.val, m.1.2.2.val), ps, r) : RawM)) g6 (fun _ => (sticky_rest _).bind fun _ => sticky_pure _)
  have g4 := (reads_num (most := 64) (pairsTo_len m.2.1 64) (by have := pairsTo_len m.2.1 64; omega)).bind (g := fun n => bindR (pairsRd n) fun ps => bindR (restRd m.1.1.val) fun r => pureR (((m.1.1.val, m.1.2.1.val, m.1.2.2.val), ps, r) : RawM)) g5 (f _ _ _)
  have g3 := (rb 64 m.1.2.2.val h2.2 m.1.2.2.isLt).bind (g := fun t => bindR (rNum 64) fun n => bindR (pairsRd n) fun ps => bindR (restRd m.1.1.val) fun r => pureR (((m.1.1.val, m.1.2.1.val, t), ps, r) : RawM)) g4 (fun t => (sticky_num _).bind (f _ _ _))
  have g2 := (rb 64 m.1.2.1.val h1.2 m.1.2.1.isLt).bind (g := fun a => bindR (rByte 64) fun t => bindR (rNum 64) fun n => bindR (pairsRd n) fun ps => bindR (restRd m.1.1.val) fun r => pureR (((m.1.1.val, a, t), ps, r) : RawM)) g3 (fun a => (sticky_byte _).bind fun t => (sticky_num _).bind (f _ _ _))
  have g1 := (rb 2 m.1.1.val hk m.1.1.isLt).bind (g := fun k => bindR (rByte 64) fun a => bindR (rByte 64) fun t => bindR (rNum 64) fun n => bindR (pairsRd n) fun ps => bindR (restRd k) fun r => pureR (((k, a, t), ps, r) : RawM)) g2 (fun k => (sticky_byte _).bind fun a => (sticky_byte _).bind fun t => (sticky_num _).bind (f _ _ _))
  have e : plainM m = [UInt8.ofNat m.1.1.val] ++ ([UInt8.ofNat m.1.2.1.val] ++ ([UInt8.ofNat m.1.2.2.val] ++ (vbytes (pairsTo m.2.1 64).length ++ ((pairsTo m.2.1 64).flatMap pairB ++ (tailB m ++ []))))) := by
    unfold plainM vecB
    simp
  rw [e]
  exact g1
theorem mk_raw {m : MsgV} (ho : MsgOk m) : mkM (rawM m) = m := by
  unfold mkM rawM
  rw [kindF_val, kindF_val, kindF_val, (foldP_vec ho.vec).2]
/-- what is encoded is decoded as it was -/
theorem dec_plain {m : MsgV} (ho : MsgOk m) (h : goodM m = true) : decBody (plainM m) = (m, 0) := by
  have hr := (reads_msg ho h).all []
  rw [List.append_nil] at hr
  unfold decBody
  rw [hr]
  have hz : rEnd [] 0 = 0 := rfl
  simp only [hz]
  rw [if_neg (by simp), mk_raw ho, if_pos ⟨(foldP_vec ho.vec).1, h⟩]
theorem dec_sealed {m : MsgV} (ho : MsgOk m) (h : goodM m = true) : decM (sealB (plainM m)) = (m, 0) := by
  unfold decM
  rw [open_seal, if_neg (by simp)]
  exact dec_plain ho h
theorem told_pair {l : List UInt8} {e : Nat} {p : Nat × Nat} {l' : List UInt8} (h : pairRd l e = (p, l', 0)) : e = 0 ∧ l = pairB p ++ l' ∧ p.1 ≤ 64 ∧ p.2 ≤ 60000 := by
  unfold pairRd bindR pureR at h
  obtain ⟨a, l1, e1, h1⟩ : ∃ x y z, rByte 64 l e = (x, y, z) := ⟨_, _, _, rfl⟩
  rw [h1] at h
  dsimp only at h
  obtain ⟨k, l2, e2, h2⟩ : ∃ x y z, rNum 60000 l1 e1 = (x, y, z) := ⟨_, _, _, rfl⟩
  rw [h2] at h
  simp only [Prod.mk.injEq] at h
  obtain ⟨rfl, rfl, rfl⟩ := h
  obtain ⟨rfl, b2, c2⟩ := told_num _ h2
  obtain ⟨a1, b1, c1, _⟩ := told_byte _ h1
  exact ⟨a1, by rw [b1, b2]; rfl, c1, c2⟩
theorem told_pairs : ∀ (n : Nat) (l : List UInt8) (e : Nat) (ps : List (Nat × Nat)) (l' : List UInt8), pairsRd n l e = (ps, l', 0) → e = 0 ∧ l = ps.flatMap pairB ++ l' ∧ ps.length = n ∧ PairsOk ps
  | 0, l, e, ps, l', h => by
    unfold pairsRd pureR at h
    simp only [Prod.mk.injEq] at h
    obtain ⟨rfl, rfl, rfl⟩ := h
    exact ⟨rfl, rfl, rfl, fun p hp => by cases hp⟩
  | n + 1, l, e, ps, l', h => by
    unfold pairsRd at h
    split at h
    · rename_i h0
      simp only [Prod.mk.injEq] at h
      exact absurd h.2.2 h0
    · unfold bindR pureR at h
      obtain ⟨o, l1, e1, h1⟩ : ∃ x y z, pairRd l e = (x, y, z) := ⟨_, _, _, rfl⟩
      rw [h1] at h
      dsimp only at h
      obtain ⟨os2, l2, e2, h2⟩ : ∃ x y z, pairsRd n l1 e1 = (x, y, z) := ⟨_, _, _, rfl⟩
      rw [h2] at h
      simp only [Prod.mk.injEq] at h
      obtain ⟨rfl, rfl, rfl⟩ := h
      obtain ⟨rfl, b, c, d⟩ := told_pairs n l1 e1 os2 l2 h2
      obtain ⟨a, b1, c1⟩ := told_pair h1
      refine ⟨a, ?_, by simp [c], fun x hx => ?_⟩
      · rw [b1, b, List.flatMap_cons, List.append_assoc]
      · rcases List.mem_cons.1 hx with rfl | hx
        · exact c1
        · exact d x hx
theorem told_nums : ∀ (n : Nat) (l : List UInt8) (e : Nat) (ns : List Nat) (l' : List UInt8), numsRd n l e = (ns, l', 0) → e = 0 ∧ l = ns.flatMap vbytes ++ l' ∧ ns.length = n
  | 0, l, e, ns, l', h => by
    unfold numsRd pureR at h
    simp only [Prod.mk.injEq] at h
    obtain ⟨rfl, rfl, rfl⟩ := h
    exact ⟨rfl, rfl, rfl⟩
  | n + 1, l, e, ns, l', h => by
    unfold numsRd bindR pureR at h
    obtain ⟨o, l1, e1, h1⟩ : ∃ x y z, rNum 18446744073709551615 l e = (x, y, z) := ⟨_, _, _, rfl⟩
    rw [h1] at h
    dsimp only at h
    obtain ⟨os2, l2, e2, h2⟩ : ∃ x y z, numsRd n l1 e1 = (x, y, z) := ⟨_, _, _, rfl⟩
    rw [h2] at h
    simp only [Prod.mk.injEq] at h
    obtain ⟨rfl, rfl, rfl⟩ := h
    obtain ⟨rfl, b, c⟩ := told_nums n l1 e1 os2 l2 h2
    obtain ⟨a, b1, _⟩ := told_num _ h1
    exact ⟨a, by rw [b1, b, List.flatMap_cons, List.append_assoc], by simp [c]⟩
theorem told_pat {l : List UInt8} {e : Nat} {p : PatV} {l' : List UInt8} (h : patRd l e = (p, l', 0)) : e = 0 ∧ l = patText p ++ l' ∧ patB p = true := by
  unfold patRd at h
  obtain ⟨s, l1, e1, h1⟩ : ∃ x y z, rText 65536 l e = (x, y, z) := ⟨_, _, _, rfl⟩
  rw [h1] at h
  split at h
  · rename_i h0
    simp only [Prod.mk.injEq] at h
    exact absurd h.2.2 h0
  · rename_i h0
    have h0 : e1 = 0 := by simpa using h0
    subst h0
    simp only [Prod.mk.injEq] at h
    obtain ⟨h2, rfl, h3⟩ := h
    obtain ⟨a, b, _⟩ := told_text _ h1
    obtain ⟨g1, g2⟩ := enc_dec (b := s) (q := p) (Prod.ext h2 h3)
    refine ⟨a, ?_, g1⟩
    rw [b]
    unfold patText
    rw [g2]
theorem told_pats : ∀ (n : Nat) (l : List UInt8) (e : Nat) (ps : List PatV) (l' : List UInt8), patsRd n l e = (ps, l', 0) → e = 0 ∧ l = ps.flatMap patText ++ l' ∧ ps.length = n ∧ ∀ p ∈ ps, patB p = true
  | 0, l, e, ps, l', h => by
    unfold patsRd pureR at h
    simp only [Prod.mk.injEq] at h
    obtain ⟨rfl, rfl, rfl⟩ := h
    exact ⟨rfl, rfl, rfl, fun p hp => by cases hp⟩
  | n + 1, l, e, ps, l', h => by
    unfold patsRd at h
    split at h
    · rename_i h0
      simp only [Prod.mk.injEq] at h
      exact absurd h.2.2 h0
    · unfold bindR pureR at h
      obtain ⟨o, l1, e1, h1⟩ : ∃ x y z, patRd l e = (x, y, z) := ⟨_, _, _, rfl⟩
      rw [h1] at h
      dsimp only at h
      obtain ⟨os2, l2, e2, h2⟩ : ∃ x y z, patsRd n l1 e1 = (x, y, z) := ⟨_, _, _, rfl⟩
      rw [h2] at h
      simp only [Prod.mk.injEq] at h
      obtain ⟨rfl, rfl, rfl⟩ := h
      obtain ⟨rfl, b, c, d⟩ := told_pats n l1 e1 os2 l2 h2
      obtain ⟨a, b1, c1⟩ := told_pat h1
      refine ⟨a, ?_, by simp [c], fun x hx => ?_⟩
      · rw [b1, b, List.flatMap_cons, List.append_assoc]
      · rcases List.mem_cons.1 hx with rfl | hx
        · exact c1
        · exact d x hx
def restB (k : Nat) (r : List Nat × List PatV) : List UInt8 := if k = 1 then r.1.flatMap vbytes else if k = 2 then vbytes r.2.length ++ r.2.flatMap patText else []
theorem told_rest {k : Nat} {l : List UInt8} {e : Nat} {r : List Nat × List PatV} {l' : List UInt8} (h : restRd k l e = (r, l', 0)) : e = 0 ∧ l = restB k r ++ l' := by
  unfold restRd at h
  unfold restB
  by_cases h1 : k = 1
  · rw [if_pos h1] at h ⊢
    unfold bindR pureR at h
    obtain ⟨o, l1, e1, h2⟩ : ∃ x y z, numsRd 4 l e = (x, y, z) := ⟨_, _, _, rfl⟩
    rw [h2] at h
    simp only [Prod.mk.injEq] at h
    obtain ⟨rfl, rfl, rfl⟩ := h
    obtain ⟨a, b, _⟩ := told_nums _ _ _ _ _ h2
    exact ⟨a, b⟩
  · rw [if_neg h1] at h ⊢
    by_cases h2 : k = 2
    · rw [if_pos h2] at h ⊢
      unfold bindR pureR at h
      obtain ⟨n, l1, e1, h3⟩ : ∃ x y z, rNum 8 l e = (x, y, z) := ⟨_, _, _, rfl⟩
      rw [h3] at h
      dsimp only at h
      obtain ⟨ps, l2, e2, h4⟩ : ∃ x y z, patsRd n l1 e1 = (x, y, z) := ⟨_, _, _, rfl⟩
      rw [h4] at h
      simp only [Prod.mk.injEq] at h
      obtain ⟨rfl, rfl, rfl⟩ := h
      obtain ⟨rfl, b4, c4, _⟩ := told_pats _ _ _ _ _ h4
      obtain ⟨a, b3, _⟩ := told_num _ h3
      refine ⟨a, ?_⟩
      rw [b3, b4, c4, List.append_assoc]
    · rw [if_neg h2] at h ⊢
      unfold pureR at h
      simp only [Prod.mk.injEq] at h
      obtain ⟨_, rfl, rfl⟩ := h
      exact ⟨rfl, rfl⟩
theorem told_msg {l : List UInt8} {r : RawM} {l' : List UInt8} (h : msgRd l 0 = (r, l', 0)) :
    l = ([UInt8.ofNat r.1.1, UInt8.ofNat r.1.2.1, UInt8.ofNat r.1.2.2] ++ ((vbytes r.2.1.length ++ r.2.1.flatMap pairB) ++ restB r.1.1 r.2.2)) ++ l' ∧ r.1.1 < 256 ∧ r.1.2.1 < 256 ∧ r.1.2.2 < 256 ∧ PairsOk r.2.1 := by
  unfold msgRd bindR pureR at h
  obtain ⟨a, l1, e1, h1⟩ : ∃ x y z, rByte 2 l 0 = (x, y, z) := ⟨_, _, _, rfl⟩
  rw [h1] at h
  dsimp only at h
  obtain ⟨f, l2, e2, h2⟩ : ∃ x y z, rByte 64 l1 e1 = (x, y, z) := ⟨_, _, _, rfl⟩
  rw [h2] at h
  dsimp only at h
  obtain ⟨t, l3, e3, h3⟩ : ∃ x y z, rByte 64 l2 e2 = (x, y, z) := ⟨_, _, _, rfl⟩
  rw [h3] at h
  dsimp only at h
  obtain ⟨n, l4, e4, h4⟩ : ∃ x y z, rNum 64 l3 e3 = (x, y, z) := ⟨_, _, _, rfl⟩
  rw [h4] at h
  dsimp only at h
  obtain ⟨ps, l5, e5, h5⟩ : ∃ x y z, pairsRd n l4 e4 = (x, y, z) := ⟨_, _, _, rfl⟩
  rw [h5] at h
  dsimp only at h
  obtain ⟨q, l6, e6, h6⟩ : ∃ x y z, restRd a l5 e5 = (x, y, z) := ⟨_, _, _, rfl⟩
  rw [h6] at h
  simp only [Prod.mk.injEq] at h
  obtain ⟨rfl, rfl, rfl⟩ := h
  obtain ⟨rfl, b6⟩ := told_rest h6
  obtain ⟨rfl, b5, c5, d5⟩ := told_pairs _ _ _ _ _ h5
  obtain ⟨rfl, b4, c4⟩ := told_num _ h4
  obtain ⟨rfl, b3, c3, d3⟩ := told_byte _ h3
  obtain ⟨rfl, b2, c2, d2⟩ := told_byte _ h2
  obtain ⟨_, b1, c1, d1⟩ := told_byte _ h1
  refine ⟨?_, d1, d2, d3, d5⟩
  rw [b1, b2, b3, b4, b5, b6, c5]
  simp
/-- what is decoded may be, and is encoded so -/
theorem plain_dec {b : List UInt8} {m : MsgV} (h : decBody b = (m, 0)) : goodM m = true ∧ plainM m = b := by
  unfold decBody at h
  split at h
  · rename_i h0
    simp only [Prod.mk.injEq] at h
    exact absurd h.2 h0
  · rename_i h0
    split at h
    · rename_i h1
      simp only [Prod.mk.injEq, and_true] at h
      obtain ⟨r, l', e', hh⟩ : ∃ x y z, msgRd b 0 = (x, y, z) := ⟨_, _, _, rfl⟩
      rw [hh] at h h0 h1
      dsimp only at h h0 h1
      have hz : e' = 0 ∧ l' = [] := by
        unfold rEnd at h0
        split at h0
        · exact absurd (by decide) h0
        · rename_i h2
          have he : e' = 0 := by simpa using h0
          exact ⟨he, by
            rcases Nat.eq_zero_or_pos l'.length with h3 | h3
            · exact List.eq_nil_of_length_eq_zero h3
            · exact absurd ⟨he, h3⟩ h2⟩
      obtain ⟨rfl, rfl⟩ := hz
      obtain ⟨hb, d1, d2, d3, d5⟩ := told_msg hh
      subst h
      refine ⟨h1.2, ?_⟩
      have hp := foldP_all _ d5 h1.1
      obtain ⟨_, _, _, h4⟩ := goodM_parts h1.2
      have hk : ∀ n, n < 256 → (kindF n).val = n := fun n hn => Nat.mod_eq_of_lt hn
      have e1 : (mkM r).1.1.val = r.1.1 := hk _ d1
      have e2 : (mkM r).1.2.1.val = r.1.2.1 := hk _ d2
      have e3 : (mkM r).1.2.2.val = r.1.2.2 := hk _ d3
      have e4 : (mkM r).2.1 = (foldP r.2.1).v := rfl
      have e5 : (mkM r).2.2.1 = r.2.2.1 := rfl
      have e6 : (mkM r).2.2.2 = r.2.2.2 := rfl
      rw [hb, List.append_nil]
      unfold plainM vecB tailB restB
      rw [e1, e2, e3, e4, e5, e6, hp]
      rw [e1] at h4
      rcases h4 with ⟨h6, _⟩ | ⟨h6, _⟩
      · rw [if_pos h6, if_pos h6]
      · rw [if_neg (by omega), if_neg (by omega), if_pos h6]
    · simp only [Prod.mk.injEq] at h
      exact absurd h.2 (by decide)
theorem sealed_dec {l : List UInt8} {m : MsgV} (h : decM l = (m, 0)) : goodM m = true ∧ sealB (plainM m) = l := by
  unfold decM at h
  split at h
  · rename_i h0
    simp only [Prod.mk.injEq] at h
    exact absurd h.2 h0
  · rename_i h0
    obtain ⟨g1, g2⟩ := plain_dec h
    refine ⟨g1, ?_⟩
    rw [g2]
    exact (seal_open (b := (openB l).1) (Prod.ext rfl (by simpa using h0))).symm
theorem patText_len {p : PatV} (h : patB p = true) : (patText p).length ≤ 20003 := by
  have h1 := patBytes_len h
  have h2 : (vbytes (patBytes p).length).length ≤ 3 := vbytes_len 2 _ (by omega)
  unfold patText
  rw [List.length_append]; omega
theorem pairs_len {ps : List (Nat × Nat)} (h : PairsOk ps) : (ps.flatMap pairB).length ≤ 4 * ps.length := by
  induction ps with
  | nil => simp
  | cons p ps ih =>
    have h1 := ih fun x hx => h x (List.mem_cons_of_mem _ hx)
    have h2 := h p (List.mem_cons_self ..)
    have h3 : (vbytes p.2).length ≤ 3 := vbytes_len 2 _ (by omega)
    rw [List.flatMap_cons, List.length_append, List.length_cons]
    unfold pairB at h1 ⊢
    rw [List.length_cons]
    omega
theorem plainM_len {m : MsgV} (ho : MsgOk m) (h : goodM m = true) : (plainM m).length ≤ 200000 := by
  obtain ⟨_, _, h3, h4⟩ := goodM_parts h
  have l1 := pairs_len (pairsTo_ok ho.vec h3 64 (Nat.le_refl _))
  have l2 := pairsTo_len m.2.1 64
  have l3 : (vbytes (pairsTo m.2.1 64).length).length ≤ 1 := vbytes_len 0 _ (by omega)
  have l4 : (tailB m).length ≤ 170000 := by
    unfold tailB
    rcases h4 with ⟨h6, _⟩ | ⟨h6, hp, _, hl⟩
    · rw [if_pos h6]
      have : ∀ ns : List Nat, (∀ n ∈ ns, n < 18446744073709551616) → (ns.flatMap vbytes).length ≤ 10 * ns.length := by
        intro ns
        induction ns with
        | nil => intro _; simp
        | cons n ns ih =>
          intro hh
          have a1 := ih fun x hx => hh x (List.mem_cons_of_mem _ hx)
          have a2 : (vbytes n).length ≤ 10 := vbytes_len 9 _ (by have := hh n (List.mem_cons_self ..); omega)
          rw [List.flatMap_cons, List.length_append, List.length_cons]; omega
      have := this m.2.2.1 ho.bl.2
      rw [ho.bl.1] at this
      omega
    · rw [if_neg (by omega), List.length_append]
      have a1 : (vbytes m.2.2.2.length).length ≤ 1 := vbytes_len 0 _ (by omega)
      have : ∀ ps : List PatV, (∀ p ∈ ps, patB p = true) → (ps.flatMap patText).length ≤ 20003 * ps.length := by
        intro ps
        induction ps with
        | nil => intro _; simp
        | cons p ps ih =>
          intro hh
          have a1 := ih fun x hx => hh x (List.mem_cons_of_mem _ hx)
          have a2 := patText_len (hh p (List.mem_cons_self ..))
          rw [List.flatMap_cons, List.length_append, List.length_cons]; omega
      have := this m.2.2.2 hp
      omega
  unfold plainM vecB
  simp only [List.length_append, List.length_cons, List.length_nil]
  omega
end Go.Proofs.YtdafiipedlglpaaGreatDoor
