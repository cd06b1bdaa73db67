/- The sum of bytes: plain laws: linear, one-to-one; no program in sight. -/
import Derived.Lib.Hide
import Derived.Test.YtihggkmjalofiaaGreatDoorPcds
import Derived.Test.YtihggkmjalofiaaGreatDoorVecs
import Derived.Test.YtihggkmjalofiaaGreatDoorPools
import Derived.Test.YtihggkmjalofiaaGreatDoorHors
import Derived.Test.YtihggkmjalofiaaGreatDoorLists
import Derived.Test.YtihggkmjalofiaaGreatDoorIdxw
import Derived.Test.YtihggkmjalofiaaGreatDoorPats
import Derived.Test.YtihggkmjalofiaaGreatDoorPatr
namespace Go.Proofs.YtihggkmjalofiaaGreatDoor

abbrev B8 := BitVec 8
def bitsB (x : B8) : List Bool := [x.getLsbD 7, x.getLsbD 6, x.getLsbD 5, x.getLsbD 4, x.getLsbD 3, x.getLsbD 2, x.getLsbD 1, x.getLsbD 0]
end Go.Proofs.YtihggkmjalofiaaGreatDoor

/- A message's bytes, and the message that bytes tell: plain law; no program in sight. -/
namespace Go.Proofs.YtihggkmjalofiaaGreatDoor

/-- a message -/
abbrev MsgV := (Fin 256 × Fin 256 × Fin 256) × List Int × List Nat × List PatV
structure MsgOk (m : MsgV) : Prop where
  vec : VecOk m.2.1
  bl : BlOk m.2.2.1
def patText (p : PatV) : List UInt8 := vbytes (patBytes p).length ++ patBytes p
/-- bytes with their sum -/
def toB8 (l : List UInt8) : List B8 := l.map (·.toBitVec)
def patRd : Rd PatV := fun l e => if (rText 65536 l e).2.2 ≠ 0 then (zeroPat, (rText 65536 l e).2.1, (rText 65536 l e).2.2) else ((decP (rText 65536 l e).1).1, (rText 65536 l e).2.1, (decP (rText 65536 l e).1).2)
def patsRd : Nat → Rd (List PatV)
  | 0 => pureR []
  | n + 1 => fun l e => if e ≠ 0 then ([], l, e) else bindR patRd (fun p => bindR (patsRd n) fun ps => pureR (p :: ps)) l e
theorem sticky_pats : ∀ n, Sticky (patsRd n)
  | 0 => sticky_pure _
  | n + 1 => fun l e h => by unfold patsRd; rw [if_pos h]
theorem reads_pat {p : PatV} (h : patB p = true) : Reads patRd p (patText p) := by
  have hl := patBytes_len h
  have ht := reads_text (most := 65536) (s := patBytes p) (by omega) (by omega)
  have hd := dec_enc h
  refine ⟨fun rest => ?_, fun m hm => ?_⟩
  · have := ht.all rest
    unfold patRd patText
    rw [this, if_neg (by simp)]
    simp only [hd]
  · have := ht.cut m hm
    unfold patRd patText
    rw [if_pos (by rw [this]; decide)]
    exact this
theorem reads_pats : ∀ (ps : List PatV), (∀ p ∈ ps, patB p = true) → Reads (patsRd ps.length) ps (ps.flatMap patText)
  | [], _ => reads_pure _
  | p :: ps, h => by
    have h1 := reads_pat (h p (by simp))
    have h2 := (reads_pats ps fun x hx => h x (by simp [hx])).bind (reads_pure (p :: ps)) (fun x => sticky_pure (p :: x))
    have h3 := h1.bind (g := fun p => bindR (patsRd ps.length) fun x => pureR (p :: x)) h2 (fun a => (sticky_pats _).bind fun _ => sticky_pure _)
    rw [List.flatMap_cons]
    simp only [List.append_nil] at h3
    exact ⟨fun rest => by rw [List.length_cons]; unfold patsRd; rw [if_neg (by simp)]; exact h3.all rest, fun m hm => by rw [List.length_cons]; unfold patsRd; rw [if_neg (by simp)]; exact h3.cut m hm⟩
theorem told_pat {l : List UInt8} {e : Nat} {p : PatV} {l' : List UInt8} (h : patRd l e = (p, l', 0)) : e = 0 ∧ l = patText p ++ l' ∧ patB p = true := by
  unfold patRd at h
  obtain ⟨s, l1, e1, h1⟩ : ∃ x y z, rText 65536 l e = (x, y, z) := ⟨_, _, _, rfl⟩
  rw [h1] at h
  split at h
  · rename_i h0
    simp only [Prod.mk.injEq] at h
    exact absurd h.2.2 h0
  · rename_i h0
    have h0 : e1 = 0 := by simpa using h0
    subst h0
    simp only [Prod.mk.injEq] at h
    obtain ⟨h2, rfl, h3⟩ := h
    obtain ⟨a, b, _⟩ := told_text _ h1
    obtain ⟨g1, g2⟩ := enc_dec (b := s) (q := p) (Prod.ext h2 h3)
    refine ⟨a, ?_, g1⟩
    rw [b]
    unfold patText
    rw [g2]
theorem told_pats : ∀ (n : Nat) (l : List UInt8) (e : Nat) (ps : List PatV) (l' : List UInt8), patsRd n l e = (ps, l', 0) → e = 0 ∧ l = ps.flatMap patText ++ l' ∧ ps.length = n ∧ ∀ p ∈ ps, patB p = true
  | 0, l, e, ps, l', h => by
    unfold patsRd pureR at h
    simp only [Prod.mk.injEq] at h
    obtain ⟨rfl, rfl, rfl⟩ := h
    exact ⟨rfl, rfl, rfl, fun p hp => by cases hp⟩
  | n + 1, l, e, ps, l', h => by
    unfold patsRd at h
    split at h
    · rename_i h0
      simp only [Prod.mk.injEq] at h
      exact absurd h.2.2 h0
    · unfold bindR pureR at h
      obtain ⟨o, l1, e1, h1⟩ : ∃ x y z, patRd l e = (x, y, z) := ⟨_, _, _, rfl⟩
      rw [h1] at h
      dsimp only at h
      obtain ⟨os2, l2, e2, h2⟩ : ∃ x y z, patsRd n l1 e1 = (x, y, z) := ⟨_, _, _, rfl⟩
      rw [h2] at h
      simp only [Prod.mk.injEq] at h
      obtain ⟨rfl, rfl, rfl⟩ := h
      obtain ⟨rfl, b, c, d⟩ := told_pats n l1 e1 os2 l2 h2
      obtain ⟨a, b1, c1⟩ := told_pat h1
      refine ⟨a, ?_, by simp [c], fun x hx => ?_⟩
      · rw [b1, b, List.flatMap_cons, List.append_assoc]
      · rcases List.mem_cons.1 hx with rfl | hx
        · exact c1
        · exact d x hx
end Go.Proofs.YtihggkmjalofiaaGreatDoor

/- The sum of bytes (SHA-256) as numbers; plain laws; no program in sight. -/
namespace Go.Proofs.YtihggkmjalofiaaGreatDoor

abbrev W32 := BitVec 32
def wideS (x : UInt8) : W32 := x.toBitVec.setWidth 32

/-! ## the sum of bytes, as numbers -/
def rotS (x : W32) (n : Nat) : W32 := (x >>> n) ||| (x <<< (32 - n))
def byS (b : List UInt8) (i : Nat) : W32 := wideS (b.getD i 0)
def wordS (b : List UInt8) (i : Nat) : W32 := (((byS b (4 * i) <<< 24) ||| (byS b (4 * i + 1) <<< 16)) ||| (byS b (4 * i + 2) <<< 8)) ||| byS b (4 * i + 3)
def lowS (x : W32) : W32 := (rotS x 7 ^^^ rotS x 18) ^^^ (x >>> 3)
def topS (y : W32) : W32 := (rotS y 17 ^^^ rotS y 19) ^^^ (y >>> 10)
def atS (l : List W32) (i : Nat) : W32 := l.getD i 0#32
def nextS (b : List UInt8) (w : List W32) (i : Nat) : W32 := if i < 16 then wordS b i else ((atS w (i - 16) + atS w (i - 7)) + lowS (atS w (i - 15))) + topS (atS w (i - 2))
/-- the first i of the sixty-four numbers -/
def spreadS (b : List UInt8) : Nat → List W32
  | 0 => []
  | i + 1 => spreadS b i ++ [nextS b (spreadS b i) i]
theorem spreadS_len (b : List UInt8) : ∀ i, (spreadS b i).length = i
  | 0 => rfl
  | i + 1 => by rw [spreadS, List.length_append, spreadS_len b i]; rfl
def bigS (e : W32) : W32 := (rotS e 6 ^^^ rotS e 11) ^^^ rotS e 25
def midS (a : W32) : W32 := (rotS a 2 ^^^ rotS a 13) ^^^ rotS a 22
def tS (s : List W32) (k w : W32) : W32 := (((atS s 7 + bigS (atS s 4)) + ((atS s 4 &&& atS s 5) ^^^ (~~~(atS s 4) &&& atS s 6))) + k) + w
def uS (s : List W32) : W32 := midS (atS s 0) + (((atS s 0 &&& atS s 1) ^^^ (atS s 0 &&& atS s 2)) ^^^ (atS s 1 &&& atS s 2))
def stepS (s : List W32) (k w : W32) : List W32 := [tS s k w + uS s, atS s 0, atS s 1, atS s 2, atS s 3 + tS s k w, atS s 4, atS s 5, atS s 6]
def roundsS (K W : List W32) (h : List W32) : Nat → List W32
  | 0 => h
  | i + 1 => stepS (roundsS K W h i) (atS K i) (atS W i)
theorem roundsS_len {K W h : List W32} (hh : h.length = 8) : ∀ i, (roundsS K W h i).length = 8
  | 0 => hh
  | _ + 1 => rfl
def sumsS (h s : List W32) : List W32 := (List.range 8).map fun i => atS h i + atS s i
def blockS (K : List W32) (h : List W32) (b : List UInt8) : List W32 := sumsS h (roundsS K (spreadS b 64) h 64)
theorem blockS_len (K h : List W32) (b : List UInt8) : (blockS K h b).length = 8 := by unfold blockS sumsS; simp
/-- what is behind a message -/
def zerosS (n : Nat) : Nat := (119 - n % 64) % 64
def lenS (n : Nat) : List UInt8 := (List.range 8).map fun i => UInt8.ofNat (n * 8 / 256 ^ (7 - i))
def padS (l : List UInt8) : List UInt8 := l ++ [128] ++ List.replicate (zerosS l.length) 0 ++ lenS l.length
theorem lenS_len (n : Nat) : (lenS n).length = 8 := by unfold lenS; simp
/-- the state behind i blocks -/
def blocksS (K H : List W32) (l : List UInt8) : Nat → List W32
  | 0 => H
  | i + 1 => blockS K (blocksS K H l i) ((l.drop (64 * i)).take 64)
theorem blocksS_len {K H : List W32} (hH : H.length = 8) (l : List UInt8) : ∀ i, (blocksS K H l i).length = 8
  | 0 => hH
  | _ + 1 => blockS_len ..
def outS (h : List W32) : List UInt8 := (List.range 32).map fun i => UInt8.ofNat ((atS h (i / 4) >>> (24 - 8 * (i % 4))).toNat)
theorem outS_len (h : List W32) : (outS h).length = 32 := by unfold outS; simp
def sumS (K H : List W32) (l : List UInt8) : List UInt8 := outS (blocksS K H (padS l) ((padS l).length / 64))
theorem sumS_len (K H : List W32) (l : List UInt8) : (sumS K H l).length = 32 := outS_len _

/-! ## the document's spellings -/
theorem wideS_nat (x : UInt8) : (wideS x).toNat = x.toNat := by
  unfold wideS
  rw [BitVec.toNat_setWidth]
  have := x.toNat_lt
  show x.toNat % 4294967296 = _
  omega
def DigsD (l : List Nat) : Prop := ∀ d ∈ l, d < 65536
theorem DigsD.set {l : List Nat} (h : DigsD l) {j d : Nat} (hd : d < 65536) : DigsD (l.set j d) := fun x hx => by
  rcases List.mem_or_eq_of_mem_set hx with h1 | rfl
  · exact h x h1
  · exact hd
theorem DigsD.at {l : List Nat} (h : DigsD l) (j : Nat) : l.getD j 0 < 65536 := by
  rw [List.getD_eq_getElem?_getD]
  cases e : l[j]? with
  | none => simp
  | some x => exact h x (List.mem_of_getElem? e)
end Go.Proofs.YtihggkmjalofiaaGreatDoor

/- The constants of the sum are the roots of the first primes; plain laws; no program in sight. -/
namespace Go.Proofs.YtihggkmjalofiaaGreatDoor

/-! ## the constants: the roots of the first primes -/
def root3S : List Nat := [5411319704, 6194414737, 7344290767, 8215976869, 9551921755, 10098905585, 11043570340, 11460697813, 12214315672, 13195500289, 13492127166, 14311783875, 14809980276, 15046980094, 15499789991, 16133124468, 16720292289, 16907126662, 17444216262, 17784676812, 17950125167, 18429019306, 18734950876, 19175934170, 19734090066, 20001703533, 20132865992, 20390182855, 20516441075, 20764397895, 21588763473, 21813078375, 22141143685, 22248366392, 22769593852, 22871018771, 23170020180, 23461497531, 23651862830, 23931792517, 24205322401, 24295138891, 24734567280, 24820601251, 24990902297, 25075189284, 25569408389, 26045227120, 26200031510, 26276752392, 26428864332, 26653801653, 26727943347, 27092625994, 27306805839, 27517677555, 27725365998, 27793908591, 27997534228, 28131656200, 28198240250, 28526537963, 28973835255, 29099129074]
def root2S : List Nat := [6074000999, 7439101573, 9603838834, 11363415354, 14244795007, 15485724812, 17708603819, 18721328409]
def kS : List W32 := root3S.map (BitVec.ofNat 32)
def hS : List W32 := root2S.map (BitVec.ofNat 32)
end Go.Proofs.YtihggkmjalofiaaGreatDoor

/- Patches in one piece, and the patches of a piece: plain law; no program in sight. -/
namespace Go.Proofs.YtihggkmjalofiaaGreatDoor
open Go.RowKit

/-- the patches in the order in which they hang on one another -/
def ordP (L : List PatV) : List PatV := patI L (ordR (relH L) (namesH L).length)
theorem ord_take_ok {L : List PatV} (h : IdxOk L) : ∀ k, k ≤ (ordR (relH L) (namesH L).length).length → IdxOk (patI L ((ordR (relH L) (namesH L).length).take k))
  | 0, _ => by rw [List.take_zero]; exact IdxOk.nil
  | k + 1, hk => by
    have ih := ord_take_ok h k (by omega)
    have hk' : k < (ordR (relH L) (namesH L).length).length := by omega
    obtain ⟨i, hi⟩ : ∃ i, (ordR (relH L) (namesH L).length)[k]? = some i := ⟨_, List.getElem?_eq_getElem hk'⟩
    obtain ⟨p, hp, hf⟩ := patI_at ((ord_all L i).1 (List.mem_of_getElem? hi))
    have ht : (ordR (relH L) (namesH L).length).take (k + 1) = (ordR (relH L) (namesH L).length).take k ++ [i] := by rw [List.take_add_one, hi]; rfl
    rw [ht, patI_snoc hp hf]
    exact ih.snoc (put_next h ih hp hf (nodup_take (ordR_told (relH_trans L)).1.nodup hi) fun j hr => ord_ahead h hi j hr)
theorem ordP_ok {L : List PatV} (h : IdxOk L) : IdxOk (ordP L) := by
  have h1 := ord_take_ok h _ (Nat.le_refl _)
  rw [List.take_length] at h1
  exact h1
theorem nodup_of_names {l : List PatV} (h : (l.map (·.1)).Nodup) : l.Nodup := List.Pairwise.imp (fun hab e => hab (congrArg _ e)) (List.pairwise_map.1 h)
theorem ordP_perm {L : List PatV} (h : IdxOk L) : (ordP L).Perm L :=
  (List.perm_ext_iff_of_nodup (nodup_of_names (ordP_ok h).nodup) (nodup_of_names h.nodup)).2 fun q => by
    unfold ordP
    rw [patI_mem]
    constructor
    · rintro ⟨i, _, _, hf⟩
      exact (findP_some hf).1
    · intro hq
      obtain ⟨a, ha, e⟩ := List.getElem_of_mem ((namesH_mem L q.1).2 ⟨q, hq, rfl⟩)
      exact ⟨a, (ord_all L a).2 ha, by rw [List.getElem?_eq_getElem ha, e], findP_nodup h.nodup hq⟩
theorem ordP_congr {L L' : List PatV} (hp : L'.Perm L) (h : (L.map (·.1)).Nodup) : ordP L' = ordP L := by
  have e : findP L' = findP L := funext fun d => findP_perm hp h d
  unfold ordP patI
  rw [relH_turn hp h, namesH_perm hp, e]
theorem ordP_twice {L : List PatV} (h : IdxOk L) : ordP (ordP L) = ordP L := ordP_congr (ordP_perm h) h.nodup
theorem ordP_len {L : List PatV} (h : IdxOk L) : (ordP L).length = L.length := (ordP_perm h).length_eq

/-- whether all patches can be put, one by one -/
def okI (l : List PatV) : Bool := (List.range l.length).all fun k => match l[k]? with | some p => decide (idxE (l.take k) p = 0) | none => true
theorem okI_at {l : List PatV} (h : okI l = true) {k : Nat} {p : PatV} (hk : l[k]? = some p) : idxE (l.take k) p = 0 := by
  unfold okI at h
  rw [List.all_eq_true] at h
  have h1 := h k (List.mem_range.2 (List.getElem?_eq_some_iff.1 hk).1)
  rw [hk] at h1
  simpa using h1
theorem okI_to {l : List PatV} (h : okI l = true) : ∀ k, k ≤ l.length → IdxOk (l.take k)
  | 0, _ => by rw [List.take_zero]; exact IdxOk.nil
  | k + 1, hk => by
    have e : l[k]? = some (l[k]'(by omega)) := List.getElem?_eq_getElem (by omega)
    rw [List.take_add_one, e]
    exact (okI_to h k (by omega)).snoc (okI_at h e)
theorem okI_iff {l : List PatV} : okI l = true ↔ IdxOk l := by
  constructor
  · intro h
    have h1 := okI_to h _ (Nat.le_refl _)
    rw [List.take_length] at h1
    exact h1
  · intro h
    unfold okI
    rw [List.all_eq_true]
    intro k _
    cases e : l[k]? with
    | none => rfl
    | some p => exact decide_eq_true (idxE_at h k p e)
theorem okI_no {l : List PatV} {k : Nat} {p : PatV} (hk : l[k]? = some p) (h : idxE (l.take k) p ≠ 0) : okI l = false := by
  cases e : okI l with
  | false => rfl
  | true => exact absurd (okI_at e hk) h

/-- patches in one piece, without the sum -/
def imgB (l : List PatV) : List UInt8 := vbytes l.length ++ (ordP l).flatMap patText
def plainI (l : List PatV) : List UInt8 × Nat := if okI l = true then (imgB l, 0) else ([], 1)
def imgS (l : List PatV) : List UInt8 := imgB l ++ sumS kS hS (imgB l)
def imgRd (n : Nat) : Rd (List PatV) := bindR (rNum n) patsRd
/-- what a piece without its sum tells -/
def readI (c : List UInt8) : List PatV × Nat := if rEnd (imgRd c.length c 0).2.1 (imgRd c.length c 0).2.2 = 0 then ((imgRd c.length c 0).1, 0) else ([], rEnd (imgRd c.length c 0).2.1 (imgRd c.length c 0).2.2)
def cutI (b : List UInt8) : List UInt8 := b.take (b.length - 32)
def decImg (b : List UInt8) : List PatV × Nat :=
  if b.length < 32 then ([], 2)
  else if sumS kS hS (cutI b) ≠ b.drop (b.length - 32) then ([], 5)
  else if (readI (cutI b)).2 ≠ 0 then ([], (readI (cutI b)).2)
  else if plainI (readI (cutI b)).1 = (cutI b, 0) then ((readI (cutI b)).1, 0)
  else ([], 4)
theorem patText_pos (p : PatV) : 1 ≤ (patText p).length := by
  unfold patText
  rw [List.length_append]
  have := vbytes_pos (patBytes p).length
  omega
theorem texts_ge (ps : List PatV) : ps.length ≤ (ps.flatMap patText).length := by
  induction ps with
  | nil => simp
  | cons p ps ih =>
    rw [List.flatMap_cons, List.length_append, List.length_cons]
    have := patText_pos p
    omega
theorem imgB_ge {l : List PatV} (h : IdxOk l) : l.length ≤ (imgB l).length := by
  have h1 := texts_ge (ordP l)
  rw [ordP_len h] at h1
  unfold imgB
  rw [List.length_append]
  omega
theorem read_img {l : List PatV} (h : IdxOk l) (hl : l.length ≤ 1000000) : readI (imgB l) = (ordP l, 0) := by
  have h1 := imgB_ge h
  have r1 := reads_num (most := (imgB l).length) (n := l.length) h1 (by omega)
  have r2 := reads_pats (ordP l) fun p hp => h.good p ((ordP_perm h).mem_iff.1 hp)
  rw [ordP_len h] at r2
  have r3 := (r1.bind (g := patsRd) r2 (sticky_pats)).all []
  rw [List.append_nil] at r3
  have r4 : imgRd (imgB l).length (imgB l) 0 = (ordP l, [], 0) := r3
  unfold readI
  rw [r4]
  rfl
theorem plain_ord {l : List PatV} (h : IdxOk l) : plainI (ordP l) = (imgB l, 0) := by
  unfold plainI
  rw [if_pos (okI_iff.2 (ordP_ok h))]
  unfold imgB
  rw [ordP_twice h, ordP_len h]
theorem cut_img (l : List PatV) : cutI (imgS l) = imgB l := by
  unfold cutI imgS
  rw [List.length_append, sumS_len, Nat.add_sub_cancel, List.take_left]
theorem dec_img {l : List PatV} (h : IdxOk l) (hl : l.length ≤ 1000000) : decImg (imgS l) = (ordP l, 0) := by
  have hL : (imgS l).length = (imgB l).length + 32 := by unfold imgS; rw [List.length_append, sumS_len]
  have hd : (imgS l).drop ((imgS l).length - 32) = sumS kS hS (imgB l) := by
    rw [hL, Nat.add_sub_cancel]
    unfold imgS
    rw [List.drop_left]
  unfold decImg
  rw [cut_img, if_neg (by omega), hd, if_neg (by simp), read_img h hl, if_neg (by simp), plain_ord h, if_pos rfl]
/-- a piece that is taken is the one that its patches make -/
theorem img_dec {b : List UInt8} {m : List PatV} (h : decImg b = (m, 0)) : IdxOk m ∧ imgS m = b := by
  unfold decImg at h
  by_cases h1 : b.length < 32
  · rw [if_pos h1] at h; exact absurd (congrArg Prod.snd h) (by simp)
  · rw [if_neg h1] at h
    by_cases h2 : sumS kS hS (cutI b) ≠ b.drop (b.length - 32)
    · rw [if_pos h2] at h; exact absurd (congrArg Prod.snd h) (by simp)
    · rw [if_neg h2] at h
      by_cases h3 : (readI (cutI b)).2 ≠ 0
      · rw [if_pos h3] at h; exact absurd (congrArg Prod.snd h) h3
      · rw [if_neg h3] at h
        by_cases h4 : plainI (readI (cutI b)).1 = (cutI b, 0)
        · rw [if_pos h4] at h
          obtain rfl : (readI (cutI b)).1 = m := congrArg Prod.fst h
          unfold plainI at h4
          by_cases h5 : okI (readI (cutI b)).1 = true
          · rw [if_pos h5] at h4
            have h6 : imgB (readI (cutI b)).1 = cutI b := congrArg Prod.fst h4
            refine ⟨okI_iff.1 h5, ?_⟩
            unfold imgS
            rw [h6, Classical.not_not.1 h2]
            exact List.take_append_drop _ _
          · rw [if_neg h5] at h4; exact absurd (congrArg Prod.snd h4) (by simp)
        · rw [if_neg h4] at h; exact absurd (congrArg Prod.snd h) (by simp)
theorem decImg_none {b : List UInt8} (h : (decImg b).2 ≠ 0) : (decImg b).1 = [] := by
  unfold decImg at h ⊢
  split
  · rfl
  · split
    · rfl
    · split
      · rfl
      · split
        · rename_i h1 h2 h3 h4
          rw [if_neg h1, if_neg h2, if_neg h3, if_pos h4] at h
          exact absurd rfl h
        · rfl
end Go.Proofs.YtihggkmjalofiaaGreatDoor

/- A message as it lies; whether a vector, and a message, may be: walked. -/
namespace Go.Proofs.YtihggkmjalofiaaGreatDoor
open Go.RowKit

def vecK (v : List Int) : List Value := v.map (Value.int .u16)
/-- a message's cells -/
def msgC (m : MsgV) (A : Option Addr) (n c : Nat) : List Value := .int .u8 ((m.1.1.val : Nat) : Int) :: .int .u8 ((m.1.2.1.val : Nat) : Int) :: .int .u8 ((m.1.2.2.val : Nat) : Int) :: (vecK m.2.1 ++ (encBl m.2.2.1 ++ [.slice A n c]))
/-- a message as it lies -/
structure MsgAt (w : World) (cs : List Value) (m : MsgV) : Prop where
  ok : MsgOk m
  ex : ∃ A c, cs = msgC m A m.2.2.2.length c ∧ PatsAt w A m.2.2.2.length m.2.2.2
  small : m.2.2.2.length ≤ maxLen
theorem MsgAt.ext {w w' : World} {cs : List Value} {m : MsgV} (h : MsgAt w cs m) (hb : Below w.heap.size w w') : MsgAt w' cs m := by
  obtain ⟨A, c, e, h1⟩ := h.ex
  exact ⟨h.ok, ⟨A, c, e, h1.ext hb⟩, h.small⟩
section
variable {w : World} {g : Nat} {t : TypeId} {m : MsgV} {A : Option Addr} {n c : Nat}
end
end Go.Proofs.YtihggkmjalofiaaGreatDoor

/- A vector that is written: walked; texts up to 100000 bytes. -/
namespace Go.Proofs.YtihggkmjalofiaaGreatDoor
open Go.RowKit

set_option maxRecDepth 100000 in
set_option maxHeartbeats 2000000 in
theorem wrTextM_any {w : World} {F : Nat → Prop} {g : Nat} {l : List UInt8} (h : WrAt w F g l) (s : ByteArray) (hl : l.length ≤ 900000) (hs : s.size ≤ 100000) :
    Calls Tryz.prog 75 #[.pointer (some ⟨g, 0, none⟩), .string s] w (WrRet w F g (l ++ (vbytes s.size ++ s.data.toList))) := by
  have H := Lib.hid h
  have hs0 : (0 : Int) ≤ (s.size : Int) := by omega
  have hs1 : (s.size : Int) ≤ 100000 := by omega
  have B0 : Hid (Below w.heap.size w (w.alloc (.cells #[.int .u64 (s.size : Int)] 76))) := below_new _ _
  have S0 : Hid (Sl (w.alloc (.cells #[.int .u64 (s.size : Int)] 76)) (w.alloc (.cells #[.int .u64 (s.size : Int)] 76)).heap.size 1 (some ⟨w.heap.size, 0, none⟩) 1 (encU [s.size])) := sl_fresh w _ 76 1 1 (encU [s.size]) rfl rfl
  have HN := Lib.hid (wrNum_any (H.out.ext B0.out) [s.size] (fun n hn => by rw [List.mem_singleton.1 hn]; omega) (some ⟨w.heap.size, 0, none⟩) 1 1 S0.out (fun b o e hf => by injection e with e; injection e with e _ _; have := H.out.lt b hf; omega) rfl (by omega) (by omega))
  clear h S0
  go_enter Tryz.func75, Tryz.ntmps75
  go_wp2_with fail
  refine HN.out.mono ?_
  rintro e w2 ⟨rfl, kp, F2, hW, hF⟩
  have KP : Hid (Kept F w w2) := (Kept.of_below B0.out).trans kp fun x e => .inl e
  have HF : Hid (∀ q, F2 q → F q ∨ w.heap.size ≤ q) := fun q e => (hF q e).elim .inl fun e => .inr (Nat.le_trans B0.out.size e)
  obtain ⟨s0, kk, oo, hs2⟩ := hW.ex
  have HS := Lib.hid hs2
  have fg := Lib.hid hW.fg
  have lt := Lib.hid hW.lt
  have K3 := Lib.hid kk
  have O3 := Lib.hid oo
  obtain ⟨n0, hn0⟩ : ∃ n0, n0 = (l ++ [s.size].flatMap vbytes).length := ⟨_, rfl⟩
  have hn0b : n0 ≤ 1000000 := by
    have h1 : (vbytes s.size).length ≤ 10 := vbytes_len 9 _ (by omega)
    rw [List.length_append, List.flatMap_cons, List.flatMap_nil, List.append_nil] at hn0
    omega
  rw [← hn0] at O3 oo
  replace hn0 := Lib.hid hn0
  obtain ⟨A0, c0, rfl, _, _⟩ := Sl.of_own oo
  have y0 : w2.cell? ⟨g, 0, none⟩ = some (.slice A0 n0 c0) := K3.out.cell 0
  clear kp hF hW hs2 kk oo HN H B0
  go_wp2_with (at_builtin; refine wpList_strB O3.out s (Nat.zero_le _) (by omega) (by rfl) (by rfl) ?_; intro v1 w6 own1 kp hv1; obtain ⟨A1, c1, rfl, _, _⟩ := Sl.of_own own1; have K6 : Hid (Blk w6 g 139 #[.slice A0 n0 c0]) := K3.out.keep (kp.block g K3.out.lt fun e => own_ne_blk O3.out K3.out (by decide) e rfl); have y6 : w6.cell? ⟨g, 0, none⟩ = some (.slice A0 n0 c0) := K6.out.cell 0; have f6 : w6.frozen? ⟨g, 0, none⟩ = false := K6.out.fr 0)
  have e1 : s.size = s.data.toList.length := rfl
  rw [strCells_enc, e1] at own1
  obtain ⟨p1, F3, p2, p3⟩ := WrAt.put hn0.out K3.out O3.out HS.out fg.out lt.out own1 kp hv1
  go_end0
  refine ⟨rfl, KP.out.trans p1 fun x e => HF.out x e, F3, ?_, fun q e => (p3 q e).elim (HF.out q) fun e => .inr (Nat.le_trans KP.out.size e)⟩
  rw [List.append_assoc] at p2
  simpa using p2
theorem wmNum {w : World} {B g : Nat} {l : List UInt8} {N : Nat → Prop} (h : WrB w B g l N) (hBw : B ≤ w.heap.size) (hNw : ∀ q, N q → q < w.heap.size) (ns : List Nat) (hn : ∀ n ∈ ns, n < 18446744073709551616) (hm : ns.length ≤ 1000) (hl : l.length ≤ 800000) (cs : Array Value) (hc : cs = (encU ns).toArray) :
    Calls Tryz.prog 70 #[.pointer (some ⟨g, 0, none⟩), .slice (some ⟨w.heap.size, 0, none⟩) ns.length ns.length] (w.alloc (.cells cs 76)) (WbRet w B g (l ++ ns.flatMap vbytes) N) := by
  have hb : Below w.heap.size w (w.alloc (.cells cs 76)) := below_new _ _
  obtain ⟨F, h1, h2, h3⟩ := h.ex
  exact (wrNum_any (h1.ext hb) ns hn _ ns.length _ (u64_sl w ns cs hc) (fun b o e hf => by injection e with e; injection e with e _ _; have := h1.lt b hf; omega) rfl (by omega) hm).mono fun _ _ h => wb_of hb h2 h3 hBw hNw h
theorem wmNum1 {w : World} {B g : Nat} {l : List UInt8} {N : Nat → Prop} (h : WrB w B g l N) (hBw : B ≤ w.heap.size) (hNw : ∀ q, N q → q < w.heap.size) (n : Nat) (hn : n < 18446744073709551616) (hl : l.length ≤ 800000) :
    Calls Tryz.prog 70 #[.pointer (some ⟨g, 0, none⟩), .slice (some ⟨w.heap.size, 0, none⟩) 1 1] (w.alloc (.cells #[.int .u64 (n : Int)] 76)) (WbRet w B g (l ++ vbytes n) N) := by
  have := wmNum h hBw hNw [n] (fun m hm => by rw [List.mem_singleton.1 hm]; exact hn) (by simp) hl #[.int .u64 (n : Int)] rfl
  simpa using this
theorem wmText {w : World} {B g : Nat} {l : List UInt8} {N : Nat → Prop} (h : WrB w B g l N) (hBw : B ≤ w.heap.size) (hNw : ∀ q, N q → q < w.heap.size) (s : ByteArray) (hs : s.size ≤ 100000) (hl : l.length ≤ 800000) :
    Calls Tryz.prog 75 #[.pointer (some ⟨g, 0, none⟩), .string s] w (WbRet w B g (l ++ (vbytes s.size ++ s.data.toList)) N) := by
  obtain ⟨F, h1, h2, h3⟩ := h.ex
  exact (wrTextM_any h1 s (by omega) hs).mono fun _ _ h => wb_of (Below.refl _ _) h2 h3 hBw hNw h
theorem convI64 {k : Nat} (hk : k < 9223372036854775808) (w : World) : (convert 3 76 (.int .i64 ((k : Nat) : Int))).run Tryz.prog w = .ok (.int .u64 ((k : Nat) : Int)) w := by
  have e2 : IntKind.u64.wrap ((k : Nat) : Int) = ((k : Nat) : Int) := IntWalk.u64_in _ (by omega)
  conv => rhs; rw [← e2]
  simp [go_sem]
end Go.Proofs.YtihggkmjalofiaaGreatDoor

/- What is spoilt is told to be: plain law; no program in sight. -/
namespace Go.Proofs.YtihggkmjalofiaaGreatDoor

/-- the bits of bytes, the highest one of each first -/
def bitsU (l : List UInt8) : List Bool := (toB8 l).flatMap bitsB
/-- bytes that differ in 32 bits in a row at most -/
structure Near (l m : List UInt8) (at_ : Int) : Prop where
  len : m.length = l.length
  win : ∀ p : Nat, (bitsU m)[p]? ≠ (bitsU l)[p]? → at_ ≤ (p : Int) ∧ (p : Int) < at_ + 32
theorem Near.refl (l : List UInt8) (a : Int) : Near l l a := ⟨rfl, fun _ h => absurd rfl h⟩
end Go.Proofs.YtihggkmjalofiaaGreatDoor
