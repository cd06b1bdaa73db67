/- Texts of general use, one behind another. -/
import Derived.Test.YtihggkmjalofiaaGreatDoorBufs
import Derived.Test.YtihggkmjalofiaaGreatDoorPaws
import Derived.Test.YtihggkmjalofiaaGreatDoorOps
import Derived.Test.YtihggkmjalofiaaGreatDoorPats
import Derived.Test.YtihggkmjalofiaaGreatDoorPatq
import Derived.Test.YtihggkmjalofiaaGreatDoorPato
import Derived.Test.YtihggkmjalofiaaGreatDoorIdxw
import Derived.Test.YtihggkmjalofiaaGreatDoorVids
import Derived.Test.YtihggkmjalofiaaGreatDoorKinds
import Derived.Test.YtihggkmjalofiaaGreatDoorPatr

/- A patch's bytes, and the patch that bytes tell: plain law; no program in sight. -/
namespace Go.Proofs.YtihggkmjalofiaaGreatDoor

/-- reading: what is told, what is left, and what was wrong -/
abbrev Rd (α : Type) := List UInt8 → Nat → α × List UInt8 × Nat
def pureR {α : Type} (a : α) : Rd α := fun l e => (a, l, e)
def bindR {α β : Type} (f : Rd α) (g : α → Rd β) : Rd β := fun l e => g (f l e).1 (f l e).2.1 (f l e).2.2
/-- an error stays -/
def Sticky {α : Type} (f : Rd α) : Prop := ∀ l e, e ≠ 0 → (f l e).2.2 = e
/-- it reads just these bytes, and not fewer -/
structure Reads {α : Type} (f : Rd α) (a : α) (bs : List UInt8) : Prop where
  all : ∀ rest, f (bs ++ rest) 0 = (a, rest, 0)
  cut : ∀ m, m < bs.length → (f (bs.take m) 0).2.2 = 2
/-- what is told had these bytes -/
def Told1 {α : Type} (f : Rd α) (enc : α → List UInt8) : Prop := ∀ l e a l', f l e = (a, l', 0) → e = 0 ∧ l = enc a ++ l'
theorem sticky_pure {α : Type} (a : α) : Sticky (pureR a) := fun _ _ _ => rfl
theorem Sticky.bind {α β : Type} {f : Rd α} {g : α → Rd β} (hf : Sticky f) (hg : ∀ a, Sticky (g a)) : Sticky (bindR f g) := fun l e h => by
  unfold bindR
  rw [hg _ _ _ (by rw [hf l e h]; exact h), hf l e h]
theorem reads_pure {α : Type} (a : α) : Reads (pureR a) a [] := ⟨fun _ => rfl, fun m h => by simp at h⟩
theorem Reads.bind {α β : Type} {f : Rd α} {g : α → Rd β} {a : α} {b : β} {bs cs : List UInt8} (hf : Reads f a bs) (hg : Reads (g a) b cs) (hs : ∀ a, Sticky (g a)) : Reads (bindR f g) b (bs ++ cs) := by
  refine ⟨fun rest => ?_, fun m hm => ?_⟩
  · unfold bindR
    rw [List.append_assoc, hf.all]
    exact hg.all rest
  · unfold bindR
    rcases Nat.lt_or_ge m bs.length with h | h
    · rw [List.take_append_of_le_length (by omega)]
      have h2 := hf.cut m h
      rw [hs _ _ _ (by rw [h2]; decide), h2]
    · rw [List.take_append, List.take_of_length_le h, hf.all]
      exact hg.cut _ (by rw [List.length_append] at hm; omega)
theorem Told1.bind {α β : Type} {f : Rd α} {g : α → Rd β} {ea : α → List UInt8} {eb : β → List UInt8} {es : α → β → List UInt8} (hf : Told1 f ea) (hg : ∀ a l e b l', g a l e = (b, l', 0) → e = 0 ∧ l = es a b ++ l' ∧ ea a ++ es a b = eb b) : Told1 (bindR f g) eb := fun l e b l' h => by
  unfold bindR at h
  obtain ⟨h1, h2, h3⟩ := hg _ _ _ _ _ h
  obtain ⟨h4, h5⟩ := hf l e (f l e).1 (f l e).2.1 (by rw [← h1])
  refine ⟨h4, ?_⟩
  rw [h5, h2, ← List.append_assoc, h3]
theorem sticky_num (most : Nat) : Sticky (rNum most) := fun l e h => by unfold rNum; rw [if_pos h]
theorem sticky_text (most : Nat) : Sticky (rText most) := fun l e h => by unfold rText; rw [if_pos h]
theorem reads_byte {most : Nat} {x : UInt8} (h : x.toNat ≤ most) : Reads (rByte most) x.toNat [x] := by
  refine ⟨fun rest => rByte_yes (by omega), fun m hm => ?_⟩
  have : m = 0 := by simpa using hm
  subst this
  rfl
theorem reads_num {most n : Nat} (h : n ≤ most) (h64 : n < 2 ^ 64) : Reads (rNum most) n (vbytes n) := by
  refine ⟨fun rest => ?_, fun m hm => ?_⟩
  · unfold rNum
    rw [if_neg (by simp), vread_bytes h64]
    simp only [ne_eq, not_true_eq_false, if_false]
    rw [if_neg (by omega), List.drop_left]
  · unfold rNum
    rw [if_neg (by simp), vread_cut h64 hm]
    rfl
theorem reads_text {most : Nat} {s : List UInt8} (h : s.length ≤ most) (h64 : s.length < 2 ^ 64) : Reads (rText most) s (vbytes s.length ++ s) := by
  refine ⟨fun rest => ?_, fun m hm => ?_⟩
  · unfold rText
    rw [if_neg (by simp), List.append_assoc, vread_bytes h64]
    simp only [ne_eq, not_true_eq_false, if_false]
    rw [if_neg (by omega), if_neg (by simp), List.drop_left, List.take_left, List.drop_left]
  · unfold rText
    rw [if_neg (by simp)]
    rcases Nat.lt_or_ge m (vbytes s.length).length with hl | hl
    · rw [List.take_append_of_le_length (by omega), vread_cut h64 hl]
      rfl
    · rw [List.take_append, List.take_of_length_le hl, vread_bytes h64]
      simp only [ne_eq, not_true_eq_false, if_false]
      rw [if_neg (by omega), if_pos (by rw [List.length_append] at hm ⊢; rw [List.length_take]; omega)]
theorem told_byte (most : Nat) {l : List UInt8} {e n : Nat} {l' : List UInt8} (h : rByte most l e = (n, l', 0)) : e = 0 ∧ l = UInt8.ofNat n :: l' ∧ n ≤ most ∧ n < 256 := by
  by_cases h0 : e = 0
  · subst h0
    cases l with
    | nil => rw [rByte_nil] at h; simp at h
    | cons x t =>
      by_cases hm : most < x.toNat
      · rw [rByte_more hm] at h; simp at h
      · rw [rByte_yes hm] at h
        injection h with h1 h2
        injection h2 with h2 _
        subst h1 h2
        exact ⟨rfl, by rw [UInt8.ofNat_toNat], by omega, x.toNat_lt⟩
  · rw [rByte_err h0] at h
    injection h with _ h2
    injection h2 with _ h2
    exact absurd h2 h0
theorem told_num (most : Nat) {l : List UInt8} {e n : Nat} {l' : List UInt8} (h : rNum most l e = (n, l', 0)) : e = 0 ∧ l = vbytes n ++ l' ∧ n ≤ most := by
  unfold rNum at h
  split at h
  · rename_i h0
    injection h with _ h2
    injection h2 with _ h2
    exact absurd h2 h0
  · rename_i h0
    split at h
    · rename_i h1
      injection h with _ h2
      injection h2 with _ h2
      exact absurd h2 h1
    · rename_i h1
      split at h
      · injection h with _ h2
        injection h2 with _ h2
        cases h2
      · rename_i hm
        injection h with ha h2
        injection h2 with hb _
        have h3 : (vread l).2.2 = 0 := by simpa using h1
        obtain ⟨_, h5, h6⟩ := vread_told (l := l) (n := (vread l).1) (k := (vread l).2.1) (by rw [← h3])
        rw [ha] at h6 hm
        rw [hb] at h6
        exact ⟨by simpa using h0, h6, by omega⟩
theorem told_text (most : Nat) {l : List UInt8} {e : Nat} {s : List UInt8} {l' : List UInt8} (h : rText most l e = (s, l', 0)) : e = 0 ∧ l = (vbytes s.length ++ s) ++ l' ∧ s.length ≤ most := by
  unfold rText at h
  split at h
  · rename_i h0
    injection h with _ h2
    injection h2 with _ h2
    exact absurd h2 h0
  · rename_i h0
    split at h
    · rename_i h1
      injection h with _ h2
      injection h2 with _ h2
      exact absurd h2 h1
    · rename_i h1
      split at h
      · injection h with _ h2
        injection h2 with _ h2
        cases h2
      · rename_i hm
        split at h
        · injection h with _ h2
          injection h2 with _ h2
          cases h2
        · rename_i hs
          injection h with ha h2
          injection h2 with hb _
          have h3 : (vread l).2.2 = 0 := by simpa using h1
          obtain ⟨_, h5, h6⟩ := vread_told (l := l) (n := (vread l).1) (k := (vread l).2.1) (by rw [← h3])
          have hl : s.length = (vread l).1 := by rw [← ha, List.length_take, List.length_drop]; omega
          rw [← hl] at h6
          refine ⟨by simpa using h0, ?_, by omega⟩
          have hD : l.drop (vread l).2.1 = s ++ l' := by rw [← ha, ← hb, List.take_append_drop]
          rw [List.append_assoc, ← hD]
          exact h6
/-- a vertex as a number, and back -/
def packN (v : VidV) : Nat := v.1.1.val * 16777216 + v.1.2.val * 256 + v.2.val
def unpackN (n : Nat) : VidV := ((⟨n / 16777216 % 256, Nat.mod_lt _ (by omega)⟩, ⟨n / 256 % 65536, Nat.mod_lt _ (by omega)⟩), ⟨n % 256, Nat.mod_lt _ (by omega)⟩)
theorem packN_lt (v : VidV) : packN v < 4294967296 := by
  have h1 := v.1.1.isLt
  have h2 := v.1.2.isLt
  have h3 := v.2.isLt
  unfold packN
  omega
theorem unpack_pack (v : VidV) : unpackN (packN v) = v := by
  have h1 := v.1.1.isLt
  have h2 := v.1.2.isLt
  have h3 := v.2.isLt
  unfold unpackN packN
  refine Prod.ext (Prod.ext (Fin.ext ?_) (Fin.ext ?_)) (Fin.ext ?_)
  · show _ / 16777216 % 256 = _; omega
  · show _ / 256 % 65536 = _; omega
  · show _ % 256 = _; omega
theorem pack_unpack {n : Nat} (h : n < 4294967296) : packN (unpackN n) = n := by
  unfold packN unpackN
  show n / 16777216 % 256 * 16777216 + n / 256 % 65536 * 256 + n % 256 = n
  omega
/-- an operation's bytes -/
def namedK (k : Nat) : Bool := decide (k = 2 ∨ k = 3)
def opBytes (o : OpV) : List UInt8 := UInt8.ofNat o.1.val :: ((refsO o).flatMap (fun v => vbytes (packN v)) ++ if namedK o.1.val = true then vbytes o.2.2.2.size ++ o.2.2.2.data.toList else [])
def patBytes (p : PatV) : List UInt8 := UInt8.ofNat p.1.1.val :: (vbytes p.1.2.val ++ (vbytes p.2.2.length ++ p.2.2.flatMap opBytes))
/-- the vertices of an operation are read -/
def refsR (k : Nat) : Rd (VidV × VidV) :=
  if k = 2 ∨ k = 3 ∨ k = 5 then bindR (rNum 4294967295) fun n => pureR (unpackN n, vid0)
  else if k = 4 then bindR (rNum 4294967295) fun n => bindR (rNum 4294967295) fun m => pureR (unpackN n, unpackN m)
  else pureR (vid0, vid0)
def textR (k : Nat) : Rd (List UInt8) := if namedK k = true then rText 60 else pureR []
def kindF (k : Nat) : Fin 256 := ⟨k % 256, Nat.mod_lt _ (by omega)⟩
def oneRd : Rd OpV := bindR (rByte 5) fun k => bindR (refsR k) fun v => bindR (textR k) fun t => pureR (kindF k, v.1, v.2, bytesOf t)
def opsRd : Nat → Rd (List OpV)
  | 0 => pureR []
  | n + 1 => fun l e => if e ≠ 0 then ([], l, e) else bindR oneRd (fun o => bindR (opsRd n) fun os => pureR (o :: os)) l e
def headR2 : Rd (PidV × List OpV) := bindR (rByte 255) fun a => bindR (rNum 65535) fun s => bindR (rNum 200) fun n => bindR (opsRd n) fun os => pureR ((kindF a, ⟨s % 65536, Nat.mod_lt _ (by omega)⟩), os)
/-- the patch that bytes tell -/
def decP (b : List UInt8) : PatV × Nat :=
  if rEnd (headR2 b 0).2.1 (headR2 b 0).2.2 ≠ 0 then (zeroPat, rEnd (headR2 b 0).2.1 (headR2 b 0).2.2)
  else if makeN18 (headR2 b 0).1.1 (headR2 b 0).1.2 ≠ 0 then (zeroPat, 4) else (makeV18 (headR2 b 0).1.1 (headR2 b 0).1.2, 0)
theorem sticky_refs (k : Nat) : Sticky (refsR k) := by
  unfold refsR
  split
  · exact (sticky_num _).bind fun _ => sticky_pure _
  · split
    · exact (sticky_num _).bind fun _ => (sticky_num _).bind fun _ => sticky_pure _
    · exact sticky_pure _
theorem sticky_textR (k : Nat) : Sticky (textR k) := by
  unfold textR
  split
  · exact sticky_text _
  · exact sticky_pure _
theorem sticky_ops : ∀ n, Sticky (opsRd n)
  | 0 => sticky_pure _
  | n + 1 => fun l e h => by unfold opsRd; rw [if_pos h]
/-- an operation whose bytes tell it -/
def opPlain (o : OpV) : Prop := o.1.val ≤ 5 ∧ (o.1.val ≠ 4 → o.2.2.1 = vid0) ∧ (refsO o = [] → o.2.1 = vid0) ∧ (namedK o.1.val = false → o.2.2.2.data.toList = []) ∧ o.2.2.2.size ≤ 60
theorem reads_refs (o : OpV) (h : opPlain o) : Reads (refsR o.1.val) (o.2.1, o.2.2.1) ((refsO o).flatMap fun v => vbytes (packN v)) := by
  obtain ⟨_, h4, h0, _⟩ := h
  have hn : ∀ v : VidV, Reads (rNum 4294967295) (packN v) (vbytes (packN v)) := fun v => reads_num (by have := packN_lt v; omega) (by have := packN_lt v; omega)
  unfold refsR refsO at *
  by_cases h1 : o.1.val = 2 ∨ o.1.val = 3 ∨ o.1.val = 5
  · rw [if_pos h1, if_pos h1]
    have := (hn o.2.1).bind (reads_pure (unpackN (packN o.2.1), vid0)) (fun a => sticky_pure (unpackN a, vid0))
    rw [unpack_pack] at this
    rw [h4 (by omega)]
    simpa using this
  · rw [if_neg h1, if_neg h1] at *
    by_cases h2 : o.1.val = 4
    · rw [if_pos h2, if_pos h2]
      have h3 : Reads (bindR (rNum 4294967295) fun m => pureR (unpackN (packN o.2.1), unpackN m)) (o.2.1, o.2.2.1) (vbytes (packN o.2.2.1) ++ []) := by
        have := (hn o.2.2.1).bind (reads_pure (unpackN (packN o.2.1), unpackN (packN o.2.2.1))) (fun a => sticky_pure (unpackN (packN o.2.1), unpackN a))
        rw [unpack_pack, unpack_pack] at this
        rw [unpack_pack]
        exact this
      have := (hn o.2.1).bind h3 (fun a => (sticky_num _).bind fun m => sticky_pure (unpackN a, unpackN m))
      simpa using this
    · rw [if_neg h2, if_neg h2] at *
      rw [h4 h2, h0 rfl]
      exact reads_pure _
theorem bytes_of (s : ByteArray) : bytesOf s.data.toList = s := by
  unfold bytesOf
  apply ByteArray.ext
  simp
theorem reads_textR (o : OpV) (h : opPlain o) : Reads (textR o.1.val) o.2.2.2.data.toList (if namedK o.1.val = true then vbytes o.2.2.2.size ++ o.2.2.2.data.toList else []) := by
  obtain ⟨_, _, _, h1, h2⟩ := h
  unfold textR
  by_cases hk : namedK o.1.val = true
  · rw [if_pos hk, if_pos hk]
    have e : o.2.2.2.size = o.2.2.2.data.toList.length := rfl
    rw [e] at h2 ⊢
    exact reads_text h2 (by omega)
  · rw [if_neg hk, if_neg hk, h1 (by simpa using hk)]
    exact reads_pure _
theorem kindF_val (k : Fin 256) : kindF k.val = k := Fin.ext (Nat.mod_eq_of_lt k.isLt)
theorem reads_one (o : OpV) (h : opPlain o) : Reads oneRd o (opBytes o) := by
  have hk := h.1
  have hx := ofNat_toNat (n := o.1.val) o.1.isLt
  have h1 : Reads (rByte 5) o.1.val [UInt8.ofNat o.1.val] := by
    have := reads_byte (most := 5) (x := UInt8.ofNat o.1.val) (by rw [hx]; exact hk)
    rwa [hx] at this
  have h3 := (reads_textR o h).bind (reads_pure (kindF o.1.val, o.2.1, o.2.2.1, bytesOf o.2.2.2.data.toList)) (fun t => sticky_pure (kindF o.1.val, o.2.1, o.2.2.1, bytesOf t))
  have h2 := (reads_refs o h).bind (g := fun v => bindR (textR o.1.val) fun t => pureR (kindF o.1.val, v.1, v.2, bytesOf t)) h3 (fun v => (sticky_textR _).bind fun _ => sticky_pure _)
  have h0 := h1.bind (g := fun k => bindR (refsR k) fun v => bindR (textR k) fun t => pureR (kindF k, v.1, v.2, bytesOf t)) h2 (fun k => (sticky_refs k).bind fun _ => (sticky_textR k).bind fun _ => sticky_pure _)
  rw [kindF_val, bytes_of] at h0
  unfold oneRd opBytes
  simpa using h0
theorem reads_ops : ∀ (os : List OpV), (∀ o ∈ os, opPlain o) → Reads (opsRd os.length) os (os.flatMap opBytes)
  | [], _ => reads_pure _
  | o :: os, h => by
    have h1 := reads_one o (h o (by simp))
    have h2 := (reads_ops os fun x hx => h x (by simp [hx])).bind (reads_pure (o :: os)) (fun x => sticky_pure (o :: x))
    have h3 := h1.bind (g := fun o => bindR (opsRd os.length) fun x => pureR (o :: x)) h2 (fun a => (sticky_ops _).bind fun _ => sticky_pure _)
    rw [List.flatMap_cons]
    simp only [List.append_nil] at h3
    exact ⟨fun rest => by rw [List.length_cons]; unfold opsRd; rw [if_neg (by simp)]; exact h3.all rest, fun m hm => by rw [List.length_cons]; unfold opsRd; rw [if_neg (by simp)]; exact h3.cut m hm⟩
theorem reads_head (id : PidV) (os : List OpV) (h : ∀ o ∈ os, opPlain o) (hl : os.length ≤ 200) : Reads headR2 (id, os) (UInt8.ofNat id.1.val :: (vbytes id.2.val ++ (vbytes os.length ++ os.flatMap opBytes))) := by
  have hx := ofNat_toNat (n := id.1.val) id.1.isLt
  have hs := id.2.isLt
  have h1 : Reads (rByte 255) id.1.val [UInt8.ofNat id.1.val] := by
    have := reads_byte (most := 255) (x := UInt8.ofNat id.1.val) (by rw [hx]; have := id.1.isLt; omega)
    rwa [hx] at this
  have e : ((kindF id.1.val, (⟨id.2.val % 65536, Nat.mod_lt _ (by omega)⟩ : Fin 65536)) : PidV) = id := Prod.ext (kindF_val _) (Fin.ext (Nat.mod_eq_of_lt hs))
  have h4 := (reads_ops os h).bind (reads_pure (((kindF id.1.val, (⟨id.2.val % 65536, Nat.mod_lt _ (by omega)⟩ : Fin 65536)) : PidV), os)) (fun x => sticky_pure (((kindF id.1.val, (⟨id.2.val % 65536, Nat.mod_lt _ (by omega)⟩ : Fin 65536)) : PidV), x))
  have h3 := (reads_num (most := 200) hl (by omega)).bind (g := fun n => bindR (opsRd n) fun os => pureR (((kindF id.1.val, (⟨id.2.val % 65536, Nat.mod_lt _ (by omega)⟩ : Fin 65536)) : PidV), os)) h4 (fun n => (sticky_ops n).bind fun _ => sticky_pure _)
  have h2 := (reads_num (most := 65535) (n := id.2.val) (by omega) (by omega)).bind (g := fun s => bindR (rNum 200) fun n => bindR (opsRd n) fun os => pureR (((kindF id.1.val, (⟨s % 65536, Nat.mod_lt _ (by omega)⟩ : Fin 65536)) : PidV), os)) h3 (fun s => (sticky_num _).bind fun n => (sticky_ops n).bind fun _ => sticky_pure _)
  have h0 := h1.bind (g := fun a => bindR (rNum 65535) fun s => bindR (rNum 200) fun n => bindR (opsRd n) fun os => pureR (((kindF a, (⟨s % 65536, Nat.mod_lt _ (by omega)⟩ : Fin 65536)) : PidV), os)) h2 (fun a => (sticky_num _).bind fun s => (sticky_num _).bind fun n => (sticky_ops n).bind fun _ => sticky_pure _)
  rw [e] at h0
  unfold headR2
  simpa using h0
theorem veq_zero {v : VidV} (h : veqV (oldV v) ⟨0, 0, 0⟩ = true) : v = vid0 := by
  unfold veqV oldV at h
  simp only [Bool.and_eq_true, decide_eq_true_eq] at h
  refine Prod.ext (Prod.ext (Fin.ext ?_) (Fin.ext ?_)) (Fin.ext ?_)
  · show v.1.1.val = 0; omega
  · show v.1.2.val = 0; omega
  · show v.2.val = 0; omega
theorem empty_list {t : ByteArray} (h : t.toList.isEmpty = true) : t.data.toList = [] ∧ t.size = 0 := by
  rw [Lib.toList_data] at h
  have h1 : t.data.toList = [] := List.isEmpty_iff.1 h
  refine ⟨h1, ?_⟩
  have e : t.size = t.data.toList.length := rfl
  rw [e, h1]; rfl
theorem plain_of {id : PidV} {i : Int} {o : OpV} (h : goodO id i o = true) : opPlain o := by
  unfold goodO opGood at h
  rw [Bool.and_eq_true] at h
  have h2 := h.2
  unfold tailOk at h2
  unfold opPlain
  split at h2
  · rename_i hk
    simp only [Bool.and_eq_true] at h2
    obtain ⟨e1, e2⟩ := empty_list h2.2.2
    exact ⟨by omega, fun _ => veq_zero h2.1, fun _ => veq_zero h2.2.1, fun _ => e1, by omega⟩
  · split at h2
    · rename_i hk
      simp only [Bool.and_eq_true] at h2
      have hk2 : o.1.val = 2 := by omega
      have hn := h2.2
      unfold nameB at hn
      simp only [Bool.and_eq_true, decide_eq_true_eq] at hn
      refine ⟨by omega, fun _ => veq_zero h2.1, fun h => ?_, fun h => ?_, ?_⟩
      · unfold refsO at h; rw [if_pos (by omega)] at h; cases h
      · unfold namedK at h; rw [hk2] at h; cases h
      · have e : o.2.2.2.size = o.2.2.2.data.toList.length := rfl
        omega
    · split at h2
      · rename_i hk
        simp only [Bool.and_eq_true] at h2
        have hk3 : o.1.val = 3 := by omega
        have hn := h2.2
        unfold lineB at hn
        simp only [Bool.and_eq_true, decide_eq_true_eq] at hn
        refine ⟨by omega, fun _ => veq_zero h2.1, fun h => ?_, fun h => ?_, ?_⟩
        · unfold refsO at h; rw [if_pos (by omega)] at h; cases h
        · unfold namedK at h; rw [hk3] at h; cases h
        · have e : o.2.2.2.size = o.2.2.2.data.toList.length := rfl
          omega
      · split at h2
        · rename_i hk
          simp only [Bool.and_eq_true] at h2
          have hk4 : o.1.val = 4 := by omega
          obtain ⟨e1, e2⟩ := empty_list h2.2
          refine ⟨by omega, fun h => absurd hk4 h, fun h => ?_, fun _ => e1, by omega⟩
          unfold refsO at h; rw [if_neg (by omega), if_pos hk4] at h; cases h
        · split at h2
          · rename_i hk
            simp only [Bool.and_eq_true] at h2
            have hk5 : o.1.val = 5 := by omega
            obtain ⟨e1, e2⟩ := empty_list h2.2.2
            refine ⟨by omega, fun _ => veq_zero h2.1, fun h => ?_, fun _ => e1, by omega⟩
            unfold refsO at h; rw [if_pos (by omega)] at h; cases h
          · cases h2
theorem pat_plain {p : PatV} (h : patB p = true) : ∀ o ∈ p.2.2, opPlain o := fun o ho => by
  unfold patB at h
  simp only [Bool.and_eq_true] at h
  obtain ⟨k, hk, rfl⟩ := List.getElem_of_mem ho
  have h1 := onesB_get h.2.2.2.2 hk (List.getElem?_eq_getElem hk)
  unfold oneR at h1
  rw [Bool.and_eq_true] at h1
  exact plain_of h1.1
theorem patB_len200 {p : PatV} (h : patB p = true) : p.2.2.length ≤ 200 := by
  unfold patB at h
  simp only [Bool.and_eq_true, decide_eq_true_eq] at h
  exact h.2.2.1
theorem patB_deps {p : PatV} (h : patB p = true) : (p.1, depsV p.1 p.2.2, p.2.2) = p := by
  unfold patB at h
  simp only [Bool.and_eq_true, decide_eq_true_eq] at h
  rw [← h.2.2.2.1]
/-- what is encoded is decoded as it was -/
theorem dec_enc {p : PatV} (h : patB p = true) : decP (patBytes p) = (p, 0) := by
  have hr := (reads_head p.1 p.2.2 (pat_plain h) (patB_len200 h)).all []
  rw [List.append_nil] at hr
  unfold decP
  have e : headR2 (patBytes p) 0 = ((p.1, p.2.2), [], 0) := hr
  rw [e]
  have hz : rEnd [] 0 = 0 := rfl
  have hm : makeN18 p.1 p.2.2 = 0 := by unfold makeN18; rw [patB_deps h, if_pos h]
  have hv : makeV18 p.1 p.2.2 = p := by unfold makeV18; rw [patB_deps h, if_pos h]
  simp only [hz, hm, hv, ne_eq, not_true_eq_false, if_false]
/-- what is told of an operation had its bytes -/
theorem told_refs {k : Nat} {l : List UInt8} {e : Nat} {v : VidV × VidV} {l' : List UInt8} (h : refsR k l e = (v, l', 0)) :
    e = 0 ∧ l = ((refsO ((kindF k, v.1, v.2, ByteArray.empty) : OpV)).flatMap fun v => vbytes (packN v)) ++ l' ∨ 256 ≤ k := by
  rcases Nat.lt_or_ge k 256 with hk | hk
  · refine .inl ?_
    have hkv : (kindF k).val = k := Nat.mod_eq_of_lt hk
    unfold refsR at h
    unfold refsO
    rw [hkv]
    by_cases h1 : k = 2 ∨ k = 3 ∨ k = 5
    · rw [if_pos h1] at h ⊢
      unfold bindR pureR at h
      obtain ⟨n, m, e2, hn⟩ : ∃ x y z, rNum 4294967295 l e = (x, y, z) := ⟨_, _, _, rfl⟩
      rw [hn] at h
      simp only [Prod.mk.injEq] at h
      obtain ⟨rfl, rfl, rfl⟩ := h
      obtain ⟨a, b, c⟩ := told_num _ hn
      refine ⟨a, ?_⟩
      rw [b]
      simp [pack_unpack (n := n) (by omega)]
    · rw [if_neg h1] at h ⊢
      by_cases h2 : k = 4
      · rw [if_pos h2] at h ⊢
        unfold bindR pureR at h
        obtain ⟨n, m, e2, hn⟩ : ∃ x y z, rNum 4294967295 l e = (x, y, z) := ⟨_, _, _, rfl⟩
        rw [hn] at h
        dsimp only at h
        obtain ⟨n2, m2, e3, hn2⟩ : ∃ x y z, rNum 4294967295 m e2 = (x, y, z) := ⟨_, _, _, rfl⟩
        rw [hn2] at h
        simp only [Prod.mk.injEq] at h
        obtain ⟨rfl, rfl, rfl⟩ := h
        obtain ⟨rfl, b2, c2⟩ := told_num _ hn2
        obtain ⟨a, b, c⟩ := told_num _ hn
        refine ⟨a, ?_⟩
        rw [b, b2]
        simp [pack_unpack (n := n) (by omega), pack_unpack (n := n2) (by omega)]
      · rw [if_neg h2] at h ⊢
        unfold pureR at h
        simp only [Prod.mk.injEq] at h
        obtain ⟨rfl, rfl, rfl⟩ := h
        exact ⟨rfl, rfl⟩
  · exact .inr hk
theorem told_one {l : List UInt8} {e : Nat} {o : OpV} {l' : List UInt8} (h : oneRd l e = (o, l', 0)) : e = 0 ∧ l = opBytes o ++ l' ∧ o.2.2.2.size ≤ 60 := by
  unfold oneRd bindR pureR at h
  obtain ⟨k, l1, e1, h1⟩ : ∃ x y z, rByte 5 l e = (x, y, z) := ⟨_, _, _, rfl⟩
  rw [h1] at h
  dsimp only at h
  obtain ⟨v, l2, e2, h2⟩ : ∃ x y z, refsR k l1 e1 = (x, y, z) := ⟨_, _, _, rfl⟩
  rw [h2] at h
  dsimp only at h
  obtain ⟨t, l3, e3, h3⟩ : ∃ x y z, textR k l2 e2 = (x, y, z) := ⟨_, _, _, rfl⟩
  rw [h3] at h
  simp only [Prod.mk.injEq] at h
  obtain ⟨rfl, rfl, rfl⟩ := h
  have ht : e2 = 0 ∧ l2 = (if namedK k = true then vbytes t.length ++ t else []) ++ l3 ∧ t.length ≤ 60 := by
    unfold textR at h3
    split at h3
    · rename_i hk
      rw [if_pos hk]
      exact told_text _ h3
    · rename_i hk
      unfold pureR at h3
      simp only [Prod.mk.injEq] at h3
      obtain ⟨rfl, rfl, rfl⟩ := h3
      rw [if_neg hk]
      exact ⟨rfl, rfl, by simp⟩
  obtain ⟨rfl, ht2, ht3⟩ := ht
  rcases told_refs h2 with ⟨rfl, hr⟩ | hk
  · obtain ⟨a, b, c, d⟩ := told_byte _ h1
    refine ⟨a, ?_, ht3⟩
    have hkv : (kindF k).val = k := Nat.mod_eq_of_lt d
    unfold opBytes
    rw [b, hr, ht2]
    show _ = UInt8.ofNat (kindF k).val :: ((refsO ((kindF k, v.1, v.2, bytesOf t) : OpV)).flatMap (fun v => vbytes (packN v)) ++ if namedK (kindF k).val = true then vbytes t.length ++ t else []) ++ l3
    rw [hkv]
    simp only [List.cons_append, List.append_assoc]
    rfl
  · exfalso
    have he1 : e1 = 0 := by
      refine Classical.byContradiction fun hc => ?_
      have := sticky_refs k l1 e1 hc
      rw [h2] at this
      exact hc this.symm
    subst he1
    obtain ⟨_, _, _, d⟩ := told_byte _ h1
    omega
theorem told_ops : ∀ (n : Nat) (l : List UInt8) (e : Nat) (os : List OpV) (l' : List UInt8), opsRd n l e = (os, l', 0) → e = 0 ∧ l = os.flatMap opBytes ++ l' ∧ os.length = n ∧ ∀ o ∈ os, o.2.2.2.size ≤ 60
  | 0, l, e, os, l', h => by
    unfold opsRd pureR at h
    simp only [Prod.mk.injEq] at h
    obtain ⟨rfl, rfl, rfl⟩ := h
    exact ⟨rfl, rfl, rfl, by simp⟩
  | n + 1, l, e, os, l', h => by
    unfold opsRd at h
    split at h
    · rename_i h0
      simp only [Prod.mk.injEq] at h
      exact absurd h.2.2 h0
    · rename_i h0
      unfold bindR pureR at h
      obtain ⟨o, l1, e1, h1⟩ : ∃ x y z, oneRd l e = (x, y, z) := ⟨_, _, _, rfl⟩
      rw [h1] at h
      dsimp only at h
      obtain ⟨os2, l2, e2, h2⟩ : ∃ x y z, opsRd n l1 e1 = (x, y, z) := ⟨_, _, _, rfl⟩
      rw [h2] at h
      simp only [Prod.mk.injEq] at h
      obtain ⟨rfl, rfl, rfl⟩ := h
      obtain ⟨rfl, b, c, d⟩ := told_ops n l1 e1 os2 l2 h2
      obtain ⟨a, b1, c1⟩ := told_one h1
      refine ⟨a, ?_, by simp [c], fun x hx => ?_⟩
      · rw [b1, b, List.flatMap_cons, List.append_assoc]
      · rcases List.mem_cons.1 hx with rfl | hx
        · exact c1
        · exact d x hx
theorem told_head {l : List UInt8} {id : PidV} {os : List OpV} {l' : List UInt8} (h : headR2 l 0 = ((id, os), l', 0)) :
    l = (UInt8.ofNat id.1.val :: (vbytes id.2.val ++ (vbytes os.length ++ os.flatMap opBytes))) ++ l' := by
  unfold headR2 bindR pureR at h
  obtain ⟨a, l1, e1, h1⟩ : ∃ x y z, rByte 255 l 0 = (x, y, z) := ⟨_, _, _, rfl⟩
  rw [h1] at h
  dsimp only at h
  obtain ⟨s, l2, e2, h2⟩ : ∃ x y z, rNum 65535 l1 e1 = (x, y, z) := ⟨_, _, _, rfl⟩
  rw [h2] at h
  dsimp only at h
  obtain ⟨n, l3, e3, h3⟩ : ∃ x y z, rNum 200 l2 e2 = (x, y, z) := ⟨_, _, _, rfl⟩
  rw [h3] at h
  dsimp only at h
  obtain ⟨os2, l4, e4, h4⟩ : ∃ x y z, opsRd n l3 e3 = (x, y, z) := ⟨_, _, _, rfl⟩
  rw [h4] at h
  simp only [Prod.mk.injEq] at h
  obtain ⟨⟨rfl, rfl⟩, rfl, rfl⟩ := h
  obtain ⟨rfl, b4, c4, _⟩ := told_ops _ _ _ _ _ h4
  obtain ⟨rfl, b3, c3⟩ := told_num _ h3
  obtain ⟨rfl, b2, c2⟩ := told_num _ h2
  obtain ⟨_, b1, c1, d1⟩ := told_byte _ h1
  have ha : (kindF a).val = a := Nat.mod_eq_of_lt d1
  have hs : s % 65536 = s := Nat.mod_eq_of_lt (by omega)
  rw [b1, b2, b3, b4, c4]
  show _ = UInt8.ofNat (kindF a).val :: (vbytes (s % 65536) ++ (vbytes n ++ os2.flatMap opBytes)) ++ l4
  rw [ha, hs]
  simp only [List.cons_append, List.append_assoc]
/-- what is decoded may be, and is encoded so -/
theorem enc_dec {b : List UInt8} {q : PatV} (h : decP b = (q, 0)) : patB q = true ∧ patBytes q = b := by
  unfold decP at h
  split at h
  · rename_i h0
    simp only [Prod.mk.injEq] at h
    exact absurd h.2 h0
  · rename_i h0
    split at h
    · simp only [Prod.mk.injEq] at h
      exact absurd h.2 (by decide)
    · rename_i h1
      simp only [Prod.mk.injEq] at h
      obtain ⟨⟨id, os⟩, l', e', hh⟩ : ∃ x y z, headR2 b 0 = (x, y, z) := ⟨_, _, _, rfl⟩
      rw [hh] at h h0 h1
      dsimp only at h h0 h1
      have hz : e' = 0 ∧ l' = [] := by
        unfold rEnd at h0
        split at h0
        · exact absurd (by decide) h0
        · rename_i h2
          have he : e' = 0 := by simpa using h0
          exact ⟨he, by
            rcases Nat.eq_zero_or_pos l'.length with h3 | h3
            · exact List.eq_nil_of_length_eq_zero h3
            · exact absurd ⟨he, h3⟩ h2⟩
      obtain ⟨rfl, rfl⟩ := hz
      have hb := told_head hh
      have hm : patB (id, depsV id os, os) = true := by
        unfold makeN18 at h1
        split at h1
        · assumption
        · exact absurd (by decide) h1
      have hq := h.1
      unfold makeV18 at hq
      rw [if_pos hm] at hq
      subst hq
      exact ⟨hm, by rw [hb, List.append_nil]; rfl⟩
theorem opBytes_len (o : OpV) (h : opPlain o) : (opBytes o).length ≤ 72 := by
  obtain ⟨_, _, _, h1, h2⟩ := h
  have hv : ∀ v : VidV, (vbytes (packN v)).length ≤ 5 := fun v => vbytes_len 4 _ (by have := packN_lt v; omega)
  have hr : ((refsO o).flatMap fun v => vbytes (packN v)).length ≤ 10 := by
    unfold refsO
    split
    · have := hv o.2.1; simp; omega
    · split
      · have := hv o.2.1; have := hv o.2.2.1; simp; omega
      · simp
  have hs : (vbytes o.2.2.2.size).length ≤ 1 := vbytes_len 0 _ (by omega)
  have e : o.2.2.2.data.toList.length = o.2.2.2.size := rfl
  unfold opBytes
  rw [List.length_cons, List.length_append]
  split
  · rw [List.length_append]; omega
  · rw [List.length_nil]; omega
/-- a patch's bytes are not too long -/
theorem patBytes_len {p : PatV} (h : patB p = true) : (patBytes p).length ≤ 20000 := by
  have hl := patB_len200 h
  have hs : (vbytes p.1.2.val).length ≤ 3 := vbytes_len 2 _ (by have := p.1.2.isLt; omega)
  have hn : (vbytes p.2.2.length).length ≤ 2 := vbytes_len 1 _ (by omega)
  have ho : ∀ os : List OpV, (∀ o ∈ os, opPlain o) → (os.flatMap opBytes).length ≤ 72 * os.length := by
    intro os
    induction os with
    | nil => intro _; simp
    | cons o os ih =>
      intro hh
      rw [List.flatMap_cons, List.length_append, List.length_cons]
      have := opBytes_len o (hh o (by simp))
      have := ih fun x hx => hh x (by simp [hx])
      omega
  have := ho p.2.2 (pat_plain h)
  unfold patBytes
  simp only [List.length_cons, List.length_append]
  omega
end Go.Proofs.YtihggkmjalofiaaGreatDoor

/- A patch is encoded: walked. -/
namespace Go.Proofs.YtihggkmjalofiaaGreatDoor
open Go.RowKit

set_option maxRecDepth 100000 in
set_option maxHeartbeats 1000000 in
theorem named19_any (k : Nat) (w : World) : Calls Tryz.prog 158 #[.int .u8 (k : Int)] w (Ret w (.bool (namedK k))) := by
  by_cases h2 : k = 2
  · subst h2
    go_enter Tryz.func158, Tryz.ntmps158
    go_wp2
    go_ret
    exact ⟨rfl, rfl⟩
  · have z2 : (((k : Nat) : Int) == 2) = false := by rw [beq_eq_false_iff_ne]; omega
    by_cases h3 : k = 3
    · subst h3
      go_enter Tryz.func158, Tryz.ntmps158
      go_wp2
      go_ret
      exact ⟨rfl, rfl⟩
    · have z3 : (((k : Nat) : Int) == 3) = false := by rw [beq_eq_false_iff_ne]; omega
      have E : Hid (namedK k = false) := by unfold namedK; exact decide_eq_false (by omega)
      go_enter Tryz.func158, Tryz.ntmps158
      go_wp2
      go_ret
      exact ⟨by rw [E.out]; rfl, rfl⟩
theorem key_pack (v : VidV) : keyV v = ((packN v : Nat) : Int) := by
  unfold keyV packN keyP packV
  omega
theorem allocW (w : World) : (Instr.alloc 139 true (.tuple #[])).run Tryz.prog w = .ok (.pointer (some ⟨w.heap.size, 0, none⟩)) (w.alloc (.cells #[.slice none 0 0] 139)) := by kernel_rfl
theorem wr_new (w : World) : WrAt (w.alloc (.cells #[.slice none 0 0] 139)) (fun q => q = w.heap.size) w.heap.size [] :=
  ⟨⟨.slice none 0 0, Blk.new _ _ _, World.ownsRow_nil _ _ _ _, fun k e => by cases e⟩, rfl, fun q e => by subst e; simp⟩
/-- a writer that lies from block B on -/
structure WrB (w : World) (B g : Nat) (l : List UInt8) (N : Nat → Prop) : Prop where
  ex : ∃ F, WrAt w F g l ∧ (∀ q, F q → B ≤ q) ∧ ∀ q, F q → ¬ N q
theorem WrB.ext {w w' : World} {B g : Nat} {l : List UInt8} {N : Nat → Prop} (h : WrB w B g l N) (hb : Below w.heap.size w w') : WrB w' B g l N := by
  obtain ⟨F, h1, h2, h3⟩ := h.ex
  exact ⟨F, h1.ext hb, h2, h3⟩
/-- what is new is none of its blocks -/
theorem WrB.away {w w' : World} {B g : Nat} {l : List UInt8} {N M : Nat → Prop} (h : WrB w B g l N) (hb : Below w.heap.size w w') (hM : ∀ q, M q → N q ∨ w.heap.size ≤ q) : WrB w' B g l M := by
  obtain ⟨F, h1, h2, h3⟩ := h.ex
  exact ⟨F, h1.ext hb, h2, fun q e m => (hM q m).elim (h3 q e) fun e2 => by have := h1.lt q e; omega⟩
theorem WrB.step {w w' : World} {B g : Nat} {l : List UInt8} {N : Nat → Prop} {F : Nat → Prop} (hB : ∀ q, F q → B ≤ q) (hN : ∀ q, F q → ¬ N q) (hBw : B ≤ w.heap.size) (hNw : ∀ q, N q → q < w.heap.size) (hk : Kept F w w') (hw : ∃ F', WrAt w' F' g l ∧ ∀ q, F' q → F q ∨ w.heap.size ≤ q) :
    WrB w' B g l N ∧ Below B w w' ∧ Stay N w w' := by
  obtain ⟨F', h1, h2⟩ := hw
  refine ⟨⟨F', h1, fun q e => (h2 q e).elim (hB q) fun e => by omega, fun q e m => (h2 q e).elim (fun e => hN q e m) fun e2 => by have := hNw q m; omega⟩, hk.below hB hBw, hk.stay fun k _ h3 h4 => hN k h4 h3⟩
theorem byte_sl (w : World) (k : Nat) (hk : k < 256) : Sl (w.alloc (.cells #[.int .u8 (k : Int)] 5)) (w.alloc (.cells #[.int .u8 (k : Int)] 5)).heap.size 1 (some ⟨w.heap.size, 0, none⟩) 1 (encB [UInt8.ofNat k]) :=
  sl_fresh w _ 5 1 1 (encB [UInt8.ofNat k]) (by rw [encB_len]; rfl) (by
    have e : encB [UInt8.ofNat k] = [.int .u8 (k : Int)] := by
      show enc1 _ ++ [] = _
      rw [enc1_nat hk, List.append_nil]
    rw [e])
theorem u64_sl (w : World) (ns : List Nat) (cs : Array Value) (h : cs = (encU ns).toArray) : Sl (w.alloc (.cells cs 76)) (w.alloc (.cells cs 76)).heap.size 1 (some ⟨w.heap.size, 0, none⟩) ns.length (encU ns) :=
  sl_fresh w _ 76 1 ns.length (encU ns) (by unfold encU; rw [List.length_map, Nat.mul_one]) (by rw [h])
theorem pack_len (vs : List VidV) : (vs.flatMap fun v => vbytes (packN v)).length ≤ 5 * vs.length := by
  induction vs with
  | nil => simp
  | cons v vs ih =>
    rw [List.flatMap_cons, List.length_append, List.length_cons]
    have : (vbytes (packN v)).length ≤ 5 := vbytes_len 4 _ (by have := packN_lt v; omega)
    omega
theorem ops_len (os : List OpV) (h : ∀ o ∈ os, opPlain o) : (os.flatMap opBytes).length ≤ 72 * os.length := by
  induction os with
  | nil => simp
  | cons o os ih =>
    rw [List.flatMap_cons, List.length_append, List.length_cons]
    have := opBytes_len o (h o (by simp))
    have := ih fun x hx => h x (by simp [hx])
    omega
theorem flat_snocF {α : Type} {f : α → List UInt8} {l : List α} {k : Nat} {x : α} (h : l[k]? = some x) : (l.take (k + 1)).flatMap f = (l.take k).flatMap f ++ f x := by
  rw [List.take_add_one, h, List.flatMap_append]
  simp
theorem stay_trans {G : Nat → Prop} {a b c : World} (h : Stay G a b) (k : Stay G b c) : Stay G a c :=
  ⟨Nat.le_trans h.1 k.1, fun i hi hg => (k.2 i (Nat.lt_of_lt_of_le hi h.1) hg).trans (h.2 i hi hg)⟩
def WbRet (w : World) (B g : Nat) (l : List UInt8) (N : Nat → Prop) (e : Ending) (w' : World) : Prop := e = .returned (.tuple #[]) ∧ WrB w' B g l N ∧ Below B w w' ∧ Stay N w w'
theorem wb_of {w w1 : World} {B g : Nat} {l : List UInt8} {N F : Nat → Prop} {e : Ending} {w' : World} (hb : Below w.heap.size w w1) (hB : ∀ q, F q → B ≤ q) (hN : ∀ q, F q → ¬ N q) (hBw : B ≤ w.heap.size) (hNw : ∀ q, N q → q < w.heap.size) (h : WrRet w1 F g l e w') : WbRet w B g l N e w' := by
  obtain ⟨h1, h2, h3⟩ := h
  have hz := hb.size
  obtain ⟨a, b, c⟩ := WrB.step hB hN (by omega) (fun q m => by have := hNw q m; omega) h2 h3
  exact ⟨h1, a, (hb.mono hBw).trans b, ⟨by have := c.1; omega, fun k hk hm => (c.2 k (by omega) hm).trans (hb.block k hk)⟩⟩
theorem wbByte {w : World} {B g : Nat} {l : List UInt8} {N : Nat → Prop} (h : WrB w B g l N) (hBw : B ≤ w.heap.size) (hNw : ∀ q, N q → q < w.heap.size) (k : Nat) (hk : k < 256) (hl : l.length ≤ 100000) :
    Calls Tryz.prog 156 #[.pointer (some ⟨g, 0, none⟩), .slice (some ⟨w.heap.size, 0, none⟩) 1 1] (w.alloc (.cells #[.int .u8 (k : Int)] 5)) (WbRet w B g (l ++ [UInt8.ofNat k]) N) := by
  have hb : Below w.heap.size w (w.alloc (.cells #[.int .u8 (k : Int)] 5)) := below_new _ _
  obtain ⟨F, h1, h2, h3⟩ := h.ex
  exact (wrByte_any (h1.ext hb) [UInt8.ofNat k] _ 1 1 _ (byte_sl w k hk) rfl (by omega)).mono fun _ _ h => wb_of hb h2 h3 hBw hNw h
theorem wbNum {w : World} {B g : Nat} {l : List UInt8} {N : Nat → Prop} (h : WrB w B g l N) (hBw : B ≤ w.heap.size) (hNw : ∀ q, N q → q < w.heap.size) (ns : List Nat) (hn : ∀ n ∈ ns, n < 18446744073709551616) (hm : ns.length ≤ 1000) (hl : l.length ≤ 100000) (cs : Array Value) (hc : cs = (encU ns).toArray) :
    Calls Tryz.prog 70 #[.pointer (some ⟨g, 0, none⟩), .slice (some ⟨w.heap.size, 0, none⟩) ns.length ns.length] (w.alloc (.cells cs 76)) (WbRet w B g (l ++ ns.flatMap vbytes) N) := by
  have hb : Below w.heap.size w (w.alloc (.cells cs 76)) := below_new _ _
  obtain ⟨F, h1, h2, h3⟩ := h.ex
  exact (wrNum_any (h1.ext hb) ns hn _ ns.length _ (u64_sl w ns cs hc) (fun b o e hf => by injection e with e; injection e with e _ _; have := h1.lt b hf; omega) rfl (by omega) hm).mono fun _ _ h => wb_of hb h2 h3 hBw hNw h
theorem wbText {w : World} {B g : Nat} {l : List UInt8} {N : Nat → Prop} (h : WrB w B g l N) (hBw : B ≤ w.heap.size) (hNw : ∀ q, N q → q < w.heap.size) (s : ByteArray) (hs : s.size ≤ 1000) (hl : l.length ≤ 100000) :
    Calls Tryz.prog 75 #[.pointer (some ⟨g, 0, none⟩), .string s] w (WbRet w B g (l ++ (vbytes s.size ++ s.data.toList)) N) := by
  obtain ⟨F, h1, h2, h3⟩ := h.ex
  exact (wrText_any h1 s (by omega) hs).mono fun _ _ h => wb_of (Below.refl _ _) h2 h3 hBw hNw h
def EncRet (w : World) (p : PatV) (e : Ending) (w' : World) : Prop :=
  (patB p = true → ∃ v, e = .returned (.tuple #[v, .int .i64 0]) ∧ w'.ownsRow w.heap.size 5 1 v (patBytes p).length (encB (patBytes p)) ∧ Below w.heap.size w w') ∧
  (patB p = false → e = .returned (.tuple #[.slice none 0 0, .int .i64 1]) ∧ Below w.heap.size w w')
set_option maxRecDepth 100000 in
set_option maxHeartbeats 8000000 in
theorem encode19_any (p : PatV) (w : World) (cs : List Value) (hp : PatAt w cs p) : Calls Tryz.prog 81 #[.agg cs.toArray] w (EncRet w p) := by
  have HPAT := Lib.hid hp
  obtain ⟨⟨A, c, A', c', rfl, _, O0⟩, _, _⟩ := hp
  have K0 : Hid (Blk (w.alloc (.cells (patC p.1 A p.2.1.length c A' p.2.2.length c').toArray 31)) w.heap.size 31 (patC p.1 A p.2.1.length c A' p.2.2.length c').toArray) := Blk.new _ _ _
  have B0 : Hid (Below w.heap.size w (w.alloc (.cells (patC p.1 A p.2.1.length c A' p.2.2.length c').toArray 31))) := below_new _ _
  have OA := Lib.hid (O0.ext B0.out)
  have HG := Lib.hid (good18_any p _ _ (HPAT.out.ext B0.out))
  clear HPAT O0
  go_enter Tryz.func81, Tryz.ntmps81
  go_upto_region 1 with fail
  generalize (w.alloc (.cells (patC p.1 A p.2.1.length c A' p.2.2.length c').toArray 31)) = w2 at *
  obtain ⟨gp, hgp⟩ : ∃ gp, gp = w.heap.size := ⟨_, rfl⟩
  rw [← hgp] at K0 ⊢
  replace hgp := Lib.hid hgp
  cases hb : patB p
  · rw [hb] at HG
    go_wp2_with (refine wpList_load_row rfl 31 _ (by rfl) gp (by rfl) _ _ _ _ K0.out underPat rfl infoPat ?_)
    refine HG.out.mono ?_
    rintro e w3 ⟨rfl, b3⟩
    have B3 := Lib.hid (B0.out.trans (b3.mono B0.out.size))
    clear b3 HG
    go_wp2
    refine bodyPost_ret (v := .tuple #[.slice none 0 0, .int .i64 1]) ?_ rfl ⟨fun h => (by rw [hb] at h; cases h), fun _ => ⟨rfl, B3.out⟩⟩
    simp [results, Tryz.results81, go_sem]
  · rw [hb] at HG
    have PP := Lib.hid (pat_plain hb)
    have hl200 := patB_len200 hb
    go_wp2_with (refine wpList_load_row rfl 31 _ (by rfl) gp (by rfl) _ _ _ _ K0.out underPat rfl infoPat ?_)
    refine HG.out.mono ?_
    rintro e w3 ⟨rfl, b3⟩
    have B3 := Lib.hid (B0.out.trans (b3.mono B0.out.size))
    have KP := Lib.hid (K0.out.ext b3)
    have OA := Lib.hid (OA.out.ext b3)
    clear b3 HG B0 K0
    have W0 : Hid (WrB (w3.alloc (.cells #[.slice none 0 0] 139)) w3.heap.size w3.heap.size [] (fun _ => False)) := ⟨⟨_, wr_new w3, fun q e => by omega, fun q e h => h⟩⟩
    have BW : Hid (Below w3.heap.size w3 (w3.alloc (.cells #[.slice none 0 0] 139))) := below_new _ _
    go_upto_region 4 with (refine wpList_alloced (allocW _) ?_)
    generalize (w3.alloc (.cells #[.slice none 0 0] 139)) = w4 at *
    obtain ⟨gw, hgw⟩ : ∃ gw, gw = w3.heap.size := ⟨_, rfl⟩
    rw [← hgw] at W0 BW ⊢
    replace hgw := Lib.hid hgw
    have KP4 := Lib.hid (KP.out.below BW.out (by rw [hgw.out]; exact KP.out.lt))
    have y0 : w4.cell? ⟨gp, 0, none⟩ = some (.int .u8 ((p.1.1.val : Nat) : Int)) := KP4.out.cell 0
    have ha := p.1.1.isLt
    have hs := p.1.2.isLt
    have bs4 : Hid (gw ≤ w4.heap.size) := by have := BW.out.size; have := hgw.out; rw [Hid]; omega
    go_wp2_with fail
    refine (wbByte W0.out bs4.out (fun _ h => h.elim) p.1.1.val ha (by simp)).mono ?_
    rintro e w5 ⟨rfl, W5, b5, _⟩
    have W5 := Lib.hid W5
    have B5 : Hid (Below gw w3 w5) := BW.out.trans b5
    clear b5 BW W0 KP4 y0
    have KP5 := Lib.hid (KP.out.below B5.out (by rw [hgw.out]; exact KP.out.lt))
    have y1 : w5.cell? ⟨gp, 1, none⟩ = some (.int .u16 ((p.1.2.val : Nat) : Int)) := KP5.out.cell 1
    have y3 : w5.cell? ⟨gp, 3, none⟩ = some (.slice A' p.2.2.length c') := KP5.out.cell 3
    have bs5 : Hid (gw ≤ w5.heap.size) := by have := B5.out.size; have := hgw.out; rw [Hid]; omega
    go_wp2_with fail
    refine (wbNum W5.out bs5.out (fun _ h => h.elim) [p.1.2.val, p.2.2.length] (fun n hn => by simp at hn; omega) (by simp) (by simp) _ rfl).mono ?_
    rintro e w6 ⟨rfl, W6, b6, _⟩
    have W6 := Lib.hid W6
    have B6 : Hid (Below gw w3 w6) := B5.out.trans b6
    clear b6 B5 W5 KP5 y1 y3 bs4 bs5
    obtain ⟨HD, hHD⟩ : ∃ HD, HD = [] ++ [UInt8.ofNat p.1.1.val] ++ [p.1.2.val, p.2.2.length].flatMap vbytes := ⟨_, rfl⟩
    rw [← hHD] at W6
    have hHl : HD.length ≤ 21 := by
      have h1 := flat_vlen [p.1.2.val, p.2.2.length] (fun n hn => by simp at hn; omega)
      rw [hHD, List.length_append, List.nil_append]
      simp only [List.length_cons, List.length_nil] at h1 ⊢
      omega
    replace hHD := Lib.hid hHD
    have KP6 := Lib.hid (KP.out.below B6.out (by rw [hgw.out]; exact KP.out.lt))
    have y3 : w6.cell? ⟨gp, 3, none⟩ = some (.slice A' p.2.2.length c') := KP6.out.cell 3
    clear KP6 KP
    go_wp2_with fail
    go_loopw [30] (fun v wr => ∃ k : Nat, k ≤ p.2.2.length ∧ v = .int .i64 (k : Int) ∧ Hid (WrB wr gw gw (HD ++ (p.2.2.take k).flatMap opBytes) (fun _ => False)) ∧ Hid (Below gw w3 wr)) (fun v _ => p.2.2.length - (intOf v).toNat)
    case atStart => exact ⟨0, by omega, rfl, by rw [List.take_zero, List.flatMap_nil, List.append_nil]; exact W6.out, B6.out⟩
    case round =>
      clear W6 B6 y3
      obtain ⟨k, hk, rfl, WR, B⟩ := hrel
      have hk0 : (0 : Int) ≤ (k : Int) := by omega
      by_cases hlt : k < p.2.2.length
      · have hki : (k : Int) < (p.2.2.length : Int) := by omega
        obtain ⟨b, o, x, rfl, hb3, hx, hr, ok⟩ := OA.out.at_ hlt
        have RX := Lib.hid (rangeAt_below hr B.out (by rw [hgw.out]; exact hb3))
        have PO := Lib.hid (PP.out x (List.mem_of_getElem? hx))
        have FS := Lib.hid (flat_snocF (f := opBytes) hx)
        have hkind := x.1.isLt
        have hTk := PO.out.2.2.2.2
        obtain ⟨L0, hL0⟩ : ∃ L0, L0 = HD ++ (p.2.2.take k).flatMap opBytes := ⟨_, rfl⟩
        have hL0l : L0.length ≤ 20000 := by
          have h1 := ops_len (p.2.2.take k) fun y hy => PP.out y (List.mem_of_mem_take hy)
          rw [List.length_take] at h1
          rw [hL0, List.length_append]
          omega
        rw [← hL0] at WR
        replace hL0 := Lib.hid hL0
        have KZ : Hid (Blk (wr.alloc (.cells #[.int .u8 0, .int .u8 0, .int .u16 0, .int .u8 0, .int .u8 0, .int .u16 0, .int .u8 0, .string ByteArray.empty] 122)) wr.heap.size 122 #[.int .u8 0, .int .u8 0, .int .u16 0, .int .u8 0, .int .u8 0, .int .u16 0, .int .u8 0, .string ByteArray.empty]) := Blk.new _ _ _
        have KO : Hid (Blk ((wr.alloc (.cells #[.int .u8 0, .int .u8 0, .int .u16 0, .int .u8 0, .int .u8 0, .int .u16 0, .int .u8 0, .string ByteArray.empty] 122)).setRow wr.heap.size (encO x).toArray) wr.heap.size 122 (encO x).toArray) := KZ.out.row _
        have BN : Hid (Below wr.heap.size wr ((wr.alloc (.cells #[.int .u8 0, .int .u8 0, .int .u16 0, .int .u8 0, .int .u8 0, .int .u16 0, .int .u8 0, .string ByteArray.empty] 122)).setRow wr.heap.size (encO x).toArray)) := below_setRow (below_new wr _) (Nat.le_refl _) _
        have hgw2 : Hid (gw ≤ wr.heap.size) := by have := B.out.size; have := hgw.out; rw [Hid]; omega
        clear hx hr hb3
        go_upto_region 9 with (first
          | (refine wpList_load_mid rfl 122 _ (by rfl) b (o + k * 8) (by rfl) _ _ RX.out underOp rfl infoOp ?_)
          | (refine wpList_alloced (allocOp _) ?_)
          | (refine wpList_store_row rfl 122 _ _ (by rfl) wr.heap.size (encO x).toArray (by rfl) (by rfl) _ _ KZ.out infoOp rfl (all_oneCell_toArray (encO_one x)) ?_))
        generalize ((wr.alloc (.cells #[.int .u8 0, .int .u8 0, .int .u16 0, .int .u8 0, .int .u8 0, .int .u16 0, .int .u8 0, .string ByteArray.empty] 122)).setRow wr.heap.size (encO x).toArray) = w7 at *
        have W7 : Hid (WrB w7 gw gw L0 (fun q => q = wr.heap.size)) := WR.out.away BN.out fun q e => .inr (by omega)
        have B7 := Lib.hid (B.out.trans (BN.out.mono hgw2.out))
        obtain ⟨go, hgo⟩ : ∃ go, go = wr.heap.size := ⟨_, rfl⟩
        rw [← hgo] at W7 KO hgw2 ⊢
        clear KZ BN WR RX hgo B
        have y0 : w7.cell? ⟨go, 0, none⟩ = some (.int .u8 ((x.1.val : Nat) : Int)) := KO.out.cell 0
        have hs7 : Hid (gw ≤ w7.heap.size) := by have := KO.out.lt; have := hgw2.out; rw [Hid]; omega
        go_wp2_with fail
        refine (wbByte W7.out hs7.out (fun q e => by rw [e]; exact KO.out.lt) x.1.val hkind (by omega)).mono ?_
        rintro e w8 ⟨rfl, W8, b8, st8⟩
        have W8 := Lib.hid W8
        have B8 := Lib.hid (B7.out.trans b8)
        have KO := Lib.hid (KO.out.keep (st8.2 go KO.out.lt rfl))
        clear b8 st8 W7 B7 y0 hs7
        go_wp2_with (refine wpList_load_row rfl 122 _ (by rfl) go (by rfl) _ _ _ _ KO.out underOp rfl infoOp ?_)
        refine (refsW x _).mono ?_
        rintro e w9 ⟨_, rfl, oR, b9⟩
        obtain ⟨AR, cR, rfl, _, slR⟩ := Sl.of_own oR
        have IR := Lib.hid (own_inB oR)
        have SR := Lib.hid slR
        have KO := Lib.hid (KO.out.ext b9)
        have hs8 : Hid (gw ≤ w8.heap.size ∧ w8.heap.size ≤ w9.heap.size) := by have := B8.out.size; have := b9.size; have := hgw.out; rw [Hid]; omega
        have W9 : Hid (WrB w9 gw gw (L0 ++ [UInt8.ofNat x.1.val]) (fun q => q = go ∨ (w8.heap.size ≤ q ∧ q < w9.heap.size))) := W8.out.away b9 fun q e => e.elim .inl fun e => .inr e.1
        have B9 := Lib.hid (B8.out.trans (b9.mono hs8.out.1))
        have hNl : Hid (∀ q, (q = go ∨ (w8.heap.size ≤ q ∧ q < w9.heap.size)) → q < w9.heap.size) := fun q e => e.elim (fun e => by rw [e]; exact KO.out.lt) fun e => e.2
        have hR2 := refsO_le x
        clear oR slR b9 W8 B8
        obtain ⟨vs, hvs⟩ : ∃ vs, vs = refsO x := ⟨_, rfl⟩
        rw [← hvs] at IR SR hR2 ⊢
        replace hvs := Lib.hid hvs
        go_wp2_with fail
        go_loopw [41] (fun v wi => ∃ j : Nat, j ≤ vs.length ∧ v = .int .i64 (j : Int) ∧ Hid (WrB wi gw gw (L0 ++ [UInt8.ofNat x.1.val] ++ (vs.take j).flatMap (fun v => vbytes (packN v))) (fun q => q = go ∨ (w8.heap.size ≤ q ∧ q < w9.heap.size))) ∧ Hid (Below gw w3 wi) ∧ Hid (Stay (fun q => q = go ∨ (w8.heap.size ≤ q ∧ q < w9.heap.size)) w9 wi)) (fun v _ => vs.length - (intOf v).toNat)
        case atStart => exact ⟨0, by omega, rfl, by rw [List.take_zero, List.flatMap_nil, List.append_nil]; exact W9.out, B9.out, ⟨Nat.le_refl _, fun _ _ _ => rfl⟩⟩
        case round =>
          clear W9 B9
          obtain ⟨j, hj, rfl, WI, BI, SI⟩ := hrel
          have hj0 : (0 : Int) ≤ (j : Int) := by omega
          by_cases hjl : j < vs.length
          · have hji : (j : Int) < (vs.length : Int) := by omega
            obtain ⟨bv, ov, v, rfl, hbv, hv, rv⟩ := VidsAt.at_ (⟨rfl, (SR.out.stay (IR.out.mono fun q e => .inr e) (Nat.le_refl _) SI.out).more SI.out.1⟩ : VidsAt wr AR vs.length vs) hjl
            have RV := Lib.hid rv
            have FV := Lib.hid (flat_snocF (f := fun v => vbytes (packN v)) hv)
            have hpk := packN_lt v
            have hp0 : (0 : Int) ≤ ((packN v : Nat) : Int) := by omega
            have hp1 : ((packN v : Nat) : Int) < 4294967296 := by omega
            have hWl : (L0 ++ [UInt8.ofNat x.1.val] ++ (vs.take j).flatMap (fun v => vbytes (packN v))).length ≤ 100000 := by
              have h1 := pack_len (vs.take j)
              rw [List.length_take] at h1
              simp only [List.length_append, List.length_cons, List.length_nil]
              omega
            replace hWl := Lib.hid hWl
            have KZ : Hid (Blk (wr.alloc (.cells #[.int .u8 0, .int .u16 0, .int .u8 0] 120)) wr.heap.size 120 #[.int .u8 0, .int .u16 0, .int .u8 0]) := Blk.new _ _ _
            have KV : Hid (Blk ((wr.alloc (.cells #[.int .u8 0, .int .u16 0, .int .u8 0] 120)).setRow wr.heap.size (encV v).toArray) wr.heap.size 120 (encV v).toArray) := KZ.out.row _
            have BN : Hid (Below wr.heap.size wr ((wr.alloc (.cells #[.int .u8 0, .int .u16 0, .int .u8 0] 120)).setRow wr.heap.size (encV v).toArray)) := below_setRow (below_new wr _) (Nat.le_refl _) _
            have hs10 : Hid (gw ≤ wr.heap.size ∧ w9.heap.size ≤ wr.heap.size) := by have := SI.out.1; have := hs8.out; rw [Hid]; omega
            clear rv hv hbv
            go_upto_region 13 with (first
              | (refine wpList_load_mid rfl 120 _ (by rfl) bv (ov + j * 3) (by rfl) _ _ RV.out underVid rfl infoVid ?_)
              | (refine wpList_alloced (allocVd _) ?_)
              | (refine wpList_store_row rfl 120 _ _ (by rfl) wr.heap.size (encV v).toArray (by rfl) (by rfl) _ _ KZ.out infoVid rfl (all_oneCell_toArray (encV_one v)) ?_))
            generalize ((wr.alloc (.cells #[.int .u8 0, .int .u16 0, .int .u8 0] 120)).setRow wr.heap.size (encV v).toArray) = w10 at *
            have W10 := Lib.hid (WI.out.ext BN.out)
            have B10 := Lib.hid (BI.out.trans (BN.out.mono hs10.out.1))
            have S10 := Lib.hid (stay_trans SI.out (Stay.of_below (G := fun q => q = go ∨ (w8.heap.size ≤ q ∧ q < w9.heap.size)) BN.out))
            have hs11 : Hid (gw ≤ w10.heap.size ∧ w9.heap.size ≤ w10.heap.size) := by have := BN.out.size; have := hs10.out; rw [Hid]; omega
            clear KZ BN WI BI SI RV hs10
            generalize wr.heap.size = gv at *
            go_wp2_with (refine wpList_load_row rfl 120 _ (by rfl) gv (by rfl) _ _ _ _ KV.out underVid rfl infoVid ?_)
            refine ((vpackG v _).mono fun _ _ => RetB.ofG).mono ?_
            rintro e w11 ⟨rfl, b11⟩
            rw [key_pack]
            have W11 := Lib.hid (W10.out.ext b11)
            have B11 := Lib.hid (B10.out.trans (b11.mono hs11.out.1))
            have S11 := Lib.hid (stay_trans S10.out (Stay.of_below (G := fun q => q = go ∨ (w8.heap.size ≤ q ∧ q < w9.heap.size)) b11))
            have hs12 : Hid (gw ≤ w11.heap.size ∧ w9.heap.size ≤ w11.heap.size) := by have := b11.size; have := hs11.out; rw [Hid]; omega
            clear b11 W10 B10 S10 hs11 KV
            go_wp2_with fail
            refine (wbNum W11.out hs12.out.1 (fun q e => Nat.lt_of_lt_of_le (hNl.out q e) hs12.out.2) [packN v] (fun n hn => by simp at hn; omega) (by simp) hWl.out _ rfl).mono ?_
            rintro e w12 ⟨rfl, W12, b12, st12⟩
            have W12 : Hid (WrB w12 gw gw (L0 ++ [UInt8.ofNat x.1.val] ++ (vs.take (j + 1)).flatMap (fun v => vbytes (packN v))) (fun q => q = go ∨ (w8.heap.size ≤ q ∧ q < w9.heap.size))) := by
              rw [Hid, FV.out, ← List.append_assoc]
              simpa using W12
            have B12 := Lib.hid (B11.out.trans b12)
            have S12 := Lib.hid (stay_trans S11.out st12)
            clear b12 st12 W11 B11 S11
            go_wp2_with fail
            go_roundw
            case rel => exact ⟨j + 1, by omega, by go_num, W12.out, B12.out, S12.out⟩
            case measure => simp [intOf]; omega
          · have hji : ¬ (j : Int) < (vs.length : Int) := by omega
            rw [List.take_of_length_le (by omega)] at WI
            have KO2 := Lib.hid (KO.out.keep (SI.out.2 go KO.out.lt (.inl rfl)))
            have y0 : wr.cell? ⟨go, 0, none⟩ = some (.int .u8 ((x.1.val : Nat) : Int)) := KO2.out.cell 0
            have y7 : wr.cell? ⟨go, 7, none⟩ = some (.string x.2.2.2) := KO2.out.cell 7
            have hs13 : Hid (gw ≤ wr.heap.size ∧ w9.heap.size ≤ wr.heap.size) := by have := SI.out.1; have := hs8.out; rw [Hid]; omega
            have hWl : Hid ((L0 ++ [UInt8.ofNat x.1.val] ++ vs.flatMap (fun v => vbytes (packN v))).length ≤ 100000) := by
              have h1 := pack_len vs
              rw [Hid]
              simp only [List.length_append, List.length_cons, List.length_nil]
              omega
            have hE : Hid (HD ++ (p.2.2.take (k + 1)).flatMap opBytes = L0 ++ [UInt8.ofNat x.1.val] ++ vs.flatMap (fun v => vbytes (packN v)) ++ if namedK x.1.val = true then vbytes x.2.2.2.size ++ x.2.2.2.data.toList else []) := by
              rw [Hid, FS.out, ← List.append_assoc, ← hL0.out, hvs.out]
              unfold opBytes
              simp
            cases hn : namedK x.1.val
            · have hE2 : Hid (HD ++ (p.2.2.take (k + 1)).flatMap opBytes = L0 ++ [UInt8.ofNat x.1.val] ++ vs.flatMap (fun v => vbytes (packN v))) := by rw [Hid, hE.out, hn]; simp
              have HM := Lib.hid (named19_any x.1.val wr)
              rw [hn] at HM
              clear hE KO KO2 SR hNl
              go_wp2_with fail
              refine HM.out.mono ?_
              rintro e _ ⟨rfl, rfl⟩
              have WE : Hid (WrB wr gw gw (HD ++ (p.2.2.take (k + 1)).flatMap opBytes) (fun _ => False)) := by rw [Hid, hE2.out]; exact WI.out.away (Below.refl _ _) fun _ h => h.elim
              clear WI
              go_wp2_with fail
              go_roundw
              case rel => exact ⟨k + 1, by omega, by go_num, WE.out, BI.out⟩
              case measure => simp [intOf]; omega
            · have HM := Lib.hid (named19_any x.1.val wr)
              rw [hn] at HM
              have HT := Lib.hid (wbText WI.out hs13.out.1 (fun q e => Nat.lt_of_lt_of_le (hNl.out q e) hs13.out.2) x.2.2.2 (by omega) hWl.out)
              clear KO KO2 SR hNl
              go_wp2_with fail
              refine HM.out.mono ?_
              rintro e _ ⟨rfl, rfl⟩
              go_wp2_with fail
              refine HT.out.mono ?_
              rintro e w14 ⟨rfl, W14, b14, _⟩
              have WE : Hid (WrB w14 gw gw (HD ++ (p.2.2.take (k + 1)).flatMap opBytes) (fun _ => False)) := by rw [Hid, hE.out, hn, if_pos rfl]; exact W14.away (Below.refl _ _) fun _ h => h.elim
              have BE := Lib.hid (BI.out.trans b14)
              clear WI W14 b14 HT
              go_wp2_with fail
              go_roundw
              case rel => exact ⟨k + 1, by omega, by go_num, WE.out, BE.out⟩
              case measure => simp [intOf]; omega
      · have hki : ¬ (k : Int) < (p.2.2.length : Int) := by omega
        rw [List.take_of_length_le (by omega)] at WR
        have hE : Hid (HD ++ p.2.2.flatMap opBytes = patBytes p) := by
          rw [Hid, hHD.out]
          unfold patBytes
          simp
        rw [hE.out] at WR
        have hL := patBytes_len hb
        obtain ⟨F, h1, _, _⟩ := WR.out.ex
        have HBy := Lib.hid (wrBytes_any h1 (by omega))
        have BE := Lib.hid (B3.out.trans (B.out.mono (by have := B3.out.size; have := hgw.out; omega)))
        clear h1 WR B
        go_wp2_with fail
        refine HBy.out.mono ?_
        rintro e w15 ⟨v, rfl, own, b15⟩
        go_wp2
        refine bodyPost_ret (v := .tuple #[v, .int .i64 0]) ?_ rfl ⟨fun _ => ⟨v, rfl, own_rebase own fun q e => Nat.le_trans BE.out.size (own.lt q e).1, BE.out.trans (b15.mono BE.out.size)⟩, fun h => (by rw [hb] at h; cases h)⟩
        simp [results, Tryz.results81, go_sem]
end Go.Proofs.YtihggkmjalofiaaGreatDoor

/- An operation is read: walked. -/
namespace Go.Proofs.YtihggkmjalofiaaGreatDoor
open Go.RowKit

theorem rNum_le (most : Nat) (l : List UInt8) (e : Nat) : (rNum most l e).1 ≤ most := by
  unfold rNum
  split
  · exact Nat.zero_le _
  · split
    · exact Nat.zero_le _
    · split
      · exact Nat.zero_le _
      · show (vread l).1 ≤ most
        omega
theorem rByte_le (most : Nat) (l : List UInt8) (e : Nat) : (rByte most l e).1 ≤ most := by
  unfold rByte
  split
  · exact Nat.zero_le _
  · split
    · exact Nat.zero_le _
    · split
      · exact Nat.zero_le _
      · show UInt8.toNat _ ≤ most
        omega
theorem rText_len (most : Nat) (l : List UInt8) (e : Nat) : (rText most l e).1.length ≤ most := by
  unfold rText
  split
  · exact Nat.zero_le _
  · split
    · exact Nat.zero_le _
    · split
      · exact Nat.zero_le _
      · split
        · exact Nat.zero_le _
        · show (List.take _ _).length ≤ most
          rw [List.length_take]
          omega
/-- what is still to be read of the vertices -/
def refsG : Nat → Nat → VidV × VidV → Rd (VidV × VidV)
  | 0, _, v => pureR v
  | m + 1, j, v => bindR (rNum 4294967295) fun n => refsG m (j + 1) (if j = 0 then (unpackN n, v.2) else (v.1, unpackN n))
def emptyO (k : Nat) : OpV := (kindF k, vid0, vid0, ByteArray.empty)
theorem refsG_all (k : Nat) (hk : k < 256) : refsG (refsO (emptyO k)).length 0 (vid0, vid0) = refsR k := by
  have hkv : (kindF k).val = k := Nat.mod_eq_of_lt hk
  unfold refsR refsO emptyO
  rw [hkv]
  by_cases h1 : k = 2 ∨ k = 3 ∨ k = 5
  · rw [if_pos h1, if_pos h1]; rfl
  · rw [if_neg h1, if_neg h1]
    by_cases h2 : k = 4
    · rw [if_pos h2, if_pos h2]; rfl
    · rw [if_neg h2, if_neg h2]; rfl
theorem unpack19 (n : Nat) (hn : n ≤ 4294967295) (w : World) : Calls Tryz.prog 315 #[.int .u32 (n : Int)] w (RetB w (.agg (encV (unpackN n)).toArray)) := by
  have h := vunpack_any (n : Int) ⟨by omega, by omega⟩ w
  have e : (#[.int .u8 ((n : Int) / 256 / 65536), .int .u16 ((n : Int) / 256 % 65536), .int .u8 ((n : Int) % 256)] : Array Value) = (encV (unpackN n)).toArray := by
    have e1 : (n : Int) / 256 / 65536 = (((unpackN n).1.1.val : Nat) : Int) := by show _ = ((n / 16777216 % 256 : Nat) : Int); omega
    have e2 : (n : Int) / 256 % 65536 = (((unpackN n).1.2.val : Nat) : Int) := by show _ = ((n / 256 % 65536 : Nat) : Int); omega
    have e3 : (n : Int) % 256 = (((unpackN n).2.val : Nat) : Int) := by show _ = ((n % 256 : Nat) : Int); omega
    rw [e1, e2, e3]
    rfl
  rwa [e] at h
theorem exConvB {P : Program} {ρ : Operand → Value} {w : World} {d : Option Tmp} {ty s t : TypeId} {pos : String} {after : Array Edge} {gd : Option (Nat × Bool)} {x : Operand} {xv v : Value} (hx : ρ x = xv) (hr : (convert s t xv).run P w = .ok v w) : (execOp ρ ⟨d, .convert s t x, ty, pos, after, gd⟩).run P w = .ok (.value v) w := by
  unfold execOp
  simp only [hx, Sem.run_bind, hr, Result.andThen_ok, Sem.run_pure]
theorem indexPV (b n c k : Nat) (hk : k < n) (w : World) : (Instr.indexAt 408 (.slice (some ⟨b, 0, none⟩) n c) (.int .i64 ((k : Nat) : Int))).run Tryz.prog w = .ok (.pointer (some ⟨b, k, none⟩)) w := by
  have h0 : (0 : Int) ≤ (k : Int) := by omega
  have h1 : (k : Int) < (n : Int) := by omega
  simp [go_sem, h0, h1]
theorem loadPV (b o : Nat) (w : World) (p : Addr) (h : w.cell? ⟨b, o, none⟩ = some (.pointer (some p))) : (Instr.loadAt 407 (.pointer (some ⟨b, o, none⟩))).run Tryz.prog w = .ok (.pointer (some p)) w := by simp [go_sem, h]
theorem low32_run {n : Nat} (h : n ≤ 4294967295) (w : World) : (convert 76 153 (.int .u64 (n : Int))).run Tryz.prog w = .ok (.int .u32 (n : Int)) w := by
  have e : IntKind.u32.wrap (n : Int) = (n : Int) := by simp [IntKind.wrap, IntKind.bits, IntKind.signed]; omega
  simp [go_sem, e]
theorem emptyO_lit (k : Nat) (hk : k < 256) : (encO (emptyO k)).toArray = #[.int .u8 (k : Int), .int .u8 0, .int .u16 0, .int .u8 0, .int .u8 0, .int .u16 0, .int .u8 0, .string ⟨#[]⟩] := by
  have hkv : (kindF k).val = k := Nat.mod_eq_of_lt hk
  unfold emptyO encO
  rw [hkv]
  rfl
def offV (j : Nat) : Nat := if j = 0 then 1 else 4
def setV (o : OpV) (j : Nat) (v : VidV) : OpV := if j = 0 then (o.1, v, o.2.2.1, o.2.2.2) else (o.1, o.2.1, v, o.2.2.2)
theorem op_set {w : World} {g j : Nat} {o : OpV} (h : Blk w g 122 (encO o).toArray) (v : VidV) : Blk (w.setCells g (offV j) (encV v)) g 122 (encO (setV o j v)).toArray := by
  unfold offV setV
  split
  · exact ((h.set_ 1 _).set_ 2 _).set_ 3 _
  · exact ((h.set_ 4 _).set_ 5 _).set_ 6 _
theorem there_op {w : World} {g j : Nat} {o : OpV} (h : Blk w g 122 (encO o).toArray) (v : VidV) : w.there g (offV j) (encV v).toArray.size := fun i hi => by
  have hi3 : i < 3 := hi
  refine ⟨?_, h.fr _⟩
  rw [h.cell]
  unfold offV
  have : (encO o).toArray.size = 8 := rfl
  split
  · rw [Array.getElem?_eq_getElem (by omega)]; rfl
  · rw [Array.getElem?_eq_getElem (by omega)]; rfl
theorem RdAt.keepB {w w' : World} {B g e go : Nat} {l : List UInt8} (h : RdAt w B g l e) (hk : Kept (fun k => k = go) w w') (hne : g ≠ go) (hB : B ≤ go) : RdAt w' B g l e := by
  obtain ⟨A, c, h1, h2, h3, h4⟩ := h.ex
  have hb := hk.below (B := B) (fun k e => e ▸ hB) (by have := h1.lt; have := h.ge; omega)
  exact ⟨h.ge, A, c, h1.keep (hk.block g h1.lt hne), h2, h3, h4.below hb (Nat.le_refl _)⟩
theorem kept_row (F : Nat → Prop) (w : World) {g : Nat} (hg : F g) (cs : Array Value) : Kept F w (w.setRow g cs) :=
  ⟨rfl, rfl, rfl, by simp [World.setRow], fun k _ hn => setRow_other w g k cs (by rintro rfl; exact hn hg)⟩
def OneRet (w : World) (B g : Nat) (r : OpV × List UInt8 × Nat) (en : Ending) (w' : World) : Prop := en = .returned (.agg (encO r.1).toArray) ∧ Kept (fun k => k = g) w w' ∧ RdAt w' B g r.2.1 r.2.2
set_option maxRecDepth 100000 in
set_option maxHeartbeats 8000000 in
theorem one19_any {w : World} {B g e0 : Nat} {l : List UInt8} (h : RdAt w B g l e0) : Calls Tryz.prog 256 #[.pointer (some ⟨g, 0, none⟩)] w (OneRet w B g (oneRd l e0)) := by
  have H := Lib.hid h
  have hg : g < w.heap.size := by obtain ⟨_, _, h1, _⟩ := h.ex; exact h1.lt
  have hBw : Hid (B ≤ w.heap.size) := by have := h.ge; rw [Hid]; omega
  clear h
  have hcN : ∀ args u, (callFunc 176 args).run Tryz.prog u = .ok (.enter 176 args) u := enters_of Tryz.func176 (by kernel_rfl) rfl
  have hcU : ∀ args u, (callFunc 315 args).run Tryz.prog u = .ok (.enter 315 args) u := enters_of Tryz.func315 (by kernel_rfl) rfl
  have KR0 : Hid (Blk (w.alloc (.cells #[.int .u8 0, .int .u8 0, .int .u16 0, .int .u8 0, .int .u8 0, .int .u16 0, .int .u8 0, .string ByteArray.empty] 122)) w.heap.size 122 #[.int .u8 0, .int .u8 0, .int .u16 0, .int .u8 0, .int .u8 0, .int .u16 0, .int .u8 0, .string ByteArray.empty]) := Blk.new _ _ _
  have B0 : Hid (Below w.heap.size w (w.alloc (.cells #[.int .u8 0, .int .u8 0, .int .u16 0, .int .u8 0, .int .u8 0, .int .u16 0, .int .u8 0, .string ByteArray.empty] 122))) := below_new _ _
  go_enter Tryz.func256, Tryz.ntmps256
  go_upto_region 1 with (refine wpList_alloced (allocOp _) ?_)
  generalize (w.alloc (.cells #[.int .u8 0, .int .u8 0, .int .u16 0, .int .u8 0, .int .u8 0, .int .u16 0, .int .u8 0, .string ByteArray.empty] 122)) = w2 at *
  obtain ⟨gr, hgr⟩ : ∃ gr, gr = w.heap.size := ⟨_, rfl⟩
  rw [← hgr] at KR0 hg ⊢
  replace hgr := Lib.hid hgr
  have H2 := Lib.hid (H.out.ext B0.out)
  have KW2 : Hid (Kept (fun k => k = g) w w2) := Kept.of_below B0.out
  go_wp2_with fail
  refine (rdByte_any H2.out 5).mono ?_
  rintro e w3 ⟨rfl, kp, R⟩
  have hkl := rByte_le 5 l e0
  have hone : Hid (oneRd l e0 = bindR (refsR (rByte 5 l e0).1) (fun v => bindR (textR (rByte 5 l e0).1) fun t => pureR (kindF (rByte 5 l e0).1, v.1, v.2, bytesOf t)) (rByte 5 l e0).2.1 (rByte 5 l e0).2.2) := rfl
  obtain ⟨k, l1, e1, hB⟩ : ∃ x y z, rByte 5 l e0 = (x, y, z) := ⟨_, _, _, rfl⟩
  rw [hB] at hkl R hone ⊢
  dsimp only at hkl R hone ⊢
  clear hB
  have KW3 : Hid (Kept (fun k => k = g) w w3) := KW2.out.trans kp fun _ e => .inl e
  have R3 := Lib.hid R
  have KR3 := Lib.hid (KR0.out.keep (kp.block gr KR0.out.lt (by omega)))
  clear kp R KW2 KR0 H2 H B0
  have KO : Hid (Blk (w3.alloc (.cells #[.int .u8 (k : Int), .int .u8 0, .int .u16 0, .int .u8 0, .int .u8 0, .int .u16 0, .int .u8 0, .string ⟨#[]⟩] 122)) w3.heap.size 122 (encO (emptyO k)).toArray) := by
    rw [Hid, emptyO_lit k (by omega)]
    exact Blk.new _ _ _
  have BN : Hid (Below w3.heap.size w3 (w3.alloc (.cells #[.int .u8 (k : Int), .int .u8 0, .int .u16 0, .int .u8 0, .int .u8 0, .int .u16 0, .int .u8 0, .string ⟨#[]⟩] 122))) := below_new _ _
  go_upto_region 2 with fail
  generalize (w3.alloc (.cells #[.int .u8 (k : Int), .int .u8 0, .int .u16 0, .int .u8 0, .int .u8 0, .int .u16 0, .int .u8 0, .string ⟨#[]⟩] 122)) = w4 at *
  have KW4 : Hid (Kept (fun k => k = g) w w4) := KW3.out.then BN.out
  have R4 := Lib.hid (R3.out.ext BN.out)
  have KR4 := Lib.hid (KR3.out.ext BN.out)
  have hog : Hid (w3.heap.size ≠ g ∧ w3.heap.size ≠ gr) := by
    have h1 := KW3.out.size
    have h2 := KR3.out.lt
    have := hgr.out
    rw [Hid]; omega
  have hws3 : Hid (w.heap.size ≤ w3.heap.size) := KW3.out.size
  clear BN R3 KR3 KW3
  obtain ⟨go, hgo⟩ : ∃ go, go = w3.heap.size := ⟨_, rfl⟩
  have hgo3 : Hid (w.heap.size ≤ go) := by rw [Hid, hgo]; exact hws3.out
  rw [← hgo] at KO hog ⊢
  have hgoW : Hid (w.heap.size ≤ go) := by have := KW4.out.size; have := hgo3.out; rw [Hid]; omega
  have hgB : Hid (B ≤ go) := by have := hBw.out; have := hgoW.out; rw [Hid]; omega
  clear hgo hgo3
  have BA : Hid (Below w4.heap.size w4 (w4.alloc (.cells #[.pointer (some ⟨go, 1, none⟩), .pointer (some ⟨go, 4, none⟩)] 407))) := below_new _ _
  have KA : Hid (Blk (w4.alloc (.cells #[.pointer (some ⟨go, 1, none⟩), .pointer (some ⟨go, 4, none⟩)] 407)) w4.heap.size 407 #[.pointer (some ⟨go, 1, none⟩), .pointer (some ⟨go, 4, none⟩)]) := Blk.new _ _ _
  go_upto_region 3 with fail
  generalize (w4.alloc (.cells #[.pointer (some ⟨go, 1, none⟩), .pointer (some ⟨go, 4, none⟩)] 407)) = w5 at *
  have KW5 : Hid (Kept (fun k => k = g) w w5) := KW4.out.then BA.out
  have R5 := Lib.hid (R4.out.ext BA.out)
  have KR5 := Lib.hid (KR4.out.ext BA.out)
  have KO5 := Lib.hid (KO.out.ext BA.out)
  have hag : Hid (w4.heap.size ≠ g ∧ w4.heap.size ≠ gr ∧ w4.heap.size ≠ go) := by
    have h1 := KW4.out.size
    have h2 := KR4.out.lt
    have h3 := KO.out.lt
    rw [Hid]; omega
  clear BA R4 KR4 KW4 KO
  obtain ⟨ga, hga⟩ : ∃ ga, ga = w4.heap.size := ⟨_, rfl⟩
  rw [← hga] at KA hag ⊢
  clear hga
  go_wp2_with (refine wpList_load_row rfl 122 _ (by rfl) go (by rfl) _ _ _ _ KO5.out underOp rfl infoOp ?_)
  refine (refsN (emptyO k) _).mono ?_
  rintro e w6 ⟨AR, cR, rfl, _, _, b6⟩
  have KW6 : Hid (Kept (fun k => k = g) w w6) := KW5.out.then b6
  have R6 := Lib.hid (R5.out.ext b6)
  have KR6 := Lib.hid (KR5.out.ext b6)
  have KO6 := Lib.hid (KO5.out.ext b6)
  have KA6 := Lib.hid (KA.out.ext b6)
  clear b6 KW5 R5 KR5 KO5 KA
  have RG := Lib.hid (refsG_all k (by omega))
  have hnr := refsO_le (emptyO k)
  obtain ⟨nr, hn⟩ : ∃ nr, nr = (refsO (emptyO k)).length := ⟨_, rfl⟩
  rw [← hn] at RG hnr ⊢
  replace hn := Lib.hid hn
  go_wp2_with fail
  go_loopw [15] (fun v wr => ∃ (j : Nat) (o : OpV) (l' : List UInt8) (e' : Nat), j ≤ nr ∧ v = .int .i64 (j : Int) ∧ Hid (o.1 = kindF k ∧ o.2.2.2 = ByteArray.empty) ∧ Hid (Blk wr go 122 (encO o).toArray) ∧ Hid (Blk wr ga 407 #[.pointer (some ⟨go, 1, none⟩), .pointer (some ⟨go, 4, none⟩)]) ∧ Hid (Blk wr gr 122 #[.int .u8 0, .int .u8 0, .int .u16 0, .int .u8 0, .int .u8 0, .int .u16 0, .int .u8 0, .string ByteArray.empty]) ∧ Hid (RdAt wr B g l' e') ∧ Hid (Kept (fun k => k = g) w wr) ∧ Hid (refsG (nr - j) j (o.2.1, o.2.2.1) l' e' = refsR k l1 e1)) (fun v _ => nr - (intOf v).toNat)
  case atStart => exact ⟨0, emptyO k, l1, e1, by omega, rfl, ⟨rfl, rfl⟩, KO6.out, KA6.out, KR6.out, R6.out, KW6.out, by rw [Nat.sub_zero]; exact congrFun (congrFun RG.out l1) e1⟩
  case round =>
    clear KW6 R6 KR6 KO6 KA6 RG
    obtain ⟨j, o, l', e', hj, rfl, HO, KO, KA, KR, RD, KW, RR⟩ := hrel
    have hj0 : (0 : Int) ≤ (j : Int) := by omega
    by_cases hlt : j < nr
    · have hji : (j : Int) < (nr : Int) := by omega
      have hj2 : j < 2 := by omega
      have HIX := Lib.hid (fun u => indexPV ga 2 2 j hj2 u)
      have SA : Hid (wr.cell? ⟨ga, j, none⟩ = some (.pointer (some ⟨go, offV j, none⟩))) := by
        have := KA.out.cell j
        match j, hj2 with
        | 0, _ => exact this
        | 1, _ => exact this
      go_upto_region 6 with fail
      try go_frame
      refine wp_region_held (S := fun w' => w'.cell? ⟨ga, j, none⟩ = some (.pointer (some ⟨go, offV j, none⟩))) mixedS ?_
      change wpAnyH _ _ _ _ _ _ _ _ wr.drew
      have S9 : Hid (wr.drew.cell? ⟨ga, j, none⟩ = some (.pointer (some ⟨go, offV j, none⟩))) := SA.out
      have RD9 := Lib.hid (RD.out.ext ((Below.refl wr.heap.size wr).drew))
      have KO9 : Hid (Blk wr.drew go 122 (encO o).toArray) := KO.out
      have KA9 : Hid (Blk wr.drew ga 407 #[.pointer (some ⟨go, 1, none⟩), .pointer (some ⟨go, 4, none⟩)]) := KA.out
      have KR9 : Hid (Blk wr.drew gr 122 #[.int .u8 0, .int .u8 0, .int .u16 0, .int .u8 0, .int .u8 0, .int .u16 0, .int .u8 0, .string ByteArray.empty]) := KR.out
      have KW9 : Hid (Kept (fun k => k = g) w wr.drew) := KW.out.drew
      clear SA RD KO KA KR KW
      generalize wr.drew = w9 at *
      simp only [List.size_toArray, List.length_cons, List.length_nil]
      refine takeV (i := 0) (d := 18) (v := .slice (some ⟨ga, 0, none⟩) 2 2) rfl (by kernel_rfl) (by kernel_rfl) (by kernel_rfl) (fun _ _ _ h => h) rfl (fun _ _ => exMove (v := .slice (some ⟨ga, 0, none⟩) 2 2) rfl) S9.out ?_
      simp only [Act.put, List.setIfInBounds_toArray, List.set_cons_zero, List.set_cons_succ]
      refine takeV (i := 1) (d := 19) (v := .int .i64 ((j : Nat) : Int)) rfl (by kernel_rfl) (by kernel_rfl) (by kernel_rfl) (fun _ _ _ h => h) rfl (fun _ _ => exMove (v := .int .i64 ((j : Nat) : Int)) rfl) S9.out ?_
      simp only [Act.put, List.setIfInBounds_toArray, List.set_cons_zero, List.set_cons_succ]
      refine takeV (i := 2) (d := 20) (v := .pointer (some ⟨ga, j, none⟩)) rfl (by kernel_rfl) (by kernel_rfl) (by kernel_rfl) (fun _ _ _ h => h) rfl (fun w' _ => exIndex rfl rfl (HIX.out w')) S9.out ?_
      simp only [Act.put, List.setIfInBounds_toArray, List.set_cons_zero, List.set_cons_succ]
      refine takeV (i := 3) (d := 21) (v := .pointer (some ⟨go, offV j, none⟩)) rfl (by kernel_rfl) (by kernel_rfl) (by kernel_rfl) (fun _ _ _ h => h) rfl (fun w' h => exLoad rfl (loadPV ga j w' _ h)) S9.out ?_
      simp only [Act.put, List.setIfInBounds_toArray, List.set_cons_zero, List.set_cons_succ]
      refine takeV (i := 4) (d := 22) (v := .pointer (some ⟨g, 0, none⟩)) rfl (by kernel_rfl) (by kernel_rfl) (by kernel_rfl) (fun _ _ _ h => h) rfl (fun _ _ => exMove (v := .pointer (some ⟨g, 0, none⟩)) rfl) S9.out ?_
      simp only [Act.put, List.setIfInBounds_toArray, List.set_cons_zero, List.set_cons_succ]
      refine wpAnyH_all (rs := [5]) (by kernel_rfl) (by simp) ?_
      intro i hi
      simp only [List.mem_cons, List.not_mem_nil, or_false] at hi
      subst hi
      refine wpOp_of rfl rfl (wp_called (args := #[.pointer (some ⟨g, 0, none⟩), .int .u64 4294967295]) hcN (by simp only [List.map_toArray, List.map_cons, List.map_nil]; rfl) (rdNum_any RD9.out 4294967295) ?_)
      rintro e w10 ⟨rfl, kp, rd⟩
      have hna := rNum_le 4294967295 l' e'
      have S10 : Hid (w10.cell? ⟨ga, j, none⟩ = some (.pointer (some ⟨go, offV j, none⟩))) := (World.cell?_of_block (a := ⟨ga, j, none⟩) (kp.block ga KA9.out.lt hag.out.1)).trans S9.out
      have KO10 := Lib.hid (KO9.out.keep (kp.block go KO9.out.lt hog.out.1))
      have KA10 := Lib.hid (KA9.out.keep (kp.block ga KA9.out.lt hag.out.1))
      have KR10 := Lib.hid (KR9.out.keep (kp.block gr KR9.out.lt (by omega)))
      have RD10 := Lib.hid rd
      have KW10 : Hid (Kept (fun k => k = g) w w10) := KW9.out.trans kp fun _ e => .inl e
      refine ⟨_, rfl, S10.out, ?_⟩
      simp only [Act.put, List.setIfInBounds_toArray, List.set_cons_zero, List.set_cons_succ]
      clear kp rd KO9 KA9 KR9 RD9 KW9 S9
      obtain ⟨a, ha⟩ : ∃ a, a = (rNum 4294967295 l' e').1 := ⟨_, rfl⟩
      rw [← ha] at hna ⊢
      replace ha := Lib.hid ha
      refine takeV (i := 6) (d := 24) (v := .int .u32 (a : Int)) rfl (by kernel_rfl) (by kernel_rfl) (by kernel_rfl) (fun _ _ _ h => h) rfl (fun w' _ => exConvB rfl (low32_run hna w')) S10.out ?_
      simp only [Act.put, List.setIfInBounds_toArray, List.set_cons_zero, List.set_cons_succ]
      refine wpAnyH_all (rs := [7]) (by kernel_rfl) (by simp) ?_
      intro i hi
      simp only [List.mem_cons, List.not_mem_nil, or_false] at hi
      subst hi
      refine wpOp_of rfl rfl (wp_called (args := #[.int .u32 (a : Int)]) hcU (by simp only [List.map_toArray, List.map_cons, List.map_nil]; rfl) (unpack19 a hna w10) ?_)
      rintro e w11 ⟨rfl, b11⟩
      have S11 : Hid (w11.cell? ⟨ga, j, none⟩ = some (.pointer (some ⟨go, offV j, none⟩))) := (b11.cell (p := ⟨ga, j, none⟩) KA10.out.lt).trans S10.out
      have KO11 := Lib.hid (KO10.out.ext b11)
      have KA11 := Lib.hid (KA10.out.ext b11)
      have KR11 := Lib.hid (KR10.out.ext b11)
      have RD11 := Lib.hid (RD10.out.ext b11)
      have KW11 : Hid (Kept (fun k => k = g) w w11) := KW10.out.then b11
      refine ⟨_, rfl, S11.out, ?_⟩
      simp only [Act.put, List.setIfInBounds_toArray, List.set_cons_zero, List.set_cons_succ]
      clear b11 KO10 KA10 KR10 RD10 KW10 S10
      refine takeV (i := 8) (d := 26) (v := .pointer (some ⟨go, offV j, none⟩)) rfl (by kernel_rfl) (by kernel_rfl) (by kernel_rfl) (fun _ _ _ h => h) rfl (fun _ _ => exNil rfl) S11.out ?_
      simp only [Act.put, List.setIfInBounds_toArray, List.set_cons_zero, List.set_cons_succ]
      refine wpAnyH_all (rs := [9]) (by kernel_rfl) (by simp) ?_
      intro i hi
      simp only [List.mem_cons, List.not_mem_nil, or_false] at hi
      subst hi
      have KOF := Lib.hid (op_set (j := j) KO11.out (unpackN a))
      have kp2 : Kept (fun k => k = go) w11 (w11.setCells go (offV j) (encV (unpackN a))) := (((Kept.refl (fun k => k = go) w11).setCell (p := ⟨go, offV j, none⟩) (.inl rfl) _).setCell (p := ⟨go, offV j + 1, none⟩) (.inl rfl) _).setCell (p := ⟨go, offV j + 1 + 1, none⟩) (.inl rfl) _
      refine wpOp_of rfl rfl (wpStored1 rfl rfl (run_storeAt_mid w11 go (offV j) 120 (encV (unpackN a)).toArray (there_op KO11.out (unpackN a)) infoVid (all_oneCell_toArray (encV_one (unpackN a)))) ?_)
      have KAF := Lib.hid (KA11.out.keep (kp2.block ga KA11.out.lt hag.out.2.2))
      have KRF := Lib.hid (KR11.out.keep (kp2.block gr KR11.out.lt (Ne.symm hog.out.2)))
      have RDF : Hid (RdAt (w11.setCells go (offV j) (encV (unpackN a))) B g (rNum 4294967295 l' e').2.1 (rNum 4294967295 l' e').2.2) := RD11.out.keepB kp2 (fun e => hog.out.1 e.symm) hgB.out
      have KWF : Hid (Kept (fun k => k = g) w (w11.setCells go (offV j) (encV (unpackN a)))) := KW11.out.trans kp2 fun x e => .inr (by rw [e]; exact hgoW.out)
      have SF : Hid ((w11.setCells go (offV j) (encV (unpackN a))).cell? ⟨ga, j, none⟩ = some (.pointer (some ⟨go, offV j, none⟩))) := (World.cell?_of_block (a := ⟨ga, j, none⟩) (kp2.block ga KA11.out.lt hag.out.2.2)).trans S11.out
      refine ⟨SF.out, ?_⟩
      refine wpAnyH_done (by kernel_rfl) ?_ _
      have RRF : Hid (refsG (nr - (j + 1)) (j + 1) ((setV o j (unpackN a)).2.1, (setV o j (unpackN a)).2.2.1) (rNum 4294967295 l' e').2.1 (rNum 4294967295 l' e').2.2 = refsR k l1 e1) := by
        rw [Hid, ← RR.out, show nr - j = (nr - (j + 1)) + 1 by omega]
        unfold setV
        show _ = refsG (nr - (j + 1)) (j + 1) (if j = 0 then (unpackN (rNum 4294967295 l' e').1, o.2.2.1) else (o.2.1, unpackN (rNum 4294967295 l' e').1)) (rNum 4294967295 l' e').2.1 (rNum 4294967295 l' e').2.2
        rw [← ha.out]
        split <;> rfl
      have HOF : Hid ((setV o j (unpackN a)).1 = kindF k ∧ (setV o j (unpackN a)).2.2.2 = ByteArray.empty) := by
        unfold setV
        split
        · exact HO.out
        · exact HO.out
      generalize (w11.setCells go (offV j) (encV (unpackN a))) = w12 at *
      clear kp2 RR HO KO11 KA11 KR11 RD11 KW11 S11 SF ha
      go_wp2_with fail
      go_roundw
      case rel => exact ⟨j + 1, setV o j (unpackN a), _, _, by omega, by go_num, HOF.out, KOF.out, KAF.out, KRF.out, RDF.out, KWF.out, RRF.out⟩
      case measure => simp [intOf]; omega
    · have hji : ¬ (j : Int) < (nr : Int) := by omega
      have hjn : nr - j = 0 := by omega
      have RR2 : Hid (refsR k l1 e1 = ((o.2.1, o.2.2.1), l', e')) := by
        have h1 := RR.out
        rw [hjn] at h1
        exact h1.symm
      have hkv : (kindF k).val = k := Nat.mod_eq_of_lt (by omega)
      have yk : wr.cell? ⟨go, 0, none⟩ = some (.int .u8 (k : Int)) := by
        have h1 := KO.out.cell 0
        have h2 : (encO o).toArray[0]? = some (.int .u8 ((o.1.val : Nat) : Int)) := rfl
        rw [h2, HO.out.1, hkv] at h1
        exact h1
      have hgrW : Hid (w.heap.size ≤ gr ∧ B ≤ gr) := by have := hgr.out; have := hBw.out; rw [Hid]; omega
      clear RR
      have HM := Lib.hid (named19_any k wr)
      cases hn : namedK k
      · rw [hn] at HM
        have hone2 : Hid (oneRd l e0 = (o, l', e')) := by
          rw [Hid, hone.out]
          unfold bindR
          rw [RR2.out]
          unfold textR
          rw [if_neg (by rw [hn]; decide)]
          show ((kindF k, o.2.1, o.2.2.1, bytesOf []), l', e') = (o, l', e')
          have e1 : (kindF k, o.2.1, o.2.2.1, bytesOf []) = o := by
            rw [← HO.out.1, show bytesOf [] = o.2.2.2 by rw [HO.out.2]; rfl]
          rw [e1]
        clear hone RR2
        go_wp2_with fail
        refine HM.out.mono ?_
        rintro e _ ⟨rfl, rfl⟩
        have kp3 : Kept (fun k => k = gr) wr (wr.setRow gr (encO o).toArray) := kept_row (fun k => k = gr) wr rfl _
        go_wp2_with (first
          | (refine wpList_load_row rfl 122 _ (by rfl) go (by rfl) _ _ _ _ KO.out underOp rfl infoOp ?_)
          | (refine wpList_store_row rfl 122 _ _ (by rfl) gr (encO o).toArray (by rfl) (by rfl) _ _ KR.out infoOp rfl (all_oneCell_toArray (encO_one o)) ?_))
        refine bodyPost_ret (results_cell_row rfl _ _ gr _ (encO o).toArray _ _ rfl (KR.out.row _) underOp rfl infoOp) rfl ?_
        rw [hone2.out]
        exact ⟨rfl, KW.out.trans kp3 fun x e => .inr (by rw [e]; exact hgrW.out.1), RD.out.keepB kp3 (by omega) hgrW.out.2⟩
      · rw [hn] at HM
        have HT := Lib.hid (rdText_any RD.out 60 (by omega))
        have hone2 : Hid (oneRd l e0 = ((o.1, o.2.1, o.2.2.1, bytesOf (rText 60 l' e').1), (rText 60 l' e').2.1, (rText 60 l' e').2.2)) := by
          rw [Hid, hone.out]
          unfold bindR
          rw [RR2.out]
          unfold textR
          rw [if_pos hn, HO.out.1]
          rfl
        clear hone RR2
        go_wp2_with fail
        refine HM.out.mono ?_
        rintro e _ ⟨rfl, rfl⟩
        go_wp2_with fail
        refine HT.out.mono ?_
        rintro e w13 ⟨rfl, kp, rd⟩
        have KO13 := Lib.hid (KO.out.keep (kp.block go KO.out.lt hog.out.1))
        have KR13 := Lib.hid (KR.out.keep (kp.block gr KR.out.lt (by omega)))
        have RD13 := Lib.hid rd
        have KW13 : Hid (Kept (fun k => k = g) w w13) := KW.out.trans kp fun _ e => .inl e
        clear kp rd HT HM KO KR KW RD yk KA
        generalize hT : bytesOf (rText 60 l' e').1 = T at *
        generalize (rText 60 l' e').2.1 = l2 at *
        generalize (rText 60 l' e').2.2 = e2 at *
        have y7 : w13.cell? ⟨go, 7, none⟩ = some (.string o.2.2.2) := KO13.out.cell 7
        have f7 : w13.frozen? ⟨go, 7, none⟩ = false := KO13.out.fr 7
        have kp4 : Kept (fun k => k = go) w13 (w13.setCell ⟨go, 7, none⟩ (.string T)) := (Kept.refl (fun k => k = go) w13).setCell (p := ⟨go, 7, none⟩) (.inl rfl) _
        have KO14 : Hid (Blk (w13.setCell ⟨go, 7, none⟩ (.string T)) go 122 (encO (o.1, o.2.1, o.2.2.1, T)).toArray) := KO13.out.set_ 7 (.string T)
        have KR14 := Lib.hid (KR13.out.keep (kp4.block gr KR13.out.lt (Ne.symm hog.out.2)))
        have RD14 : Hid (RdAt (w13.setCell ⟨go, 7, none⟩ (.string T)) B g l2 e2) := RD13.out.keepB kp4 (fun e => hog.out.1 e.symm) hgB.out
        have KW14 : Hid (Kept (fun k => k = g) w (w13.setCell ⟨go, 7, none⟩ (.string T))) := KW13.out.trans kp4 fun x e => .inr (by rw [e]; exact hgoW.out)
        go_upto_region 10 with fail
        clear y7 f7 kp4 KO13 KR13 RD13 KW13
        generalize (w13.setCell ⟨go, 7, none⟩ (.string T)) = w14 at *
        have kp3 : Kept (fun k => k = gr) w14 (w14.setRow gr (encO (o.1, o.2.1, o.2.2.1, T)).toArray) := kept_row (fun k => k = gr) w14 rfl _
        go_wp2_with (first
          | (refine wpList_load_row rfl 122 _ (by rfl) go (by rfl) _ _ _ _ KO14.out underOp rfl infoOp ?_)
          | (refine wpList_store_row rfl 122 _ _ (by rfl) gr (encO (o.1, o.2.1, o.2.2.1, T)).toArray (by rfl) (by rfl) _ _ KR14.out infoOp rfl (all_oneCell_toArray (encO_one (o.1, o.2.1, o.2.2.1, T))) ?_))
        refine bodyPost_ret (results_cell_row rfl _ _ gr _ (encO (o.1, o.2.1, o.2.2.1, T)).toArray _ _ rfl (KR14.out.row _) underOp rfl infoOp) rfl ?_
        rw [hone2.out]
        exact ⟨rfl, KW14.out.trans kp3 fun x e => .inr (by rw [e]; exact hgrW.out.1), RD14.out.keepB kp3 (by omega) hgrW.out.2⟩
end Go.Proofs.YtihggkmjalofiaaGreatDoor

/- Bytes are decoded: walked. -/
namespace Go.Proofs.YtihggkmjalofiaaGreatDoor
open Go.RowKit

theorem RdAt.below {w w' : World} {B g e C : Nat} {l : List UInt8} (h : RdAt w B g l e) (hb : Below C w w') (hC : g < C) : RdAt w' B g l e := by
  obtain ⟨A, c, h1, h2, h3, h4⟩ := h.ex
  exact ⟨h.ge, A, c, h1.below hb hC, h2, h3, h4.below hb (by have := h.ge; omega)⟩
theorem one_ok (l : List UInt8) (e : Nat) : (oneRd l e).1.2.2.2.size ≤ 60 := by
  unfold oneRd bindR pureR textR
  show (bytesOf _).size ≤ 60
  split
  · exact rText_len 60 _ _
  · exact Nat.zero_le _
theorem opsRd_stop {m e : Nat} {l : List UInt8} (h : m = 0 ∨ e ≠ 0) : opsRd m l e = ([], l, e) := by
  cases m with
  | zero => rfl
  | succ m =>
    unfold opsRd
    rw [if_pos (h.elim (fun h => by omega) id)]
theorem opsRd_go {m : Nat} {l : List UInt8} : opsRd (m + 1) l 0 = ((oneRd l 0).1 :: (opsRd m (oneRd l 0).2.1 (oneRd l 0).2.2).1, (opsRd m (oneRd l 0).2.1 (oneRd l 0).2.2).2) := by
  rfl
theorem low16_run {n : Nat} (h : n ≤ 65535) (w : World) : (convert 76 25 (.int .u64 (n : Int))).run Tryz.prog w = .ok (.int .u16 (n : Int)) w := by
  have e : IntKind.u16.wrap (n : Int) = (n : Int) := by simp [IntKind.wrap, IntKind.bits, IntKind.signed]; omega
  simp [go_sem, e]
def idR (a s : Nat) : PidV := (kindF a, ⟨s % 65536, Nat.mod_lt _ (by omega)⟩)
theorem idR_lit {a s : Nat} (ha : a < 256) (hs : s < 65536) : encP (idR a s) = [.int .u8 (a : Int), .int .u16 (s : Int)] := by
  unfold idR encP
  show [Value.int .u8 ((a % 256 : Nat) : Int), Value.int .u16 ((s % 65536 : Nat) : Int)] = _
  rw [Nat.mod_eq_of_lt ha, Nat.mod_eq_of_lt hs]
theorem own_opsAt {w : World} {base n c : Nat} {A : Option Addr} {l : List OpV} (h : w.ownsRow base 122 8 (.slice A n c) n (l.flatMap encO)) (hn : l.length = n) (ho : ∀ o ∈ l, OpV.ok o) : OpsAt w A n l := by
  obtain ⟨A', c', e, _, hs⟩ := Sl.of_own h
  cases e
  exact ⟨hn, hs, ho⟩
end Go.Proofs.YtihggkmjalofiaaGreatDoor

/- The chapter's example of a patch's bytes: walked. -/
namespace Go.Proofs.YtihggkmjalofiaaGreatDoor
open Go.RowKit

theorem own_bytes {w : World} {base n : Nat} {v : Value} {l : List UInt8} (h : w.ownsRow base 5 1 v n (encB l)) (hl : l.length = n) : ∃ A c, v = .slice A n c ∧ BytesAt w A n c l := by
  obtain ⟨A, c, rfl, hc, hs⟩ := Sl.of_own h
  refine ⟨A, c, rfl, hl, hc, ?_, hs⟩
  rcases h.2 with ⟨h1, h2⟩ | ⟨g, cap, cur, h1, _, _, _, hcm, _, _⟩
  · cases h1; unfold maxLen; omega
  · cases h1; exact hcm
end Go.Proofs.YtihggkmjalofiaaGreatDoor

/- What is written reads back: walked. -/
namespace Go.Proofs.YtihggkmjalofiaaGreatDoor
open Go.RowKit

theorem wpList_convG {P : Program} {ops : Array Oper} {rest : List Oper} {o : Oper} {a : Act} {w : World} {Q : Exit → Act → World → Prop} (hw : Region.wanted o (yielded ops a.tmps) = true) (s t : TypeId) (x : Operand) (ho : o.op = .convert s t x)
    {xv v : Value} (hx : a.eval x = xv) (hr : (convert s t xv).run P w = .ok v w) (h : wpList P ops Q rest (a.put o.dst v) w) : wpList P ops Q (o :: rest) a w :=
  wpList_wanted hw fun _ hK => by
    obtain ⟨d, op, ty, pos, after, gd⟩ := o
    cases ho
    unfold Oper.wp execOp
    simp only [hx, Sem.run_bind, hr, Result.andThen_ok, Sem.run_pure]
    exact hK _ _ h
theorem byte_of : ∀ {cs : List Value}, FlatOk [.int .u8] cs → ∃ b : UInt8, cs = enc1 b
  | [_], ⟨⟨a, rfl, ha⟩, _⟩ => by
    obtain ⟨h0, h1⟩ := u8_of ha
    obtain ⟨k, rfl⟩ := Int.eq_ofNat_of_zero_le h0
    refine ⟨UInt8.ofNat k, ?_⟩
    unfold enc1
    rw [UInt8.toNat_ofNat', Nat.mod_eq_of_lt (by omega)]
theorem RowsAt.bytes {w : World} {A : Option Addr} {n c : Nat} {rows : List (List Value)} (h : RowsAt [.int .u8] w A n c rows) : ∃ bs, BytesAt w A n c bs := by
  obtain ⟨bs, hz, _⟩ := rows_map enc1 (fun _ => True) rows (fun r hr => by
    obtain ⟨b, hb⟩ := byte_of (h.ok r hr)
    exact ⟨b, hb, trivial⟩)
  have hsl := h.sl
  rw [hz, ← List.flatMap_def] at hsl
  exact ⟨bs, ⟨by rw [← h.len, hz]; simp, h.le, h.cap, hsl⟩⟩
end Go.Proofs.YtihggkmjalofiaaGreatDoor

/- Bytes that are cut short, and bytes with one more: walked. -/
namespace Go.Proofs.YtihggkmjalofiaaGreatDoor
open Go.RowKit

theorem wpList_built0 {P : Program} {ops : Array Oper} {rest : List Oper} {a : Act} {w : World} {Q : Exit → Act → World → Prop} {t e : TypeId} {size bytes : Nat} {d : Option Tmp} {ty : TypeId} {pos : String} {after : Array Edge} (T : SlT P t e size bytes)
    (h : wpList P ops Q rest (a.put d (.slice (some ⟨w.heap.size, 0, none⟩) 0 0)) (w.alloc (.cells #[] e))) : wpList P ops Q (⟨d, .buildSlice t 0 #[], ty, pos, after, none⟩ :: rest) a w :=
  wpList_plain rfl fun _ hK => by
    obtain ⟨i, z, hi, hz, hsz, hby, hzs⟩ := T.hi
    have hr : (Instr.buildSlice t 0 #[]).run P w = .ok (.slice (some ⟨w.heap.size, 0, none⟩) 0 0) (w.alloc (.cells #[] e)) := by
      simp [Instr.buildSlice, run_underlying T.ht, sizeOf, typeInfo, hi, Instr.fill, newRow]
      rw [show Array.map (fun _ => default) (Array.range 0) = (#[] : Array Value) from Array.eq_empty_of_size_eq_zero (by simp)]
    unfold Oper.wp execOp
    simp only [List.map_toArray, List.map_nil, Sem.run_bind, hr, Result.andThen_ok, Sem.run_pure]
    exact hK _ _ h
end Go.Proofs.YtihggkmjalofiaaGreatDoor
