/- Bytes with their sum, sealed and opened, the program's and the document's: walked. -/
import Derived.Test.YtihggkmjalofiaaGreatDoorCrcp
import Derived.Test.YtihggkmjalofiaaGreatDoorBufs
import Derived.Test.YtihggkmjalofiaaGreatDoorPools
import Derived.Lib.LaidTab
import Derived.Test.YtihggkmjalofiaaGreatDoorPcds
import Derived.Test.YtihggkmjalofiaaGreatDoorIdxw
namespace Go.Proofs.YtihggkmjalofiaaGreatDoor
open Go.RowKit

theorem BytesAt.low {w : World} {A : Option Addr} {n c k : Nat} {l : List UInt8} (h : BytesAt w A n c l) (hk : k ≤ n) : BytesAt w (cutAddr A c k 1) (n - k) (c - k) (l.drop k) :=
  ⟨by rw [List.length_drop, h.len], by have := h.cap; omega, by have := h.big; omega, Sl.cutLow (k := k) (c := c) (l := l) (enc := enc1) h.sl h.len enc1_len hk h.cap⟩
theorem BytesAt.top {w : World} {A : Option Addr} {n c k : Nat} {l : List UInt8} (h : BytesAt w A n c l) (hk : k ≤ n) : BytesAt w (cutAddr A c 0 1) k c (l.take k) :=
  ⟨by rw [List.length_take, h.len]; omega, by have := h.cap; omega, h.big, Sl.cutHigh (k := k) (c := c) (l := l) (enc := enc1) h.sl h.len enc1_len hk⟩
end Go.Proofs.YtihggkmjalofiaaGreatDoor

/- The reference's reading of a number: walked. -/
namespace Go.Proofs.YtihggkmjalofiaaGreatDoor
open Go.RowKit

/-- the number of its groups of seven bits -/
def hv : List UInt8 → Nat
  | [] => 0
  | x :: t => x.toNat % 128 + 128 * hv t
end Go.Proofs.YtihggkmjalofiaaGreatDoor

/- The reference's reader: a byte, a number, the end: walked. -/
namespace Go.Proofs.YtihggkmjalofiaaGreatDoor
open Go.RowKit

/-- the reference's reader: what was not read, and what was wrong; the bytes lie below block B -/
structure RrAt (w : World) (B g : Nat) (l : List UInt8) (e : Nat) : Prop where
  ge : B ≤ g
  ex : ∃ A c, Blk w g 178 #[.slice A l.length c, .int .i64 (e : Int)] ∧ l.length ≤ c ∧ c ≤ maxLen ∧ Sl w B 1 A l.length (encB l)
theorem RrAt.ext {w w' : World} {B g e : Nat} {l : List UInt8} (h : RrAt w B g l e) (hb : Below w.heap.size w w') : RrAt w' B g l e := by
  obtain ⟨A, c, h1, h2, h3, h4⟩ := h.ex
  exact ⟨h.ge, A, c, h1.ext hb, h2, h3, h4.below hb (by have := h1.lt; have := h.ge; omega)⟩
end Go.Proofs.YtihggkmjalofiaaGreatDoor

/- The reference's reading of an operation: walked. -/
namespace Go.Proofs.YtihggkmjalofiaaGreatDoor
open Go.RowKit

theorem RrAt.keepB {w w' : World} {B g e go : Nat} {l : List UInt8} (h : RrAt w B g l e) (hk : Kept (fun k => k = go) w w') (hne : g ≠ go) (hB : B ≤ go) : RrAt w' B g l e := by
  obtain ⟨A, c, h1, h2, h3, h4⟩ := h.ex
  have hb := hk.below (B := B) (fun k e => e ▸ hB) (by have := h1.lt; have := h.ge; omega)
  exact ⟨h.ge, A, c, h1.keep (hk.block g h1.lt hne), h2, h3, h4.below hb (Nat.le_refl _)⟩
end Go.Proofs.YtihggkmjalofiaaGreatDoor

/- Bytes are opened by the document, and spoilt: walked. -/
namespace Go.Proofs.YtihggkmjalofiaaGreatDoor
open Go.RowKit

theorem str_ne5 {s t : ByteArray} (h : s ≠ t) : (s.toList == t.toList) = false := by
  rw [beq_eq_false_iff_ne]
  intro e
  rw [Lib.toList_data, Lib.toList_data] at e
  exact h (ByteArray.ext (Array.toList_inj.1 e))
theorem bytesOf_inj {a b : List UInt8} : bytesOf a = bytesOf b ↔ a = b := by
  constructor
  · intro h
    have := congrArg (fun s : ByteArray => s.data.toList) h
    simpa [bytesOf] using this
  · intro h; rw [h]
end Go.Proofs.YtihggkmjalofiaaGreatDoor

/- Bytes are spoilt by the document: walked: in 32 bits in a row at most. -/
namespace Go.Proofs.YtihggkmjalofiaaGreatDoor
open Go.RowKit

/-- a byte that differs at most where it is spoilt -/
def NearB (x y : UInt8) (i : Nat) (a : Int) : Prop := ∀ j, j < 8 → y.toBitVec.getLsbD (7 - j) ≠ x.toBitVec.getLsbD (7 - j) → a ≤ ((8 * i + j : Nat) : Int) ∧ ((8 * i + j : Nat) : Int) < a + 32
theorem NearB.refl (x : UInt8) (i : Nat) (a : Int) : NearB x x i a := fun _ _ h => absurd rfl h
def SpoilAt (l m : List UInt8) (a : Int) : Prop := ∀ (i : Nat) (x y : UInt8), l[i]? = some x → m[i]? = some y → NearB x y i a
theorem SpoilAt.nil (l : List UInt8) (a : Int) : SpoilAt l [] a := fun _ _ _ _ h => by simp at h
theorem SpoilAt.snoc {l m : List UInt8} {a : Int} {x y : UInt8} (h : SpoilAt l m a) (hx : l[m.length]? = some x) (hn : NearB x y m.length a) : SpoilAt l (m ++ [y]) a := fun i x' y' h1 h2 => by
  rcases Nat.lt_or_ge i m.length with c | c
  · rw [List.getElem?_append_left c] at h2
    exact h i x' y' h1 h2
  · rw [List.getElem?_append_right c] at h2
    match e : i - m.length, h2 with
    | 0, h2 =>
      have e2 : i = m.length := by omega
      subst e2
      rw [hx] at h1
      have h3 : y = y' := by simpa using h2
      rw [← Option.some.inj h1, ← h3]
      exact hn
    | q + 1, h2 => simp at h2
end Go.Proofs.YtihggkmjalofiaaGreatDoor
