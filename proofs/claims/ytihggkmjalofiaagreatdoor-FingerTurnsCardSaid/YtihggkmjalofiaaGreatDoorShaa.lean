/- The sum of bytes (SHA-256) as numbers; plain laws; no program in sight. -/
import Derived.Lib.Hide
namespace Go.Proofs.YtihggkmjalofiaaGreatDoor

abbrev W32 := BitVec 32
def wideS (x : UInt8) : W32 := x.toBitVec.setWidth 32

/-! ## the sum of bytes, as numbers -/
def rotS (x : W32) (n : Nat) : W32 := (x >>> n) ||| (x <<< (32 - n))
def byS (b : List UInt8) (i : Nat) : W32 := wideS (b.getD i 0)
def wordS (b : List UInt8) (i : Nat) : W32 := (((byS b (4 * i) <<< 24) ||| (byS b (4 * i + 1) <<< 16)) ||| (byS b (4 * i + 2) <<< 8)) ||| byS b (4 * i + 3)
def lowS (x : W32) : W32 := (rotS x 7 ^^^ rotS x 18) ^^^ (x >>> 3)
def topS (y : W32) : W32 := (rotS y 17 ^^^ rotS y 19) ^^^ (y >>> 10)
def atS (l : List W32) (i : Nat) : W32 := l.getD i 0#32
def nextS (b : List UInt8) (w : List W32) (i : Nat) : W32 := if i < 16 then wordS b i else ((atS w (i - 16) + atS w (i - 7)) + lowS (atS w (i - 15))) + topS (atS w (i - 2))
/-- the first i of the sixty-four numbers -/
def spreadS (b : List UInt8) : Nat → List W32
  | 0 => []
  | i + 1 => spreadS b i ++ [nextS b (spreadS b i) i]
theorem spreadS_len (b : List UInt8) : ∀ i, (spreadS b i).length = i
  | 0 => rfl
  | i + 1 => by rw [spreadS, List.length_append, spreadS_len b i]; rfl
def bigS (e : W32) : W32 := (rotS e 6 ^^^ rotS e 11) ^^^ rotS e 25
def midS (a : W32) : W32 := (rotS a 2 ^^^ rotS a 13) ^^^ rotS a 22
def tS (s : List W32) (k w : W32) : W32 := (((atS s 7 + bigS (atS s 4)) + ((atS s 4 &&& atS s 5) ^^^ (~~~(atS s 4) &&& atS s 6))) + k) + w
def uS (s : List W32) : W32 := midS (atS s 0) + (((atS s 0 &&& atS s 1) ^^^ (atS s 0 &&& atS s 2)) ^^^ (atS s 1 &&& atS s 2))
def stepS (s : List W32) (k w : W32) : List W32 := [tS s k w + uS s, atS s 0, atS s 1, atS s 2, atS s 3 + tS s k w, atS s 4, atS s 5, atS s 6]
def roundsS (K W : List W32) (h : List W32) : Nat → List W32
  | 0 => h
  | i + 1 => stepS (roundsS K W h i) (atS K i) (atS W i)
theorem roundsS_len {K W h : List W32} (hh : h.length = 8) : ∀ i, (roundsS K W h i).length = 8
  | 0 => hh
  | _ + 1 => rfl
def sumsS (h s : List W32) : List W32 := (List.range 8).map fun i => atS h i + atS s i
def blockS (K : List W32) (h : List W32) (b : List UInt8) : List W32 := sumsS h (roundsS K (spreadS b 64) h 64)
theorem blockS_len (K h : List W32) (b : List UInt8) : (blockS K h b).length = 8 := by unfold blockS sumsS; simp
/-- what is behind a message -/
def zerosS (n : Nat) : Nat := (119 - n % 64) % 64
def lenS (n : Nat) : List UInt8 := (List.range 8).map fun i => UInt8.ofNat (n * 8 / 256 ^ (7 - i))
def padS (l : List UInt8) : List UInt8 := l ++ [128] ++ List.replicate (zerosS l.length) 0 ++ lenS l.length
theorem lenS_len (n : Nat) : (lenS n).length = 8 := by unfold lenS; simp
/-- the state behind i blocks -/
def blocksS (K H : List W32) (l : List UInt8) : Nat → List W32
  | 0 => H
  | i + 1 => blockS K (blocksS K H l i) ((l.drop (64 * i)).take 64)
theorem blocksS_len {K H : List W32} (hH : H.length = 8) (l : List UInt8) : ∀ i, (blocksS K H l i).length = 8
  | 0 => hH
  | _ + 1 => blockS_len ..
def outS (h : List W32) : List UInt8 := (List.range 32).map fun i => UInt8.ofNat ((atS h (i / 4) >>> (24 - 8 * (i % 4))).toNat)
theorem outS_len (h : List W32) : (outS h).length = 32 := by unfold outS; simp
def sumS (K H : List W32) (l : List UInt8) : List UInt8 := outS (blocksS K H (padS l) ((padS l).length / 64))
theorem sumS_len (K H : List W32) (l : List UInt8) : (sumS K H l).length = 32 := outS_len _

/-! ## the document's spellings -/
theorem wideS_nat (x : UInt8) : (wideS x).toNat = x.toNat := by
  unfold wideS
  rw [BitVec.toNat_setWidth]
  have := x.toNat_lt
  show x.toNat % 4294967296 = _
  omega
def DigsD (l : List Nat) : Prop := ∀ d ∈ l, d < 65536
theorem DigsD.set {l : List Nat} (h : DigsD l) {j d : Nat} (hd : d < 65536) : DigsD (l.set j d) := fun x hx => by
  rcases List.mem_or_eq_of_mem_set hx with h1 | rfl
  · exact h x h1
  · exact hd
theorem DigsD.at {l : List Nat} (h : DigsD l) (j : Nat) : l.getD j 0 < 65536 := by
  rw [List.getD_eq_getElem?_getD]
  cases e : l[j]? with
  | none => simp
  | some x => exact h x (List.mem_of_getElem? e)
end Go.Proofs.YtihggkmjalofiaaGreatDoor

/- The constants of the sum are the roots of the first primes; plain laws; no program in sight. -/
namespace Go.Proofs.YtihggkmjalofiaaGreatDoor

/-! ## the constants: the roots of the first primes -/
def root3S : List Nat := [5411319704, 6194414737, 7344290767, 8215976869, 9551921755, 10098905585, 11043570340, 11460697813, 12214315672, 13195500289, 13492127166, 14311783875, 14809980276, 15046980094, 15499789991, 16133124468, 16720292289, 16907126662, 17444216262, 17784676812, 17950125167, 18429019306, 18734950876, 19175934170, 19734090066, 20001703533, 20132865992, 20390182855, 20516441075, 20764397895, 21588763473, 21813078375, 22141143685, 22248366392, 22769593852, 22871018771, 23170020180, 23461497531, 23651862830, 23931792517, 24205322401, 24295138891, 24734567280, 24820601251, 24990902297, 25075189284, 25569408389, 26045227120, 26200031510, 26276752392, 26428864332, 26653801653, 26727943347, 27092625994, 27306805839, 27517677555, 27725365998, 27793908591, 27997534228, 28131656200, 28198240250, 28526537963, 28973835255, 29099129074]
def root2S : List Nat := [6074000999, 7439101573, 9603838834, 11363415354, 14244795007, 15485724812, 17708603819, 18721328409]
def kS : List W32 := root3S.map (BitVec.ofNat 32)
def hS : List W32 := root2S.map (BitVec.ofNat 32)
end Go.Proofs.YtihggkmjalofiaaGreatDoor
