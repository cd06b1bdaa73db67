/- Texts of general use, one behind another. -/
import Derived.Test.YtdafiipedlglpaaDoorCrcp
import Derived.Test.YtdafiipedlglpaaDoorBufs
import Derived.Test.YtdafiipedlglpaaDoorMsgb
import Derived.Test.YtdafiipedlglpaaDoorHints
import Derived.Lib.LaidTab
import Derived.Test.YtdafiipedlglpaaDoorPcds

/- The sum of bytes: walked, the program's and the document's. -/
namespace Go.Proofs.YtdafiipedlglpaaDoor
open Go.RowKit

def u32V (r : B32) : Value := .int .u32 ((r.toNat : Nat) : Int)
theorem wpList_un {P : Program} {ops : Array Oper} {rest : List Oper} {a : Act} {w : World} {Q : Exit → Act → World → Prop} {d : Option Tmp} {ty t : TypeId} {pos : String} {after : Array Edge} {op : UnOp} {x : Operand} {xv v : Value} (hx : a.eval x = xv) (hr : (Op.unary op xv).run P w = .ok v w)
    (h : wpList P ops Q rest (a.put d v) w) : wpList P ops Q (⟨d, .unOp op t x, ty, pos, after, none⟩ :: rest) a w :=
  wpList_plain rfl fun _ hK => by
    unfold Oper.wp execOp
    simp only [hx, Sem.run_bind, hr, Result.andThen_ok, Sem.run_pure]
    exact hK _ _ h
theorem not_ones (r : B32) : ~~~r = (~~~0#32) ^^^ r := by
  apply BitVec.eq_of_getLsbD_eq
  intro i hi
  rw [BitVec.getLsbD_xor, BitVec.getLsbD_not, BitVec.getLsbD_not, decide_eq_true hi]
  simp
theorem not32 (r : B32) (w : World) : (Op.unary .xor (u32V r)).run Tryd.prog w = .ok (u32V (~~~r)) w := by
  have e : (((~~~r).toNat : Nat) : Int) = bits .xor .u32 4294967295 ((r.toNat : Nat) : Int) := by
    have := u32_xor_nat 4294967295 r.toNat (by omega) r.isLt
    rw [show ((4294967295 : Nat) : Int) = 4294967295 from rfl] at this
    rw [this, not_ones, BitVec.toNat_xor]
    rfl
  unfold u32V
  rw [e]
  have m : IntKind.u32.max = 4294967295 := by decide
  simp [go_sem, IntKind.signed, m]
theorem xor32 (a b : B32) (w : World) : (binOp .xor 68 (u32V a) (u32V b)).run Tryd.prog w = .ok (u32V (a ^^^ b)) w := by
  unfold u32V
  rw [BitVec.toNat_xor, ← u32_xor_nat _ _ a.isLt b.isLt]
  simp [go_sem]
theorem shl32 (a : B32) (k : Nat) (hk : k < 32) (w : World) : (binOp .shl 68 (u32V a) (.int .u64 (k : Int))).run Tryd.prog w = .ok (u32V (a <<< k)) w := by
  have e2 : IntKind.u32.wrap (((a.toNat : Nat) : Int) * 2 ^ k) = (((a <<< k).toNat : Nat) : Int) := by
    rw [BitVec.toNat_shiftLeft, Nat.shiftLeft_eq]
    simp [IntKind.wrap, IntKind.signed, IntKind.bits]
  unfold u32V
  rw [← e2]
  have h2 : ((k : Int)).toNat = k := by omega
  simp [go_sem, h2]
theorem shr32 (a : B32) (k : Nat) (hk : k < 32) (w : World) : (binOp .shr 68 (u32V a) (.int .u64 (k : Int))).run Tryd.prog w = .ok (u32V (a >>> k)) w := by
  have e2 : ((a.toNat : Nat) : Int) / 2 ^ k = (((a >>> k).toNat : Nat) : Int) := by
    rw [BitVec.toNat_ushiftRight, Nat.shiftRight_eq_div_pow]
    norm_cast
  unfold u32V
  rw [← e2]
  have h2 : ((k : Int)).toNat = k := by omega
  simp [go_sem, h2]
def wideU (x : UInt8) : B32 := x.toBitVec.setWidth 32
theorem wideU_nat (x : UInt8) : (wideU x).toNat = x.toNat := by
  unfold wideU
  rw [BitVec.toNat_setWidth]
  have := x.toNat_lt
  show x.toNat % 4294967296 = _
  omega
theorem conv32 (x : UInt8) (w : World) : (convert 5 68 (.int .u8 ((x.toNat : Nat) : Int))).run Tryd.prog w = .ok (u32V (wideU x)) w := by
  have e2 : IntKind.u32.wrap ((x.toNat : Nat) : Int) = (((wideU x).toNat : Nat) : Int) := by
    rw [wideU_nat]
    have := x.toNat_lt
    exact IntWalk.u32_in _ (by omega)
  unfold u32V
  rw [← e2]
  simp [go_sem]
theorem upB_wide (x : UInt8) : upB x.toBitVec = wideU x <<< 24 := rfl
/-- the program's table, as it lies -/
abbrev FourOk (w : World) : Prop := Lib.TabIs Tryd.prog w "bruit/crc.four" .u32 (tabC.map fun r => ((r.toNat : Nat) : Int))
theorem gFour : Tryd.prog.globalNamed "bruit/crc.four" = some 0 := by kernel_rfl
theorem four_ext {w w' : World} (h : FourOk w) (hb : Below w.heap.size w w') : FourOk w' := by
  have hlt : 0 < w.heap.size := by
    rcases Nat.lt_or_ge 0 w.heap.size with h0 | h0
    · exact h0
    · unfold FourOk Lib.TabIs World.var? at h
      rw [gFour] at h
      simp [Array.getElem?_eq_none h0] at h
  have he := hb.block 0 hlt
  unfold FourOk Lib.TabIs at *
  rw [← h]
  unfold World.var?
  rw [gFour]
  simp only [Option.bind_some, he]
theorem four_cell {w : World} (h : FourOk w) {k : Nat} (hk : k < 16) : w.cell? ⟨0, k, none⟩ = some (u32V (tabC.getD k 0#32)) := by
  rw [Lib.TabIs.cell h gFour k (by rw [List.length_map]; exact hk)]
  unfold u32V
  have hl : k < tabC.length := hk
  rw [List.getD_eq_getElem?_getD, List.getElem?_map, List.getD_eq_getElem?_getD, List.getElem?_eq_getElem hl]
  rfl
theorem idxFour {a : B32} (w : World) : (Instr.indexAt 114 (.pointer (some ⟨0, 0, none⟩)) (u32V (a >>> 28))).run Tryd.prog w = .ok (.pointer (some ⟨0, (a >>> 28).toNat, none⟩)) w := by
  have hk : (a >>> 28).toNat < 16 := by rw [BitVec.toNat_ushiftRight, Nat.shiftRight_eq_div_pow]; have := a.isLt; omega
  unfold u32V
  generalize (a >>> 28).toNat = k at *
  have h0 : (0 : Int) ≤ (k : Int) := by omega
  have h1 : (k : Int) < 16 := by omega
  simp [go_sem, h0, h1]
theorem load32r (g i : Nat) (v : B32) (w : World) (h : w.cell? ⟨g, i, none⟩ = some (u32V v)) : (Instr.loadAt 68 (.pointer (some ⟨g, i, none⟩))).run Tryd.prog w = .ok (u32V v) w := by
  unfold u32V at *
  simp [go_sem, h]
theorem loadFour {w : World} (h : FourOk w) (a : B32) : (Instr.loadAt 68 (.pointer (some ⟨0, (a >>> 28).toNat, none⟩))).run Tryd.prog w = .ok (u32V (tabC.getD (a >>> 28).toNat 0#32)) w :=
  load32r _ _ _ w (four_cell h (by rw [BitVec.toNat_ushiftRight, Nat.shiftRight_eq_div_pow]; have := a.isLt; omega))
def halfB (a : B32) : B32 := (a <<< 4) ^^^ tabC.getD (a >>> 28).toNat 0#32
theorem crcB_half (r : B32) (x : B8) : crcB r x = halfB (halfB (r ^^^ upB x)) := crcB_tab r x
theorem toB8_snoc {l : List UInt8} {k : Nat} {x : UInt8} (h : l[k]? = some x) : toB8 (l.take (k + 1)) = toB8 (l.take k) ++ [x.toBitVec] := by
  have h1 : l.take (k + 1) = l.take k ++ [x] := by rw [List.take_add_one, h]; rfl
  rw [h1]
  unfold toB8
  rw [List.map_append]
  rfl
theorem crcL_snoc (r : B32) (l : List B8) (x : B8) : crcL r (l ++ [x]) = crcB (crcL r l) x := by rw [crcL_append]; rfl
/-- a byte as it lies -/
theorem byte_at {w : World} {B n : Nat} {A : Option Addr} {l : List UInt8} (h : Sl w B 1 A n (encB l)) {k : Nat} (hk : k < n) : ∃ b o x, A = some ⟨b, o, none⟩ ∧ b < B ∧ l[k]? = some x ∧ w.cell? ⟨b, o + k, none⟩ = some (.int .u8 ((x.toNat : Nat) : Int)) := by
  obtain ⟨b, o, u, e, hb, hu, hc⟩ := h.at_ hk
  rw [encB_at] at hu
  cases hx : l[k]? with
  | none => rw [hx] at hu; cases hu
  | some x => rw [hx] at hu; exact ⟨b, o, x, e, hb, rfl, by rw [hc, ← Option.some.inj hu]⟩
set_option maxRecDepth 100000 in
set_option maxHeartbeats 2000000 in
theorem more02_any (l : List UInt8) (s : B32) (w : World) (A : Option Addr) (n c : Nat) (h : BytesAt w A n c l) (hF : FourOk w) :
    Calls Tryd.prog 46 #[u32V s, .slice A n c] w (Ret w (u32V (moreC s (toB8 l)))) := by
  have hnm : n ≤ maxLen := Nat.le_trans h.cap h.big
  unfold maxLen at hnm
  have H := Lib.hid h.sl
  have HF := Lib.hid hF
  have E : Hid (moreC s (toB8 l) = ~~~ (crcL (~~~s) (toB8 l))) := rfl
  have hn := Lib.hid h.len
  have N0 := Lib.hid (fun u => not32 s u)
  clear h hF
  obtain ⟨t, ht⟩ : ∃ t, t = ~~~s := ⟨_, rfl⟩
  rw [← ht] at E N0
  rw [E.out]
  clear E ht
  generalize u32V s = sv at *
  go_enter Tryd.func46, Tryd.ntmps46
  go_wp2_with ((with_reducible refine wpList_un ?_ (N0.out _) ?_); rfl)
  go_loop [5, 12] (fun r i => ∃ k : Nat, k ≤ n ∧ r = u32V (crcL t (toB8 (l.take k))) ∧ i = .int .i64 (k : Int)) (fun _ i => n - (intOf i).toNat)
  case atStart => exact ⟨0, by omega, rfl, rfl⟩
  case round =>
    obtain ⟨k, hk, rfl, rfl⟩ := hrel
    have hk0 : (0 : Int) ≤ (k : Int) := by omega
    by_cases hlt : k < n
    · have hlk : (k : Int) < (n : Int) := by omega
      obtain ⟨b, o, x, rfl, hb, hx, hc⟩ := byte_at H.out hlt
      have EN : Hid (crcL t (toB8 (l.take (k + 1))) = halfB (halfB (crcL t (toB8 (l.take k)) ^^^ (wideU x <<< 24)))) := by
        rw [Hid, toB8_snoc hx, crcL_snoc, crcB_half, upB_wide]
      clear hx hb
      generalize crcL t (toB8 (l.take k)) = r at *
      have C1 := Lib.hid (fun u => conv32 x u)
      have S1 : Hid (∀ u, (binOp .shl 68 (u32V (wideU x)) (.int .u64 24)).run Tryd.prog u = .ok (u32V (wideU x <<< 24)) u) := fun u => shl32 (wideU x) 24 (by omega) u
      generalize wideU x = y at *
      have X1 := Lib.hid (fun u => xor32 r (y <<< 24) u)
      generalize y <<< 24 = z at *
      generalize r ^^^ z = a at *
      have S2 : Hid (∀ u, (binOp .shl 68 (u32V a) (.int .u64 4)).run Tryd.prog u = .ok (u32V (a <<< 4)) u) := fun u => shl32 a 4 (by omega) u
      have R2 : Hid (∀ u, (binOp .shr 68 (u32V a) (.int .u64 28)).run Tryd.prog u = .ok (u32V (a >>> 28)) u) := fun u => shr32 a 28 (by omega) u
      have I2 := Lib.hid (fun u => idxFour (a := a) u)
      have L2 := Lib.hid (loadFour HF.out a)
      have X2 : Hid (∀ u, (binOp .xor 68 (u32V (a <<< 4)) (u32V (tabC.getD (a >>> 28).toNat 0#32))).run Tryd.prog u = .ok (u32V (halfB a)) u) := fun u => xor32 _ _ u
      generalize halfB a = a2 at *
      generalize tabC.getD (a >>> 28).toNat 0#32 = f2 at *
      generalize (a >>> 28).toNat = i2 at *
      generalize a <<< 4 = s2 at *
      generalize a >>> 28 = r2 at *
      have S3 : Hid (∀ u, (binOp .shl 68 (u32V a2) (.int .u64 4)).run Tryd.prog u = .ok (u32V (a2 <<< 4)) u) := fun u => shl32 a2 4 (by omega) u
      have R3 : Hid (∀ u, (binOp .shr 68 (u32V a2) (.int .u64 28)).run Tryd.prog u = .ok (u32V (a2 >>> 28)) u) := fun u => shr32 a2 28 (by omega) u
      have I3 := Lib.hid (fun u => idxFour (a := a2) u)
      have L3 := Lib.hid (loadFour HF.out a2)
      have X3 : Hid (∀ u, (binOp .xor 68 (u32V (a2 <<< 4)) (u32V (tabC.getD (a2 >>> 28).toNat 0#32))).run Tryd.prog u = .ok (u32V (halfB a2)) u) := fun u => xor32 _ _ u
      generalize halfB a2 = a3 at *
      generalize tabC.getD (a2 >>> 28).toNat 0#32 = f3 at *
      generalize (a2 >>> 28).toNat = i3 at *
      generalize a2 <<< 4 = s3 at *
      generalize a2 >>> 28 = r3 at *
      go_wp2_with (first
        | ((with_reducible refine wpList_convB ?_ (C1.out _) ?_); rfl)
        | ((with_reducible refine wpList_comp ?_ ?_ ?_ (S1.out _) ?_); rfl; rfl; rfl)
        | ((with_reducible refine wpList_comp ?_ ?_ ?_ (X1.out _) ?_); rfl; rfl; rfl)
        | ((with_reducible refine wpList_comp ?_ ?_ ?_ (S2.out _) ?_); rfl; rfl; rfl)
        | ((with_reducible refine wpList_comp ?_ ?_ ?_ (R2.out _) ?_); rfl; rfl; rfl)
        | ((with_reducible refine wpList_comp ?_ ?_ ?_ (X2.out _) ?_); rfl; rfl; rfl)
        | ((with_reducible refine wpList_comp ?_ ?_ ?_ (S3.out _) ?_); rfl; rfl; rfl)
        | ((with_reducible refine wpList_comp ?_ ?_ ?_ (R3.out _) ?_); rfl; rfl; rfl)
        | ((with_reducible refine wpList_comp ?_ ?_ ?_ (X3.out _) ?_); rfl; rfl; rfl)
        | ((with_reducible refine wpList_idx ?_ ?_ (I2.out _) ?_); rfl; rfl)
        | ((with_reducible refine wpList_idx ?_ ?_ (I3.out _) ?_); rfl; rfl)
        | ((with_reducible refine wpList_ld ?_ L2.out ?_); rfl)
        | ((with_reducible refine wpList_ld ?_ L3.out ?_); rfl))
      go_round
      case rel => exact ⟨k + 1, by omega, by rw [EN.out], by go_num⟩
      case measure => simp [intOf]; omega
    · have hlk : ¬ (k : Int) < (n : Int) := by omega
      rw [List.take_of_length_le (by rw [hn.out]; omega)]
      have N1 := Lib.hid (fun u => not32 (crcL t (toB8 l)) u)
      generalize crcL t (toB8 l) = r at *
      generalize ~~~r = r2 at *
      go_wp2_with ((with_reducible refine wpList_un ?_ (N1.out _) ?_); rfl)
      go_ret
      exact ⟨rfl, rfl⟩
end Go.Proofs.YtdafiipedlglpaaDoor

/- The document's sum of bytes, bit by bit: walked. -/
namespace Go.Proofs.YtdafiipedlglpaaDoor
open Go.RowKit

end Go.Proofs.YtdafiipedlglpaaDoor

/- Bytes with their sum, sealed and opened, the program's and the document's: walked. -/
namespace Go.Proofs.YtdafiipedlglpaaDoor
open Go.RowKit

theorem BytesAt.low {w : World} {A : Option Addr} {n c k : Nat} {l : List UInt8} (h : BytesAt w A n c l) (hk : k ≤ n) : BytesAt w (cutAddr A c k 1) (n - k) (c - k) (l.drop k) :=
  ⟨by rw [List.length_drop, h.len], by have := h.cap; omega, by have := h.big; omega, Sl.cutLow (k := k) (c := c) (l := l) (enc := enc1) h.sl h.len enc1_len hk h.cap⟩
theorem BytesAt.top {w : World} {A : Option Addr} {n c k : Nat} {l : List UInt8} (h : BytesAt w A n c l) (hk : k ≤ n) : BytesAt w (cutAddr A c 0 1) k c (l.take k) :=
  ⟨by rw [List.length_take, h.len]; omega, by have := h.cap; omega, h.big, Sl.cutHigh (k := k) (c := c) (l := l) (enc := enc1) h.sl h.len enc1_len hk⟩
theorem conv8 (a : B32) (w : World) : (convert 68 5 (u32V a)).run Tryd.prog w = .ok (.int .u8 (((a.setWidth 8).toNat : Nat) : Int)) w := by
  have e : ((((a.setWidth 8 : BitVec 8)).toNat : Nat) : Int) = IntKind.u8.wrap ((a.toNat : Nat) : Int) := by
    rw [BitVec.toNat_setWidth]
    simp [IntKind.wrap, IntKind.signed, IntKind.bits]
  rw [e]
  unfold u32V
  simp [go_sem]
theorem own_lit4 (w : World) (a b c d : Int) : (w.alloc (.cells #[.int .u8 a, .int .u8 b, .int .u8 c, .int .u8 d] 5)).ownsRow w.heap.size 5 1 (.slice (some ⟨w.heap.size, 0, none⟩) 4 4) 4 [.int .u8 a, .int .u8 b, .int .u8 c, .int .u8 d] :=
  ⟨rfl, .inr ⟨w.heap.size, 4, #[.int .u8 a, .int .u8 b, .int .u8 c, .int .u8 d], rfl, Nat.le_refl _, heap_alloc_new w _, Nat.le_refl _, by simp [maxLen], rfl, rfl⟩⟩
theorem four_enc (s : B32) : encB (fourU s) = [.int .u8 ((((s >>> 24).setWidth 8 : BitVec 8).toNat : Nat) : Int), .int .u8 ((((s >>> 16).setWidth 8 : BitVec 8).toNat : Nat) : Int), .int .u8 ((((s >>> 8).setWidth 8 : BitVec 8).toNat : Nat) : Int), .int .u8 (((s.setWidth 8 : BitVec 8).toNat : Nat) : Int)] := rfl
set_option maxRecDepth 100000 in
set_option maxHeartbeats 2000000 in
theorem sum02_any {l : List UInt8} {w : World} {A : Option Addr} {n c : Nat} (h : BytesAt w A n c l) (hF : FourOk w) (b o c1 : Nat) (hc : w.cell? ⟨b, o, none⟩ = some (.slice A n c)) :
    Calls Tryd.prog 26 #[.slice (some ⟨b, o, none⟩) 1 c1] w (Ret w (u32V (sumC (toB8 l)))) := by
  have HM : Hid (Calls Tryd.prog 46 #[.int .u32 0, .slice A n c] w (Ret w (u32V (sumC (toB8 l))))) := more02_any l 0#32 w A n c h hF
  clear h hF
  generalize u32V (sumC (toB8 l)) = S at *
  go_enter Tryd.func26, Tryd.ntmps26
  go_wp2_with fail
  go_loop [3, 8] (fun r i => (i = .int .i64 0 ∧ r = .int .u32 0) ∨ (i = .int .i64 1 ∧ r = S)) (fun _ i => 1 - (intOf i).toNat)
  case atStart => exact .inl ⟨rfl, rfl⟩
  case round =>
    rcases hrel with ⟨rfl, rfl⟩ | ⟨rfl, rfl⟩
    · go_wp2_with fail
      refine HM.out.mono ?_
      rintro e w3 ⟨rfl, rfl⟩
      go_wp2_with fail
      go_round
      case rel => exact .inr ⟨rfl, rfl⟩
      case measure => simp [intOf]
    · go_wp2_with fail
      go_ret
      exact ⟨rfl, rfl⟩
end Go.Proofs.YtdafiipedlglpaaDoor

/- Bytes are sealed, and opened, by the program: walked. -/
namespace Go.Proofs.YtdafiipedlglpaaDoor
open Go.RowKit

theorem shr32l (a : B32) (k : Nat) (m : Int) (hm : m = (k : Int)) (hk : k < 32) (w : World) : (binOp .shr 68 (u32V a) (.int .u64 m)).run Tryd.prog w = .ok (u32V (a >>> k)) w := by subst hm; exact shr32 a k hk w
theorem shl32l (a : B32) (k : Nat) (m : Int) (hm : m = (k : Int)) (hk : k < 32) (w : World) : (binOp .shl 68 (u32V a) (.int .u64 m)).run Tryd.prog w = .ok (u32V (a <<< k)) w := by subst hm; exact shl32 a k hk w
theorem or32 (a b : B32) (w : World) : (binOp .or 68 (u32V a) (u32V b)).run Tryd.prog w = .ok (u32V (a ||| b)) w := by
  unfold u32V
  rw [BitVec.toNat_or, ← u32_or_nat _ _ a.isLt b.isLt]
  simp [go_sem]
theorem neq32 (a b : B32) (w : World) : (binOp .neq 68 (u32V a) (u32V b)).run Tryd.prog w = .ok (.bool (!decide (a = b))) w := by
  have e : (((a.toNat : Nat) : Int) != ((b.toNat : Nat) : Int)) = !decide (a = b) := by
    by_cases h : a = b
    · subst h; simp
    · have h2 : a.toNat ≠ b.toNat := fun e => h (BitVec.eq_of_toNat_eq e)
      rw [decide_eq_false h]
      simp only [Bool.not_false]
      rw [bne_iff_ne]; omega
  unfold u32V
  rw [← e]
  simp [go_sem]
theorem neqg32 (x y : Operand) (a b : B32) (w : World) : (eqGuard .neq 68 x y (u32V a) (u32V b)).run Tryd.prog w = .ok () w := by
  unfold u32V
  simp [eqGuard, go_sem]
def wordU (t : List UInt8) : B32 := t.foldl (fun s x => (s <<< 8) ||| wideU x) 0#32
theorem wordU_snoc (t : List UInt8) (x : UInt8) : wordU (t ++ [x]) = (wordU t <<< 8) ||| wideU x := by unfold wordU; rw [List.foldl_append]; rfl
theorem word_four (s : B32) : wordU (fourU s) = s := by
  apply BitVec.eq_of_getLsbD_eq
  intro i hi
  have : i = 0 ∨ i = 1 ∨ i = 2 ∨ i = 3 ∨ i = 4 ∨ i = 5 ∨ i = 6 ∨ i = 7 ∨ i = 8 ∨ i = 9 ∨ i = 10 ∨ i = 11 ∨ i = 12 ∨ i = 13 ∨ i = 14 ∨ i = 15 ∨ i = 16 ∨ i = 17 ∨ i = 18 ∨ i = 19 ∨ i = 20 ∨ i = 21 ∨ i = 22 ∨ i = 23 ∨ i = 24 ∨ i = 25 ∨ i = 26 ∨ i = 27 ∨ i = 28 ∨ i = 29 ∨ i = 30 ∨ i = 31 := by omega
  rcases this with rfl | rfl | rfl | rfl | rfl | rfl | rfl | rfl | rfl | rfl | rfl | rfl | rfl | rfl | rfl | rfl | rfl | rfl | rfl | rfl | rfl | rfl | rfl | rfl | rfl | rfl | rfl | rfl | rfl | rfl | rfl | rfl <;> simp [wordU, fourU, fourB, wideU]
theorem four_word {t : List UInt8} (h : t.length = 4) (S : B32) : t = fourU S ↔ wordU t = S := by
  obtain ⟨s, hs⟩ := fourB_word (t := toB8 t) (by rw [toB8_len, h])
  have e : t = fourU s := by
    have h1 : (toB8 t).map (fun x => UInt8.ofBitVec x) = t := by
      unfold toB8
      rw [List.map_map]
      conv => rhs; rw [← List.map_id t]
      apply List.map_congr_left
      intro x _
      rfl
    rw [← h1, hs]; rfl
  rw [e, word_four]
  constructor
  · intro h2
    have := congrArg wordU h2
    rwa [word_four, word_four] at this
  · intro h2; rw [h2]
end Go.Proofs.YtdafiipedlglpaaDoor
