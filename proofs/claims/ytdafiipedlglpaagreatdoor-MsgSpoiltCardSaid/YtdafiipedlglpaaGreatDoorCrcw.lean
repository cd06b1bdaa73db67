/- The sum of bytes: walked, the program's and the document's. -/
import Derived.Test.YtdafiipedlglpaaGreatDoorCrcp
import Derived.Test.YtdafiipedlglpaaGreatDoorBufs
import Derived.Test.YtdafiipedlglpaaGreatDoorMsgb
import Derived.Test.YtdafiipedlglpaaGreatDoorHints
import Derived.Lib.LaidTab
namespace Go.Proofs.YtdafiipedlglpaaGreatDoor
open Go.RowKit

def u32V (r : B32) : Value := .int .u32 ((r.toNat : Nat) : Int)
theorem wpList_un {P : Program} {ops : Array Oper} {rest : List Oper} {a : Act} {w : World} {Q : Exit → Act → World → Prop} {d : Option Tmp} {ty t : TypeId} {pos : String} {after : Array Edge} {op : UnOp} {x : Operand} {xv v : Value} (hx : a.eval x = xv) (hr : (Op.unary op xv).run P w = .ok v w)
    (h : wpList P ops Q rest (a.put d v) w) : wpList P ops Q (⟨d, .unOp op t x, ty, pos, after, none⟩ :: rest) a w :=
  wpList_plain rfl fun _ hK => by
    unfold Oper.wp execOp
    simp only [hx, Sem.run_bind, hr, Result.andThen_ok, Sem.run_pure]
    exact hK _ _ h
theorem not_ones (r : B32) : ~~~r = (~~~0#32) ^^^ r := by
  apply BitVec.eq_of_getLsbD_eq
  intro i hi
  rw [BitVec.getLsbD_xor, BitVec.getLsbD_not, BitVec.getLsbD_not, decide_eq_true hi]
  simp
theorem not32 (r : B32) (w : World) : (Op.unary .xor (u32V r)).run Tryz.prog w = .ok (u32V (~~~r)) w := by
  have e : (((~~~r).toNat : Nat) : Int) = bits .xor .u32 4294967295 ((r.toNat : Nat) : Int) := by
    have := u32_xor_nat 4294967295 r.toNat (by omega) r.isLt
    rw [show ((4294967295 : Nat) : Int) = 4294967295 from rfl] at this
    rw [this, not_ones, BitVec.toNat_xor]
    rfl
  unfold u32V
  rw [e]
  have m : IntKind.u32.max = 4294967295 := by decide
  simp [go_sem, IntKind.signed, m]
theorem not32s (r : B32) (w : World) : (binOp .sub 47 (.int .u32 4294967295) (u32V r)).run Tryz.prog w = .ok (u32V (~~~r)) w := by
  have h := r.isLt
  have e : (~~~r).toNat = 4294967295 - r.toNat := by rw [BitVec.toNat_not]
  unfold u32V
  rw [e]
  have e2 : IntKind.u32.wrap (4294967295 - ((r.toNat : Nat) : Int)) = ((4294967295 - r.toNat : Nat) : Int) := by
    simp [IntKind.wrap, IntKind.signed, IntKind.bits]
    omega
  rw [← e2]
  simp [go_sem]
theorem xor32 (a b : B32) (w : World) : (binOp .xor 47 (u32V a) (u32V b)).run Tryz.prog w = .ok (u32V (a ^^^ b)) w := by
  unfold u32V
  rw [BitVec.toNat_xor, ← u32_xor_nat _ _ a.isLt b.isLt]
  simp [go_sem]
theorem shl32 (a : B32) (k : Nat) (hk : k < 32) (w : World) : (binOp .shl 47 (u32V a) (.int .u64 (k : Int))).run Tryz.prog w = .ok (u32V (a <<< k)) w := by
  have e2 : IntKind.u32.wrap (((a.toNat : Nat) : Int) * 2 ^ k) = (((a <<< k).toNat : Nat) : Int) := by
    rw [BitVec.toNat_shiftLeft, Nat.shiftLeft_eq]
    simp [IntKind.wrap, IntKind.signed, IntKind.bits]
  unfold u32V
  rw [← e2]
  have h2 : ((k : Int)).toNat = k := by omega
  simp [go_sem, h2]
theorem shr32 (a : B32) (k : Nat) (hk : k < 32) (w : World) : (binOp .shr 47 (u32V a) (.int .u64 (k : Int))).run Tryz.prog w = .ok (u32V (a >>> k)) w := by
  have e2 : ((a.toNat : Nat) : Int) / 2 ^ k = (((a >>> k).toNat : Nat) : Int) := by
    rw [BitVec.toNat_ushiftRight, Nat.shiftRight_eq_div_pow]
    norm_cast
  unfold u32V
  rw [← e2]
  have h2 : ((k : Int)).toNat = k := by omega
  simp [go_sem, h2]
def wideU (x : UInt8) : B32 := x.toBitVec.setWidth 32
theorem wideU_nat (x : UInt8) : (wideU x).toNat = x.toNat := by
  unfold wideU
  rw [BitVec.toNat_setWidth]
  have := x.toNat_lt
  show x.toNat % 4294967296 = _
  omega
theorem conv32 (x : UInt8) (w : World) : (convert 5 47 (.int .u8 ((x.toNat : Nat) : Int))).run Tryz.prog w = .ok (u32V (wideU x)) w := by
  have e2 : IntKind.u32.wrap ((x.toNat : Nat) : Int) = (((wideU x).toNat : Nat) : Int) := by
    rw [wideU_nat]
    have := x.toNat_lt
    exact IntWalk.u32_in _ (by omega)
  unfold u32V
  rw [← e2]
  simp [go_sem]
theorem upB_wide (x : UInt8) : upB x.toBitVec = wideU x <<< 24 := rfl
/-- the program's table, as it lies -/
abbrev FourOk (w : World) : Prop := Lib.TabIs Tryz.prog w "bruit/crc.four" .u32 (tabC.map fun r => ((r.toNat : Nat) : Int))
theorem gFour : Tryz.prog.globalNamed "bruit/crc.four" = some 0 := by kernel_rfl
theorem four_ext {w w' : World} (h : FourOk w) (hb : Below w.heap.size w w') : FourOk w' := by
  have hlt : 0 < w.heap.size := by
    rcases Nat.lt_or_ge 0 w.heap.size with h0 | h0
    · exact h0
    · unfold FourOk Lib.TabIs World.var? at h
      rw [gFour] at h
      simp [Array.getElem?_eq_none h0] at h
  have he := hb.block 0 hlt
  unfold FourOk Lib.TabIs at *
  rw [← h]
  unfold World.var?
  rw [gFour]
  simp only [Option.bind_some, he]
theorem four_cell {w : World} (h : FourOk w) {k : Nat} (hk : k < 16) : w.cell? ⟨0, k, none⟩ = some (u32V (tabC.getD k 0#32)) := by
  rw [Lib.TabIs.cell h gFour k (by rw [List.length_map]; exact hk)]
  unfold u32V
  have hl : k < tabC.length := hk
  rw [List.getD_eq_getElem?_getD, List.getElem?_map, List.getD_eq_getElem?_getD, List.getElem?_eq_getElem hl]
  rfl
theorem idxFour {a : B32} (w : World) : (Instr.indexAt 300 (.pointer (some ⟨0, 0, none⟩)) (u32V (a >>> 28))).run Tryz.prog w = .ok (.pointer (some ⟨0, (a >>> 28).toNat, none⟩)) w := by
  have hk : (a >>> 28).toNat < 16 := by rw [BitVec.toNat_ushiftRight, Nat.shiftRight_eq_div_pow]; have := a.isLt; omega
  unfold u32V
  generalize (a >>> 28).toNat = k at *
  have h0 : (0 : Int) ≤ (k : Int) := by omega
  have h1 : (k : Int) < 16 := by omega
  simp [go_sem, h0, h1]
theorem load32r (g i : Nat) (v : B32) (w : World) (h : w.cell? ⟨g, i, none⟩ = some (u32V v)) : (Instr.loadAt 47 (.pointer (some ⟨g, i, none⟩))).run Tryz.prog w = .ok (u32V v) w := by
  unfold u32V at *
  simp [go_sem, h]
theorem loadFour {w : World} (h : FourOk w) (a : B32) : (Instr.loadAt 47 (.pointer (some ⟨0, (a >>> 28).toNat, none⟩))).run Tryz.prog w = .ok (u32V (tabC.getD (a >>> 28).toNat 0#32)) w :=
  load32r _ _ _ w (four_cell h (by rw [BitVec.toNat_ushiftRight, Nat.shiftRight_eq_div_pow]; have := a.isLt; omega))
def halfB (a : B32) : B32 := (a <<< 4) ^^^ tabC.getD (a >>> 28).toNat 0#32
theorem crcB_half (r : B32) (x : B8) : crcB r x = halfB (halfB (r ^^^ upB x)) := crcB_tab r x
theorem toB8_snoc {l : List UInt8} {k : Nat} {x : UInt8} (h : l[k]? = some x) : toB8 (l.take (k + 1)) = toB8 (l.take k) ++ [x.toBitVec] := by
  have h1 : l.take (k + 1) = l.take k ++ [x] := by rw [List.take_add_one, h]; rfl
  rw [h1]
  unfold toB8
  rw [List.map_append]
  rfl
theorem crcL_snoc (r : B32) (l : List B8) (x : B8) : crcL r (l ++ [x]) = crcB (crcL r l) x := by rw [crcL_append]; rfl
/-- a byte as it lies -/
theorem byte_at {w : World} {B n : Nat} {A : Option Addr} {l : List UInt8} (h : Sl w B 1 A n (encB l)) {k : Nat} (hk : k < n) : ∃ b o x, A = some ⟨b, o, none⟩ ∧ b < B ∧ l[k]? = some x ∧ w.cell? ⟨b, o + k, none⟩ = some (.int .u8 ((x.toNat : Nat) : Int)) := by
  obtain ⟨b, o, u, e, hb, hu, hc⟩ := h.at_ hk
  rw [encB_at] at hu
  cases hx : l[k]? with
  | none => rw [hx] at hu; cases hu
  | some x => rw [hx] at hu; exact ⟨b, o, x, e, hb, rfl, by rw [hc, ← Option.some.inj hu]⟩
set_option maxRecDepth 100000 in
set_option maxHeartbeats 2000000 in
theorem more02_any (l : List UInt8) (s : B32) (w : World) (A : Option Addr) (n c : Nat) (h : BytesAt w A n c l) (hF : FourOk w) :
    Calls Tryz.prog 205 #[u32V s, .slice A n c] w (Ret w (u32V (moreC s (toB8 l)))) := by
  have hnm : n ≤ maxLen := Nat.le_trans h.cap h.big
  unfold maxLen at hnm
  have H := Lib.hid h.sl
  have HF := Lib.hid hF
  have E : Hid (moreC s (toB8 l) = ~~~ (crcL (~~~s) (toB8 l))) := rfl
  have hn := Lib.hid h.len
  have N0 := Lib.hid (fun u => not32 s u)
  clear h hF
  obtain ⟨t, ht⟩ : ∃ t, t = ~~~s := ⟨_, rfl⟩
  rw [← ht] at E N0
  rw [E.out]
  clear E ht
  generalize u32V s = sv at *
  go_enter Tryz.func205, Tryz.ntmps205
  go_wp2_with ((with_reducible refine wpList_un ?_ (N0.out _) ?_); rfl)
  go_loop [5, 12] (fun r i => ∃ k : Nat, k ≤ n ∧ r = u32V (crcL t (toB8 (l.take k))) ∧ i = .int .i64 (k : Int)) (fun _ i => n - (intOf i).toNat)
  case atStart => exact ⟨0, by omega, rfl, rfl⟩
  case round =>
    obtain ⟨k, hk, rfl, rfl⟩ := hrel
    have hk0 : (0 : Int) ≤ (k : Int) := by omega
    by_cases hlt : k < n
    · have hlk : (k : Int) < (n : Int) := by omega
      obtain ⟨b, o, x, rfl, hb, hx, hc⟩ := byte_at H.out hlt
      have EN : Hid (crcL t (toB8 (l.take (k + 1))) = halfB (halfB (crcL t (toB8 (l.take k)) ^^^ (wideU x <<< 24)))) := by
        rw [Hid, toB8_snoc hx, crcL_snoc, crcB_half, upB_wide]
      clear hx hb
      generalize crcL t (toB8 (l.take k)) = r at *
      have C1 := Lib.hid (fun u => conv32 x u)
      have S1 : Hid (∀ u, (binOp .shl 47 (u32V (wideU x)) (.int .u64 24)).run Tryz.prog u = .ok (u32V (wideU x <<< 24)) u) := fun u => shl32 (wideU x) 24 (by omega) u
      generalize wideU x = y at *
      have X1 := Lib.hid (fun u => xor32 r (y <<< 24) u)
      generalize y <<< 24 = z at *
      generalize r ^^^ z = a at *
      have S2 : Hid (∀ u, (binOp .shl 47 (u32V a) (.int .u64 4)).run Tryz.prog u = .ok (u32V (a <<< 4)) u) := fun u => shl32 a 4 (by omega) u
      have R2 : Hid (∀ u, (binOp .shr 47 (u32V a) (.int .u64 28)).run Tryz.prog u = .ok (u32V (a >>> 28)) u) := fun u => shr32 a 28 (by omega) u
      have I2 := Lib.hid (fun u => idxFour (a := a) u)
      have L2 := Lib.hid (loadFour HF.out a)
      have X2 : Hid (∀ u, (binOp .xor 47 (u32V (a <<< 4)) (u32V (tabC.getD (a >>> 28).toNat 0#32))).run Tryz.prog u = .ok (u32V (halfB a)) u) := fun u => xor32 _ _ u
      generalize halfB a = a2 at *
      generalize tabC.getD (a >>> 28).toNat 0#32 = f2 at *
      generalize (a >>> 28).toNat = i2 at *
      generalize a <<< 4 = s2 at *
      generalize a >>> 28 = r2 at *
      have S3 : Hid (∀ u, (binOp .shl 47 (u32V a2) (.int .u64 4)).run Tryz.prog u = .ok (u32V (a2 <<< 4)) u) := fun u => shl32 a2 4 (by omega) u
      have R3 : Hid (∀ u, (binOp .shr 47 (u32V a2) (.int .u64 28)).run Tryz.prog u = .ok (u32V (a2 >>> 28)) u) := fun u => shr32 a2 28 (by omega) u
      have I3 := Lib.hid (fun u => idxFour (a := a2) u)
      have L3 := Lib.hid (loadFour HF.out a2)
      have X3 : Hid (∀ u, (binOp .xor 47 (u32V (a2 <<< 4)) (u32V (tabC.getD (a2 >>> 28).toNat 0#32))).run Tryz.prog u = .ok (u32V (halfB a2)) u) := fun u => xor32 _ _ u
      generalize halfB a2 = a3 at *
      generalize tabC.getD (a2 >>> 28).toNat 0#32 = f3 at *
      generalize (a2 >>> 28).toNat = i3 at *
      generalize a2 <<< 4 = s3 at *
      generalize a2 >>> 28 = r3 at *
      go_wp2_with (first
        | ((with_reducible refine wpList_convB ?_ (C1.out _) ?_); rfl)
        | ((with_reducible refine wpList_comp ?_ ?_ ?_ (S1.out _) ?_); rfl; rfl; rfl)
        | ((with_reducible refine wpList_comp ?_ ?_ ?_ (X1.out _) ?_); rfl; rfl; rfl)
        | ((with_reducible refine wpList_comp ?_ ?_ ?_ (S2.out _) ?_); rfl; rfl; rfl)
        | ((with_reducible refine wpList_comp ?_ ?_ ?_ (R2.out _) ?_); rfl; rfl; rfl)
        | ((with_reducible refine wpList_comp ?_ ?_ ?_ (X2.out _) ?_); rfl; rfl; rfl)
        | ((with_reducible refine wpList_comp ?_ ?_ ?_ (S3.out _) ?_); rfl; rfl; rfl)
        | ((with_reducible refine wpList_comp ?_ ?_ ?_ (R3.out _) ?_); rfl; rfl; rfl)
        | ((with_reducible refine wpList_comp ?_ ?_ ?_ (X3.out _) ?_); rfl; rfl; rfl)
        | ((with_reducible refine wpList_idx ?_ ?_ (I2.out _) ?_); rfl; rfl)
        | ((with_reducible refine wpList_idx ?_ ?_ (I3.out _) ?_); rfl; rfl)
        | ((with_reducible refine wpList_ld ?_ L2.out ?_); rfl)
        | ((with_reducible refine wpList_ld ?_ L3.out ?_); rfl))
      go_round
      case rel => exact ⟨k + 1, by omega, by rw [EN.out], by go_num⟩
      case measure => simp [intOf]; omega
    · have hlk : ¬ (k : Int) < (n : Int) := by omega
      rw [List.take_of_length_le (by rw [hn.out]; omega)]
      have N1 := Lib.hid (fun u => not32 (crcL t (toB8 l)) u)
      generalize crcL t (toB8 l) = r at *
      generalize ~~~r = r2 at *
      go_wp2_with ((with_reducible refine wpList_un ?_ (N1.out _) ?_); rfl)
      go_ret
      exact ⟨rfl, rfl⟩
end Go.Proofs.YtdafiipedlglpaaGreatDoor
