/- Bytes with their sum, sealed and opened, the program's and the document's: walked. -/
import Derived.Test.YtdafiipedlglpaaGreatDoorCrcx
import Derived.Test.YtdafiipedlglpaaGreatDoorPcds
namespace Go.Proofs.YtdafiipedlglpaaGreatDoor
open Go.RowKit

theorem BytesAt.low {w : World} {A : Option Addr} {n c k : Nat} {l : List UInt8} (h : BytesAt w A n c l) (hk : k ≤ n) : BytesAt w (cutAddr A c k 1) (n - k) (c - k) (l.drop k) :=
  ⟨by rw [List.length_drop, h.len], by have := h.cap; omega, by have := h.big; omega, Sl.cutLow (k := k) (c := c) (l := l) (enc := enc1) h.sl h.len enc1_len hk h.cap⟩
theorem BytesAt.top {w : World} {A : Option Addr} {n c k : Nat} {l : List UInt8} (h : BytesAt w A n c l) (hk : k ≤ n) : BytesAt w (cutAddr A c 0 1) k c (l.take k) :=
  ⟨by rw [List.length_take, h.len]; omega, by have := h.cap; omega, h.big, Sl.cutHigh (k := k) (c := c) (l := l) (enc := enc1) h.sl h.len enc1_len hk⟩
def lowB (a : B32) : B32 := (a.setWidth 8).setWidth 32
theorem lowB_nat (a : B32) : (lowB a).toNat = a.toNat % 256 := by
  unfold lowB
  rw [BitVec.toNat_setWidth, BitVec.toNat_setWidth]
  have := a.isLt
  omega
theorem lowB_set (a : B32) : (lowB a).setWidth 8 = a.setWidth 8 := by
  apply BitVec.eq_of_toNat_eq
  rw [BitVec.toNat_setWidth, BitVec.toNat_setWidth, lowB_nat]
  omega
theorem rem32 (a : B32) (w : World) : (binOp .rem 47 (u32V a) (.int .u32 256)).run Tryz.prog w = .ok (u32V (lowB a)) w := by
  have e : (((lowB a).toNat : Nat) : Int) = Int.tmod ((a.toNat : Nat) : Int) 256 := by
    rw [lowB_nat, Int.tmod_eq_emod_of_nonneg (by omega)]
    omega
  unfold u32V
  rw [e]
  simp [go_sem]
theorem quo32 (a : B32) (k : Nat) (m : Int) (hm : m = ((2 ^ k : Nat) : Int)) (hm0 : m = 16777216 ∨ m = 65536 ∨ m = 256) (w : World) : (binOp .quo 47 (u32V a) (.int .u32 m)).run Tryz.prog w = .ok (u32V (a >>> k)) w := by
  have e : (((a >>> k).toNat : Nat) : Int) = Int.tdiv ((a.toNat : Nat) : Int) m := by
    rw [BitVec.toNat_ushiftRight, Nat.shiftRight_eq_div_pow, Int.tdiv_eq_ediv_of_nonneg (by omega), hm]
    exact Int.natCast_ediv _ _
  unfold u32V
  rw [e]
  clear hm e
  have ha := a.isLt
  rcases hm0 with rfl | rfl | rfl
  · simp [go_sem]
    exact IntWalk.u32_in _ (by omega)
  · simp [go_sem]
    exact IntWalk.u32_in _ (by omega)
  · simp [go_sem]
    exact IntWalk.u32_in _ (by omega)
theorem conv8 (a : B32) (w : World) : (convert 47 5 (u32V a)).run Tryz.prog w = .ok (.int .u8 (((a.setWidth 8).toNat : Nat) : Int)) w := by
  have e : ((((a.setWidth 8 : BitVec 8)).toNat : Nat) : Int) = IntKind.u8.wrap ((a.toNat : Nat) : Int) := by
    rw [BitVec.toNat_setWidth]
    simp [IntKind.wrap, IntKind.signed, IntKind.bits]
  rw [e]
  unfold u32V
  simp [go_sem]
theorem own_lit4 (w : World) (a b c d : Int) : (w.alloc (.cells #[.int .u8 a, .int .u8 b, .int .u8 c, .int .u8 d] 5)).ownsRow w.heap.size 5 1 (.slice (some ⟨w.heap.size, 0, none⟩) 4 4) 4 [.int .u8 a, .int .u8 b, .int .u8 c, .int .u8 d] :=
  ⟨rfl, .inr ⟨w.heap.size, 4, #[.int .u8 a, .int .u8 b, .int .u8 c, .int .u8 d], rfl, Nat.le_refl _, heap_alloc_new w _, Nat.le_refl _, by simp [maxLen], rfl, rfl⟩⟩
theorem four_enc (s : B32) : encB (fourU s) = [.int .u8 ((((s >>> 24).setWidth 8 : BitVec 8).toNat : Nat) : Int), .int .u8 ((((s >>> 16).setWidth 8 : BitVec 8).toNat : Nat) : Int), .int .u8 ((((s >>> 8).setWidth 8 : BitVec 8).toNat : Nat) : Int), .int .u8 (((s.setWidth 8 : BitVec 8).toNat : Nat) : Int)] := rfl
set_option maxRecDepth 100000 in
set_option maxHeartbeats 2000000 in
theorem four05_any (s : B32) (w : World) : Calls Tryz.prog 82 #[u32V s] w (OwnedRet w 5 1 4 (encB (fourU s))) := by
  rw [four_enc]
  have Q1 : Hid (∀ u, (binOp .quo 47 (u32V s) (.int .u32 16777216)).run Tryz.prog u = .ok (u32V (s >>> 24)) u) := fun u => quo32 s 24 _ rfl (by omega) u
  have Q2 : Hid (∀ u, (binOp .quo 47 (u32V s) (.int .u32 65536)).run Tryz.prog u = .ok (u32V (s >>> 16)) u) := fun u => quo32 s 16 _ rfl (by omega) u
  have Q3 : Hid (∀ u, (binOp .quo 47 (u32V s) (.int .u32 256)).run Tryz.prog u = .ok (u32V (s >>> 8)) u) := fun u => quo32 s 8 _ rfl (by omega) u
  have R2 := Lib.hid (fun u => rem32 (s >>> 16) u)
  have R3 := Lib.hid (fun u => rem32 (s >>> 8) u)
  have R4 := Lib.hid (fun u => rem32 s u)
  have C1 := Lib.hid (fun u => conv8 (s >>> 24) u)
  have C2 := Lib.hid (fun u => conv8 (lowB (s >>> 16)) u)
  have C3 := Lib.hid (fun u => conv8 (lowB (s >>> 8)) u)
  have C4 := Lib.hid (fun u => conv8 (lowB s) u)
  rw [lowB_set] at C2 C3 C4
  generalize ((s >>> 24).setWidth 8 : BitVec 8).toNat = a1 at *
  generalize ((s >>> 16).setWidth 8 : BitVec 8).toNat = a2 at *
  generalize ((s >>> 8).setWidth 8 : BitVec 8).toNat = a3 at *
  generalize (s.setWidth 8 : BitVec 8).toNat = a4 at *
  generalize lowB (s >>> 16) = b2 at *
  generalize lowB (s >>> 8) = b3 at *
  generalize lowB s = b4 at *
  generalize s >>> 24 = s1 at *
  generalize s >>> 16 = s2 at *
  generalize s >>> 8 = s3 at *
  have O := Lib.hid (own_lit4 w (a1 : Int) (a2 : Int) (a3 : Int) (a4 : Int))
  have B : Hid (Below w.heap.size w (w.alloc (.cells #[.int .u8 a1, .int .u8 a2, .int .u8 a3, .int .u8 a4] 5))) := below_new _ _
  go_enter Tryz.func82, Tryz.ntmps82
  go_wp2_with (first
    | ((with_reducible refine wpList_comp ?_ ?_ ?_ (Q1.out _) ?_); rfl; rfl; rfl)
    | ((with_reducible refine wpList_comp ?_ ?_ ?_ (Q2.out _) ?_); rfl; rfl; rfl)
    | ((with_reducible refine wpList_comp ?_ ?_ ?_ (Q3.out _) ?_); rfl; rfl; rfl)
    | ((with_reducible refine wpList_comp ?_ ?_ ?_ (R2.out _) ?_); rfl; rfl; rfl)
    | ((with_reducible refine wpList_comp ?_ ?_ ?_ (R3.out _) ?_); rfl; rfl; rfl)
    | ((with_reducible refine wpList_comp ?_ ?_ ?_ (R4.out _) ?_); rfl; rfl; rfl)
    | ((with_reducible refine wpList_convB ?_ (C1.out _) ?_); rfl)
    | ((with_reducible refine wpList_convB ?_ (C2.out _) ?_); rfl)
    | ((with_reducible refine wpList_convB ?_ (C3.out _) ?_); rfl)
    | ((with_reducible refine wpList_convB ?_ (C4.out _) ?_); rfl))
  go_ret
  exact ⟨_, rfl, O.out, B.out⟩
set_option maxRecDepth 100000 in
set_option maxHeartbeats 2000000 in
theorem sum02_any {l : List UInt8} {w : World} {A : Option Addr} {n c : Nat} (h : BytesAt w A n c l) (hF : FourOk w) (b o c1 : Nat) (hc : w.cell? ⟨b, o, none⟩ = some (.slice A n c)) :
    Calls Tryz.prog 150 #[.slice (some ⟨b, o, none⟩) 1 c1] w (Ret w (u32V (sumC (toB8 l)))) := by
  have HM : Hid (Calls Tryz.prog 205 #[.int .u32 0, .slice A n c] w (Ret w (u32V (sumC (toB8 l))))) := more02_any l 0#32 w A n c h hF
  clear h hF
  generalize u32V (sumC (toB8 l)) = S at *
  go_enter Tryz.func150, Tryz.ntmps150
  go_wp2_with fail
  go_loop [3, 8] (fun r i => (i = .int .i64 0 ∧ r = .int .u32 0) ∨ (i = .int .i64 1 ∧ r = S)) (fun _ i => 1 - (intOf i).toNat)
  case atStart => exact .inl ⟨rfl, rfl⟩
  case round =>
    rcases hrel with ⟨rfl, rfl⟩ | ⟨rfl, rfl⟩
    · go_wp2_with fail
      refine HM.out.mono ?_
      rintro e w3 ⟨rfl, rfl⟩
      go_wp2_with fail
      go_round
      case rel => exact .inr ⟨rfl, rfl⟩
      case measure => simp [intOf]
    · go_wp2_with fail
      go_ret
      exact ⟨rfl, rfl⟩
set_option maxRecDepth 100000 in
set_option maxHeartbeats 2000000 in
theorem rseal05_any (l : List UInt8) (w : World) (A : Option Addr) (n c : Nat) (h : BytesAt w A n c l) (hm : n ≤ 10000000) :
    Calls Tryz.prog 21 #[.slice A n c] w (OwnedRet w 5 1 (sealB l).length (encB (sealB l))) := by
  have hl := h.len
  have ES : Hid (encB (sealB l) = encB l ++ encB (fourU (sumC (toB8 l)))) := by rw [Hid]; unfold sealB; rw [encB_append]
  have EL : Hid ((sealB l).length = n + 4) := by rw [Hid, sealB_len, hl]
  have H := Lib.hid h
  have O0 := Lib.hid (World.ownsRow_nil w w.heap.size 5 1)
  have BR := Lib.hid (Below.refl w.heap.size w)
  rw [ES.out, EL.out]
  clear h ES EL
  go_enter Tryz.func21, Tryz.ntmps21
  go_upto_region 3 with (at_builtin; refine wpList_catB byteSl O0.out H.out.sl (encB_one l) (Nat.le_refl _) (by omega) (by unfold maxLen; omega) (by rfl) (by rfl) ?_; intro v1 w1 own1 kp hv1)
  rw [Nat.zero_add, List.nil_append] at own1
  have O1 := Lib.hid own1
  obtain ⟨A1, c1, rfl, _, _⟩ := Sl.of_own own1
  have B1 : Hid (Below w.heap.size w w1) := BR.out.trans (kp.below (fun k e => (O0.out.lt k e).1) (Nat.le_refl _))
  have HM : Hid (Calls Tryz.prog 83 #[.int .u32 0, .slice A n c] w1 (Ret w1 (u32V (sumC (toB8 l))))) := rmore02_any l 0#32 w1 A n c (H.out.ext B1.out)
  generalize sumC (toB8 l) = S at *
  clear own1 kp hv1 O0 BR H
  go_wp2_with fail
  refine HM.out.mono ?_
  rintro e w2 ⟨rfl, rfl⟩
  go_wp2_with fail
  refine (four05_any S _).mono ?_
  rintro e w3 ⟨_, rfl, o3, b3⟩
  obtain ⟨A3, c3, rfl, _, s3⟩ := Sl.of_own o3
  have O3 := Lib.hid (own_ext O1.out b3)
  have S3 := Lib.hid s3
  have B3 := Lib.hid (B1.out.trans (b3.mono B1.out.size))
  clear o3 s3 b3 O1 B1 HM
  go_wp2_with (at_builtin; refine wpList_catB byteSl O3.out S3.out (encB_one _) B3.out.size (by omega) (by unfold maxLen; omega) (by rfl) (by rfl) ?_; intro v4 w4 own4 kp4 hv4)
  have B4 : Hid (Below w.heap.size w w4) := B3.out.trans (kp4.below (fun k e => (O3.out.lt k e).1) B3.out.size)
  go_ret
  exact ⟨_, rfl, own4, B4.out⟩
end Go.Proofs.YtdafiipedlglpaaGreatDoor
