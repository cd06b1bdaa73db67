/- Bytes are sealed, and opened, by the program: walked. -/
import Derived.Test.YtdafiipedlglpaaGreatDoorCrcy
namespace Go.Proofs.YtdafiipedlglpaaGreatDoor
open Go.RowKit

theorem shr32l (a : B32) (k : Nat) (m : Int) (hm : m = (k : Int)) (hk : k < 32) (w : World) : (binOp .shr 47 (u32V a) (.int .u64 m)).run Tryz.prog w = .ok (u32V (a >>> k)) w := by subst hm; exact shr32 a k hk w
theorem shl32l (a : B32) (k : Nat) (m : Int) (hm : m = (k : Int)) (hk : k < 32) (w : World) : (binOp .shl 47 (u32V a) (.int .u64 m)).run Tryz.prog w = .ok (u32V (a <<< k)) w := by subst hm; exact shl32 a k hk w
theorem or32 (a b : B32) (w : World) : (binOp .or 47 (u32V a) (u32V b)).run Tryz.prog w = .ok (u32V (a ||| b)) w := by
  unfold u32V
  rw [BitVec.toNat_or, ← u32_or_nat _ _ a.isLt b.isLt]
  simp [go_sem]
theorem neq32 (a b : B32) (w : World) : (binOp .neq 47 (u32V a) (u32V b)).run Tryz.prog w = .ok (.bool (!decide (a = b))) w := by
  have e : (((a.toNat : Nat) : Int) != ((b.toNat : Nat) : Int)) = !decide (a = b) := by
    by_cases h : a = b
    · subst h; simp
    · have h2 : a.toNat ≠ b.toNat := fun e => h (BitVec.eq_of_toNat_eq e)
      rw [decide_eq_false h]
      simp only [Bool.not_false]
      rw [bne_iff_ne]; omega
  unfold u32V
  rw [← e]
  simp [go_sem]
theorem neqg32 (x y : Operand) (a b : B32) (w : World) : (eqGuard .neq 47 x y (u32V a) (u32V b)).run Tryz.prog w = .ok () w := by
  unfold u32V
  simp [eqGuard, go_sem]
set_option maxRecDepth 100000 in
set_option maxHeartbeats 2000000 in
theorem seal_any (l : List UInt8) (w : World) (A : Option Addr) (n c : Nat) (h : BytesAt w A n c l) (hm : n ≤ 10000000) (hF : FourOk w) :
    Calls Tryz.prog 77 #[.slice A n c] w (OwnedRet w 5 1 (sealB l).length (encB (sealB l))) := by
  have hl := h.len
  have ES : Hid (encB (sealB l) = encB l ++ encB (fourU (sumC (toB8 l)))) := by rw [Hid]; unfold sealB; rw [encB_append]
  have EL : Hid ((sealB l).length = n + 4) := by rw [Hid, sealB_len, hl]
  have H := Lib.hid h
  have B1 : Hid (Below w.heap.size w (w.alloc (.cells #[.slice A n c] 35))) := below_new _ _
  have K1 : Hid (Blk (w.alloc (.cells #[.slice A n c] 35)) w.heap.size 35 #[.slice A n c]) := Blk.new _ _ _
  have HS := Lib.hid (sum02_any (H.out.ext B1.out) (four_ext hF B1.out) w.heap.size 0 1 (K1.out.cell 0))
  have HC := Lib.hid (cloneB l (w.alloc (.cells #[.slice A n c] 35)) A n c hm (H.out.ext B1.out).sl hl)
  rw [ES.out, EL.out, four_enc]
  generalize sumC (toB8 l) = s at *
  have Q1 : Hid (∀ u, (binOp .shr 47 (u32V s) (.int .u64 24)).run Tryz.prog u = .ok (u32V (s >>> 24)) u) := fun u => shr32l s 24 _ rfl (by omega) u
  have Q2 : Hid (∀ u, (binOp .shr 47 (u32V s) (.int .u64 16)).run Tryz.prog u = .ok (u32V (s >>> 16)) u) := fun u => shr32l s 16 _ rfl (by omega) u
  have Q3 : Hid (∀ u, (binOp .shr 47 (u32V s) (.int .u64 8)).run Tryz.prog u = .ok (u32V (s >>> 8)) u) := fun u => shr32l s 8 _ rfl (by omega) u
  have C1 := Lib.hid (fun u => conv8 (s >>> 24) u)
  have C2 := Lib.hid (fun u => conv8 (s >>> 16) u)
  have C3 := Lib.hid (fun u => conv8 (s >>> 8) u)
  have C4 := Lib.hid (fun u => conv8 s u)
  generalize ((s >>> 24).setWidth 8 : BitVec 8).toNat = a1 at *
  generalize ((s >>> 16).setWidth 8 : BitVec 8).toNat = a2 at *
  generalize ((s >>> 8).setWidth 8 : BitVec 8).toNat = a3 at *
  generalize (s.setWidth 8 : BitVec 8).toNat = a4 at *
  generalize s >>> 24 = s1 at *
  generalize s >>> 16 = s2 at *
  generalize s >>> 8 = s3 at *
  generalize u32V s = sv at *
  have O := Lib.hid (fun u => own_lit4 u (a1 : Int) (a2 : Int) (a3 : Int) (a4 : Int))
  clear h ES EL hF
  go_enter Tryz.func77, Tryz.ntmps77
  go_wp2_with fail
  refine HS.out.mono ?_
  rintro e w3 ⟨rfl, rfl⟩
  go_wp2_with fail
  refine HC.out.mono ?_
  rintro e w4 ⟨v4, rfl, o4, b4⟩
  have B4 := Lib.hid (B1.out.trans (b4.mono B1.out.size))
  have O4 := Lib.hid (own_mono' o4 B1.out.size)
  obtain ⟨A4, c4, rfl, _, _⟩ := Sl.of_own o4
  have S5 := Lib.hid (Sl.of_own (O.out w4))
  have B5 : Hid (Below w.heap.size w (w4.alloc (.cells #[.int .u8 a1, .int .u8 a2, .int .u8 a3, .int .u8 a4] 5))) := B4.out.trans ((below_new _ _).mono B4.out.size)
  have O5 : Hid ((w4.alloc (.cells #[.int .u8 a1, .int .u8 a2, .int .u8 a3, .int .u8 a4] 5)).ownsRow w.heap.size 5 1 (.slice A4 n c4) n (encB l)) := own_ext O4.out (below_new _ _)
  obtain ⟨_, _, e5, _, s5⟩ := S5.out
  cases e5
  have S6 := Lib.hid s5
  clear o4 b4 s5 S5 O4 B4 HS HC B1 K1 O
  go_wp2_with (first
    | ((with_reducible refine wpList_comp ?_ ?_ ?_ (Q1.out _) ?_); rfl; rfl; rfl)
    | ((with_reducible refine wpList_comp ?_ ?_ ?_ (Q2.out _) ?_); rfl; rfl; rfl)
    | ((with_reducible refine wpList_comp ?_ ?_ ?_ (Q3.out _) ?_); rfl; rfl; rfl)
    | ((with_reducible refine wpList_convB ?_ (C1.out _) ?_); rfl)
    | ((with_reducible refine wpList_convB ?_ (C2.out _) ?_); rfl)
    | ((with_reducible refine wpList_convB ?_ (C3.out _) ?_); rfl)
    | ((with_reducible refine wpList_convB ?_ (C4.out _) ?_); rfl)
    | (at_builtin; refine wpList_catB byteSl O5.out S6.out (by simp [Value.oneCell']) B5.out.size (by omega) (by unfold maxLen; omega) (by rfl) (by rfl) ?_; intro v6 w6 own6 kp6 hv6))
  have B6 : Hid (Below w.heap.size w w6) := B5.out.trans (kp6.below (fun k e => (O5.out.lt k e).1) B5.out.size)
  go_ret
  exact ⟨_, rfl, own6, B6.out⟩
def wordU (t : List UInt8) : B32 := t.foldl (fun s x => (s <<< 8) ||| wideU x) 0#32
theorem wordU_snoc (t : List UInt8) (x : UInt8) : wordU (t ++ [x]) = (wordU t <<< 8) ||| wideU x := by unfold wordU; rw [List.foldl_append]; rfl
theorem word_four (s : B32) : wordU (fourU s) = s := by
  apply BitVec.eq_of_getLsbD_eq
  intro i hi
  have : i = 0 ∨ i = 1 ∨ i = 2 ∨ i = 3 ∨ i = 4 ∨ i = 5 ∨ i = 6 ∨ i = 7 ∨ i = 8 ∨ i = 9 ∨ i = 10 ∨ i = 11 ∨ i = 12 ∨ i = 13 ∨ i = 14 ∨ i = 15 ∨ i = 16 ∨ i = 17 ∨ i = 18 ∨ i = 19 ∨ i = 20 ∨ i = 21 ∨ i = 22 ∨ i = 23 ∨ i = 24 ∨ i = 25 ∨ i = 26 ∨ i = 27 ∨ i = 28 ∨ i = 29 ∨ i = 30 ∨ i = 31 := by omega
  rcases this with rfl | rfl | rfl | rfl | rfl | rfl | rfl | rfl | rfl | rfl | rfl | rfl | rfl | rfl | rfl | rfl | rfl | rfl | rfl | rfl | rfl | rfl | rfl | rfl | rfl | rfl | rfl | rfl | rfl | rfl | rfl | rfl <;> simp [wordU, fourU, fourB, wideU]
theorem four_word {t : List UInt8} (h : t.length = 4) (S : B32) : t = fourU S ↔ wordU t = S := by
  obtain ⟨s, hs⟩ := fourB_word (t := toB8 t) (by rw [toB8_len, h])
  have e : t = fourU s := by
    have h1 : (toB8 t).map (fun x => UInt8.ofBitVec x) = t := by
      unfold toB8
      rw [List.map_map]
      conv => rhs; rw [← List.map_id t]
      apply List.map_congr_left
      intro x _
      rfl
    rw [← h1, hs]; rfl
  rw [e, word_four]
  constructor
  · intro h2
    have := congrArg wordU h2
    rwa [word_four, word_four] at this
  · intro h2; rw [h2]
theorem sub4 {n m : Nat} (h : n = m + 4) (hn : n ≤ 9223372036854775807) (w : World) : (binOp .sub 3 (.int .i64 (n : Int)) (.int .i64 4)).run Tryz.prog w = .ok (.int .i64 (m : Int)) w := by
  have e : IntKind.i64.wrap ((n : Int) - 4) = (m : Int) := by
    rw [IntWalk.i64_in _ (by omega)]; omega
  rw [← e]
  simp [go_sem]
def OpRet (w : World) (l : List UInt8) (e : Ending) (w' : World) : Prop := ∃ v, e = .returned (.tuple #[v, .int .i64 (((openB l).2 : Nat) : Int)]) ∧ w'.ownsRow w.heap.size 5 1 v (openB l).1.length (encB (openB l).1) ∧ Below w.heap.size w w'
theorem openB_short {l : List UInt8} (h : l.length < 4) : openB l = ([], 2) := if_pos h
theorem openB_sum {l : List UInt8} {m : Nat} (h : l.length = m + 4) : openB l = if wordU (l.drop m) = sumC (toB8 (l.take m)) then (l.take m, 0) else ([], 5) := by
  have e : l.length - 4 = m := by omega
  unfold openB
  rw [if_neg (by omega), e]
  have h4 : (l.drop m).length = 4 := by rw [List.length_drop]; omega
  by_cases c : wordU (l.drop m) = sumC (toB8 (l.take m))
  · rw [if_pos c, if_pos ((four_word h4 _).2 c)]
  · rw [if_neg c, if_neg fun h2 => c ((four_word h4 _).1 h2)]
set_option maxRecDepth 100000 in
set_option maxHeartbeats 4000000 in
theorem open_any (l : List UInt8) (w : World) (A : Option Addr) (n c : Nat) (h : BytesAt w A n c l) (hm : n ≤ 10000000) (hF : FourOk w) :
    Calls Tryz.prog 84 #[.slice A n c] w (OpRet w l) := by
  have hl := h.len
  have BR := Lib.hid (Below.refl w.heap.size w)
  by_cases hn4 : n < 4
  · have E := Lib.hid (openB_short (l := l) (by omega))
    have z : (n : Int) - 4 < 0 := by omega
    have zz : IntKind.i64.wrap ((n : Int) - 4) = (n : Int) - 4 := IntWalk.i64_in _ (by omega)
    clear h hF
    go_enter Tryz.func84, Tryz.ntmps84
    go_wp2_with fail
    refine bodyPost_ret (v := .tuple #[.slice none 0 0, .int .i64 2]) ?_ rfl ⟨.slice none 0 0, by rw [E.out]; rfl, by rw [E.out]; exact World.ownsRow_nil _ _ _ _, BR.out⟩
    simp [results, Tryz.results84, go_sem]
  · obtain ⟨m, hnm⟩ : ∃ m, n = m + 4 := ⟨n - 4, by omega⟩
    have E := Lib.hid (openB_sum (l := l) (m := m) (by omega))
    have H := Lib.hid h
    have SB := Lib.hid (fun u => sub4 hnm (by omega) u)
    have CL := Lib.hid (fun u => run_slice_low byteSl (A := A) (n := n) (c := c) (k := m) (by omega) u)
    have CH := Lib.hid (fun u => run_slice_high byteSl (A := A) (n := n) (c := c) (k := m) (by have := h.cap; omega) u)
    have LO := Lib.hid (h.low (k := m) (by omega))
    have HI := Lib.hid (h.top (k := m) (by omega))
    have e4 : n - m = 4 := by omega
    rw [e4] at LO CL
    have HF := Lib.hid hF
    have z : ¬ (m : Int) < 0 := by omega
    have hm1 : m ≤ 10000000 := by omega
    have h4 : Hid ((l.drop m).length = 4) := LO.out.len
    clear h hF hn4 hnm e4 H
    generalize cutAddr A c m 1 = AL at *
    generalize cutAddr A c 0 1 = AH at *
    generalize l.drop m = t at *
    generalize l.take m = p at *
    generalize c - m = cm at *
    go_enter Tryz.func84, Tryz.ntmps84
    go_wp2_with (first
      | ((with_reducible refine wpList_comp ?_ ?_ ?_ (SB.out _) ?_); rfl; rfl; rfl)
      | (refine wpList_slB rfl rfl rfl rfl (CL.out _) ?_))
    go_loop [5, 17] (fun s i => ∃ k : Nat, k ≤ 4 ∧ s = u32V (wordU (t.take k)) ∧ i = .int .i64 (k : Int)) (fun _ i => 4 - (intOf i).toNat)
    case atStart => exact ⟨0, by omega, rfl, rfl⟩
    case round =>
      obtain ⟨k, hk, rfl, rfl⟩ := hrel
      have hk0 : (0 : Int) ≤ (k : Int) := by omega
      by_cases hlt : k < 4
      · have hlk : (k : Int) < 4 := by omega
        obtain ⟨b, o, x, hA, hb, hx, hc⟩ := byte_at LO.out.sl hlt
        have EN : Hid (wordU (t.take (k + 1)) = (wordU (t.take k) <<< 8) ||| wideU x) := by
          rw [Hid, List.take_add_one, hx]; exact wordU_snoc _ _
        clear hx hb
        subst hA
        generalize wordU (t.take k) = r at *
        have C1 := Lib.hid (fun u => conv32 x u)
        have S1 : Hid (∀ u, (binOp .shl 47 (u32V r) (.int .u64 8)).run Tryz.prog u = .ok (u32V (r <<< 8)) u) := fun u => shl32l r 8 _ rfl (by omega) u
        have O1 := Lib.hid (fun u => or32 (r <<< 8) (wideU x) u)
        generalize r <<< 8 = r8 at *
        generalize wideU x = y at *
        generalize r8 ||| y = r2 at *
        go_wp2_with (first
          | ((with_reducible refine wpList_convB ?_ (C1.out _) ?_); rfl)
          | ((with_reducible refine wpList_comp ?_ ?_ ?_ (S1.out _) ?_); rfl; rfl; rfl)
          | ((with_reducible refine wpList_comp ?_ ?_ ?_ (O1.out _) ?_); rfl; rfl; rfl))
        go_round
        case rel => exact ⟨k + 1, by omega, by rw [EN.out], by go_num⟩
        case measure => simp [intOf]; omega
      · have hlk : ¬ (k : Int) < 4 := by omega
        rw [List.take_of_length_le (by have := h4.out; omega)]
        have B1 : Hid (Below w.heap.size w (w.alloc (.cells #[.slice AH m c] 35))) := below_new _ _
        have K1 : Hid (Blk (w.alloc (.cells #[.slice AH m c] 35)) w.heap.size 35 #[.slice AH m c]) := Blk.new _ _ _
        have HS := Lib.hid (sum02_any (HI.out.ext B1.out) (four_ext HF.out B1.out) w.heap.size 0 1 (K1.out.cell 0))
        have HC := Lib.hid (cloneB p (w.alloc (.cells #[.slice AH m c] 35)) AH m c hm1 (HI.out.ext B1.out).sl HI.out.len)
        have NQ := Lib.hid (fun u => neq32 (wordU t) (sumC (toB8 p)) u)
        have NG := Lib.hid (fun x y u => neqg32 x y (wordU t) (sumC (toB8 p)) u)
        by_cases hw : wordU t = sumC (toB8 p)
        · rw [if_pos hw] at E
          rw [decide_eq_true hw] at NQ
          replace hw := Lib.hid hw
          generalize u32V (wordU t) = u1 at *
          generalize u32V (sumC (toB8 p)) = u2 at *
          go_wp2_with (refine wpList_slB rfl rfl rfl rfl (CH.out _) ?_)
          refine HS.out.mono ?_
          rintro e w3 ⟨rfl, rfl⟩
          go_wp2_with (first
            | ((with_reducible refine wpList_comp ?_ ?_ ?_ (NQ.out _) ?_); rfl; rfl; exact NG.out _ _ _)
            | (refine wpList_slB rfl rfl rfl rfl (CH.out _) ?_))
          refine HC.out.mono ?_
          rintro e w4 ⟨v4, rfl, o4, b4⟩
          have B4 := Lib.hid (B1.out.trans (b4.mono B1.out.size))
          have O4 := Lib.hid (own_mono' o4 B1.out.size)
          have hpl : Hid (p.length = m) := HI.out.len
          clear o4 b4
          go_wp2_with fail
          refine bodyPost_ret (v := .tuple #[v4, .int .i64 0]) ?_ rfl ⟨v4, by rw [E.out]; rfl, by rw [E.out, hpl.out]; exact O4.out, B4.out⟩
          simp [results, Tryz.results84, go_sem]
        · rw [if_neg hw] at E
          rw [decide_eq_false hw] at NQ
          replace hw := Lib.hid hw
          generalize u32V (wordU t) = u1 at *
          generalize u32V (sumC (toB8 p)) = u2 at *
          go_wp2_with (refine wpList_slB rfl rfl rfl rfl (CH.out _) ?_)
          refine HS.out.mono ?_
          rintro e w3 ⟨rfl, rfl⟩
          go_wp2_with ((with_reducible refine wpList_comp ?_ ?_ ?_ (NQ.out _) ?_); rfl; rfl; exact NG.out _ _ _)
          refine bodyPost_ret (v := .tuple #[.slice none 0 0, .int .i64 5]) ?_ rfl ⟨.slice none 0 0, by rw [E.out]; rfl, by rw [E.out]; exact World.ownsRow_nil _ _ _ _, B1.out⟩
          simp [results, Tryz.results84, go_sem]
end Go.Proofs.YtdafiipedlglpaaGreatDoor
