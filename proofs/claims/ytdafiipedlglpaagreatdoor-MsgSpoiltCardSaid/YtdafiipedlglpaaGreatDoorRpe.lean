/- The reference's reader: a text: walked. -/
import Derived.Test.YtdafiipedlglpaaGreatDoorRpd
namespace Go.Proofs.YtdafiipedlglpaaGreatDoor
open Go.RowKit

theorem run_slice_mid {P : Program} {t e : TypeId} {size bytes : Nat} (T : SlT P t e size bytes) {A : Option Addr} {n c lo hi : Nat} (h1 : lo ≤ hi) (h2 : hi ≤ c) (w : World) :
    (Instr.sliceAt t (.slice A n c) (some (.int .i64 lo)) (some (.int .i64 hi)) none).run P w = .ok (.slice (cutAddr A c lo size) (hi - lo) (c - lo)) w := by
  obtain ⟨i, z, hi', hz, hsz, hby, hzs⟩ := T.hi
  simp [Instr.sliceAt, Instr.slice, run_underlying T.ht, Instr.sliceBounds, Instr.sliceBound, asIntOf, sizeOf, typeInfo, hi', hsz, cutAddr]
  rw [if_pos h2, if_pos h1]
theorem Sl.less {w : World} {B n k : Nat} {A : Option Addr} {l : List UInt8} (h : Sl w B 1 A n (encB l)) (hn : l.length = n) (hk : k ≤ n) : Sl w B 1 A k (encB (l.take k)) := by
  have hl : (l.take k).length = k := by rw [List.length_take]; omega
  refine ⟨by rw [encB_len, hl, Nat.mul_one], fun hp => ?_⟩
  obtain ⟨b, o, rfl, hb, hcell⟩ := h.2 (by omega)
  refine ⟨b, o, rfl, hb, fun j hj => ?_⟩
  rw [hcell _ (by omega), encB_at, encB_at, List.getElem?_take_of_lt (by omega)]
set_option maxRecDepth 100000 in
set_option maxHeartbeats 4000000 in
theorem rrText_any {w : World} {B g e : Nat} {l : List UInt8} (h : RrAt w B g l e) (most : Nat) (hmost : most ≤ 100000) :
    Calls Tryz.prog 94 #[.pointer (some ⟨g, 0, none⟩), .int .i64 (most : Int)] w (RrRet w B g (.string (bytesOf (rText most l e).1)) (rText most l e).2.1 (rText most l e).2.2) := by
  have H := Lib.hid h
  have KR := Lib.hid (Kept.refl (fun k => k = g) w)
  obtain ⟨A, c, h1, h2, h3, h4⟩ := h.ex
  have ge := h.ge
  have y0 : w.cell? ⟨g, 0, none⟩ = some (.slice A l.length c) := h1.cell 0
  have y1 : w.cell? ⟨g, 1, none⟩ = some (.int .i64 (e : Int)) := h1.cell 1
  have f0 : w.frozen? ⟨g, 0, none⟩ = false := h1.fr 0
  have f1 : w.frozen? ⟨g, 1, none⟩ = false := h1.fr 1
  have hm0 : ¬ (most : Int) < 0 := by omega
  have hmw : IntKind.u64.wrap (most : Int) = (most : Int) := by rw [IntKind.wrap_u64]; omega
  have hlm : l.length ≤ maxLen := Nat.le_trans h2 h3
  unfold maxLen at hlm
  by_cases h0 : e = 0
  · subst h0
    have HV := Lib.hid (rvread_any l w A l.length c ⟨rfl, h2, h3, h4.more (by have := h1.lt; omega)⟩)
    have hle := Lib.hid (fun n k he => vread_len (l := l) (n := n) (k := k) he)
    have hn64 := vread_lt l
    obtain ⟨n, k, e1, hv⟩ : ∃ n k e1, vread l = (n, k, e1) := ⟨_, _, _, rfl⟩
    have ER : Hid (rText most l 0 = if e1 ≠ 0 then ([], l, e1) else if most < n then ([], l, 3) else if l.length - k < n then ([], l, 2) else ((l.drop k).take n, (l.drop k).drop n, 0)) := by
      rw [Hid]; unfold rText; rw [if_neg (by simp), hv]
    rw [hv] at HV hle hn64
    clear hv
    by_cases he : e1 = 0
    · subst he
      have hk := hle.out n k rfl
      by_cases hm : most < n
      · have hmi : (most : Int) < (n : Int) := by omega
        have HF := Lib.hid (rr_fail ge h1 h2 h3 h4 3)
        have E : rText most l 0 = ([], l, 3) := by rw [ER.out, if_neg (by simp), if_pos hm]
        rw [E]
        clear h h1 h2 h3 h4 H KR ER E hle
        go_enter Tryz.func94, Tryz.ntmps94
        go_wp2_with fail
        refine HV.out.mono ?_
        rintro e _ ⟨rfl, rfl⟩
        go_wp2
        go_ret
        exact ⟨rfl, HF.out.1, HF.out.2⟩
      · have hmi : ¬ (most : Int) < (n : Int) := by omega
        obtain ⟨r, hr⟩ : ∃ r, r = l.length - k := ⟨_, rfl⟩
        have hri : ((l.length : Nat) : Int) - (k : Int) = (r : Int) := by omega
        have hrw : IntKind.u64.wrap (((l.length : Nat) : Int) - (k : Int)) = (r : Int) := by rw [hri, IntKind.wrap_u64]; omega
        have hrw2 : IntKind.u64.wrap (r : Int) = (r : Int) := by rw [IntKind.wrap_u64]; omega
        rw [← hr] at ER
        by_cases hrn : r < n
        · have hrni : (r : Int) < (n : Int) := by omega
          have HF := Lib.hid (rr_fail ge h1 h2 h3 h4 2)
          have E : rText most l 0 = ([], l, 2) := by rw [ER.out, if_neg (by simp), if_neg hm, if_pos hrn]
          rw [E]
          replace hr := Lib.hid hr
          clear h h1 h2 h3 h4 H KR ER E hle
          go_enter Tryz.func94, Tryz.ntmps94
          go_wp2_with fail
          refine HV.out.mono ?_
          rintro e _ ⟨rfl, rfl⟩
          go_wp2
          go_ret
          exact ⟨rfl, HF.out.1, HF.out.2⟩
        · have hrni : ¬ (r : Int) < (n : Int) := by omega
          obtain ⟨s, hs⟩ : ∃ s, s = k + n := ⟨_, rfl⟩
          have hsi : (k : Int) + (n : Int) = (s : Int) := by omega
          have hnw : IntKind.i64.wrap (n : Int) = (n : Int) := by rw [IntKind.wrap_i64]; omega
          have HS := Lib.hid (rr_skip ge h1 h2 h3 h4 (k := s) (by omega))
          have CL := Lib.hid (fun u => run_slice_low byteSl (A := A) (n := l.length) (c := c) (k := s) (by omega) u)
          have CM := fun u => run_slice_mid byteSl (A := A) (n := l.length) (c := c) (lo := k) (hi := s) (by omega) (by omega) u
          rw [show s - k = n by omega] at CM
          replace CM := Lib.hid CM
          have SL := Sl.cutLow (k := k) (c := c) (l := l) (enc := enc1) h4 rfl enc1_len hk h2
          have SM := Sl.less SL (by rw [List.length_drop]) (k := n) (by omega)
          have CV : Hid ((convert 35 9 (.slice (cutAddr A c k 1) n (c - k))).run Tryz.prog w = .ok (.string (bytesOf ((l.drop k).take n))) w) := strB_run SM (by rw [List.length_take, List.length_drop]; omega)
          have E : rText most l 0 = ((l.drop k).take n, l.drop s, 0) := by rw [ER.out, if_neg (by simp), if_neg hm, if_neg hrn, List.drop_drop, hs]
          rw [E]
          replace hr := Lib.hid hr
          replace hs := Lib.hid hs
          clear h h1 h2 h3 h4 H KR ER E hle SL SM
          generalize cutAddr A c s 1 = A2 at *
          generalize cutAddr A c k 1 = A3 at *
          generalize (l.drop k).take n = tx at *
          go_enter Tryz.func94, Tryz.ntmps94
          go_wp2_with fail
          refine HV.out.mono ?_
          rintro e _ ⟨rfl, rfl⟩
          go_wp2_with (first
            | (refine wpList_slB rfl rfl rfl rfl (CM.out _) ?_)
            | (refine wpList_slB rfl rfl rfl rfl (CL.out _) ?_)
            | (refine wpList_convB rfl CV.out ?_))
          go_ret
          exact ⟨rfl, HS.out.1, HS.out.2⟩
    · have z0 : (((e1 : Nat) : Int) == 0) = false := by rw [beq_eq_false_iff_ne]; omega
      have z1 : (((e1 : Nat) : Int) != 0) = true := by rw [bne_iff_ne]; omega
      have HF := Lib.hid (rr_fail ge h1 h2 h3 h4 e1)
      have E : rText most l 0 = ([], l, e1) := by rw [ER.out, if_pos he]
      rw [E]
      replace he := Lib.hid he
      clear h h1 h2 h3 h4 H KR ER E hle
      go_enter Tryz.func94, Tryz.ntmps94
      go_wp2_with fail
      refine HV.out.mono ?_
      rintro e _ ⟨rfl, rfl⟩
      go_wp2
      go_ret
      exact ⟨rfl, HF.out.1, HF.out.2⟩
  · have z1 : (((e : Nat) : Int) != 0) = true := by rw [bne_iff_ne]; omega
    rw [show rText most l e = ([], l, e) by unfold rText; rw [if_pos h0]]
    clear h h1 h2 h3 h4
    go_enter Tryz.func94, Tryz.ntmps94
    go_wp2
    go_ret
    exact ⟨rfl, KR.out, H.out⟩
end Go.Proofs.YtdafiipedlglpaaGreatDoor
