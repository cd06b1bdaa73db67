/- Texts of general use, one behind another. -/
import Derived.Test.YtdafiipedlglpaaGreatDoorLogs
import Derived.Test.YtdafiipedlglpaaGreatDoorCrcq
import Derived.Test.YtdafiipedlglpaaGreatDoorRps
import Derived.Test.YtdafiipedlglpaaGreatDoorFarb
import Derived.Test.YtdafiipedlglpaaGreatDoorPaws
import Derived.Test.YtdafiipedlglpaaGreatDoorGen
import Derived.Test.YtdafiipedlglpaaGreatDoorLists
import Derived.Test.YtdafiipedlglpaaGreatDoorRpg

/- The document's frames, and its disk: walked. -/
namespace Go.Proofs.YtdafiipedlglpaaGreatDoor
open Go.RowKit

theorem bytes_none (w : World) : BytesAt w none 0 0 [] := ⟨rfl, Nat.le_refl _, Nat.zero_le _, ⟨rfl, fun h => absurd h (by decide)⟩⟩
set_option maxRecDepth 100000 in
set_option maxHeartbeats 4000000 in
theorem rframe06_any (l : List UInt8) (w : World) (A : Option Addr) (n c : Nat) (h : BytesAt w A n c l) (hm : n ≤ 65536) :
    Calls Tryz.prog 107 #[.slice A n c] w (OwnedRet w 5 1 (frameB l).length (encB (frameB l))) := by
  have hl := h.len
  have hmw : IntKind.u64.wrap (n : Int) = (n : Int) := by rw [IntKind.wrap_u64]; omega
  have HV := Lib.hid (rvbytes_any n (by omega) w)
  have hvl : (vbytes n).length ≤ 10 := vbytes_len 9 n (by omega)
  have EH : Hid (encB (vbytes n) ++ encB l = encB (headF l)) := by rw [Hid, ← encB_append]; unfold headF; rw [hl]
  have LH : Hid ((vbytes n).length + n = (headF l).length) := by rw [Hid, headF_len, hl]
  have H := Lib.hid h
  clear h
  go_enter Tryz.func107, Tryz.ntmps107
  go_wp2_with fail
  refine HV.out.mono ?_
  rintro e w2 ⟨v2, rfl, o2, b2⟩
  have O2 := Lib.hid o2
  have S2 := Lib.hid (H.out.ext b2).sl
  have B2 := Lib.hid b2
  clear o2 b2 HV H hmw
  go_upto_region 3 with (at_builtin; refine wpList_catB byteSl O2.out S2.out (encB_one l) B2.out.size (by omega) (by unfold maxLen; omega) (by rfl) (by rfl) ?_; intro v3 w3 own3 kp3 hv3)
  rw [EH.out, LH.out] at own3
  have B3 : Hid (Below w.heap.size w w3) := B2.out.trans (kp3.below (B := w.heap.size) (fun k e => (O2.out.lt k e).1) B2.out.size)
  obtain ⟨p, hp⟩ : ∃ p, p = headF l := ⟨_, rfl⟩
  have hpl : p.length ≤ 65550 := by rw [hp, ← LH.out]; omega
  rw [← hp] at own3
  have hfr : Hid (frameB l = sealB p) := by rw [hp]; rfl
  obtain ⟨np, hnp⟩ : ∃ np, np = p.length := ⟨_, rfl⟩
  rw [← hnp] at own3 hpl
  obtain ⟨A3, c3, rfl, ba3⟩ := own_bytes own3 hnp.symm
  have O3 := Lib.hid own3
  have BA3 := Lib.hid ba3
  have ES : Hid (encB (frameB l) = encB p ++ encB (fourU (sumC (toB8 p)))) := by rw [Hid, hfr.out]; unfold sealB; rw [encB_append]
  have EL : Hid ((frameB l).length = np + 4) := by rw [Hid, hfr.out, sealB_len, hnp]
  have HM : Hid (Calls Tryz.prog 83 #[.int .u32 0, .slice A3 np c3] w3 (Ret w3 (u32V (sumC (toB8 p))))) := rmore02_any p 0#32 w3 A3 np c3 BA3.out
  have H4 := Lib.hid (four05_any (sumC (toB8 p)) w3)
  generalize sumC (toB8 p) = S at *
  clear own3 ba3 hv3 kp3 hp LH EH hfr BA3 S2 O2 B2
  replace hnp := Lib.hid hnp
  go_wp2_with fail
  refine HM.out.mono ?_
  rintro e _ ⟨rfl, rfl⟩
  go_wp2_with fail
  refine H4.out.mono ?_
  rintro e w4 ⟨v4, rfl, o4, b4⟩
  obtain ⟨A4, c4, rfl, _, s4⟩ := Sl.of_own o4
  have S4 := Lib.hid s4
  have O4 := Lib.hid (own_ext O3.out b4)
  have B4 := Lib.hid (B3.out.trans (b4.mono B3.out.size))
  clear o4 b4 s4 HM H4 O3 B3
  go_wp2_with (at_builtin; refine wpList_catB byteSl O4.out S4.out (encB_one _) B4.out.size (by omega) (by unfold maxLen; omega) (by rfl) (by rfl) ?_; intro v6 w6 own6 kp6 hv6)
  have B6 : Hid (Below w.heap.size w w6) := B4.out.trans (kp6.below (fun k e => (O4.out.lt k e).1) B4.out.size)
  go_ret
  exact ⟨_, rfl, by rw [EL.out, ES.out]; exact own6, B6.out⟩
theorem nextFr_four {l : List UInt8} {q k : Nat} (hv : vread l = (q, k, 0)) (hq : q ≤ 65536) (hlen : k + q + 4 ≤ l.length) :
    nextFr l = if (l.drop (k + q)).take 4 = fourU (sumC (toB8 (l.take (k + q)))) then ((l.take (k + q)).drop k, k + q + 4, 0) else ([], 0, 5) := by
  unfold nextFr
  rw [hv]
  dsimp only
  rw [if_neg (by omega), if_neg (by omega), if_neg (by omega)]
def RNextRet (w : World) (l : List UInt8) (e : Ending) (w' : World) : Prop := ∃ (A : Option Addr) (c : Nat), e = .returned (.tuple #[.slice A (nextFr l).1.length c, .int .i64 (((nextFr l).2.1 : Nat) : Int), .int .i64 (((nextFr l).2.2 : Nat) : Int)]) ∧ BytesAt w' A (nextFr l).1.length c (nextFr l).1 ∧ Below w.heap.size w w'
set_option maxRecDepth 100000 in
set_option maxHeartbeats 4000000 in
theorem rnext06_any (l : List UInt8) (w : World) (A : Option Addr) (n c : Nat) (h : BytesAt w A n c l) (hm : n ≤ 10000000) :
    Calls Tryz.prog 172 #[.slice A n c] w (RNextRet w l) := by
  have hl := h.len
  have BR := Lib.hid (Below.refl w.heap.size w)
  have HV := Lib.hid (rvread_any l w A n c h)
  have hle := Lib.hid (fun n k he => vread_len (l := l) (n := n) (k := k) he)
  have H := Lib.hid h
  obtain ⟨q, k, e1, hv⟩ : ∃ q k e1, vread l = (q, k, e1) := ⟨_, _, _, rfl⟩
  rw [hv] at HV hle
  replace hv := Lib.hid hv
  clear h
  by_cases he : e1 = 0
  · subst he
    have hk := hle.out q k rfl
    by_cases hq : q ≤ 65536
    · have hqi : ¬ (65536 < (q : Int)) := by omega
      have hqw : IntKind.i64.wrap (q : Int) = (q : Int) := by rw [IntKind.wrap_i64]; omega
      obtain ⟨m, hm0⟩ : ∃ m, m = k + q := ⟨_, rfl⟩
      have zz3 : IntKind.i64.wrap ((k : Int) + (q : Int)) = (m : Int) := by rw [IntWalk.i64_in _ (by omega)]; omega
      have zz4 : IntKind.i64.wrap ((m : Int) + 4) = ((m + 4 : Nat) : Int) := by rw [IntWalk.i64_in _ (by omega)]; omega
      by_cases hlen : k + q + 4 ≤ n
      · have zc : ¬ ((n : Int) < ((m + 4 : Nat) : Int)) := by omega
        have E := Lib.hid (nextFr_four hv.out hq (by omega))
        rw [← hm0] at E
        have HM4 := H.out.mid (lo := m) (hi := m + 4) (by omega) (by omega)
        have e4 : m + 4 - m = 4 := by omega
        rw [e4] at HM4
        have CM4 := Lib.hid (fun u => run_slice_mid byteSl (A := A) (n := n) (c := c) (lo := m) (hi := m + 4) (by omega) (by have := H.out.cap; omega) u)
        rw [e4] at CM4
        have HI := Lib.hid (H.out.top (k := m) (by omega))
        have CH := Lib.hid (fun u => run_slice_high byteSl (A := A) (n := n) (c := c) (k := m) (by have := H.out.cap; omega) u)
        have HK := H.out.mid (lo := k) (hi := m) (by omega) (by omega)
        have CK := Lib.hid (fun u => run_slice_mid byteSl (A := A) (n := n) (c := c) (lo := k) (hi := m) (by omega) (by have := H.out.cap; omega) u)
        have emk : m - k = q := by omega
        rw [emk] at HK CK
        have ED : Hid ((l.take m).drop k = (l.drop k).take q) := by rw [Hid, List.drop_take, emk]
        rw [ED.out] at E
        have HK := Lib.hid HK
        have LO := Lib.hid HM4
        clear HM4 e4 emk ED H hle hlen
        generalize cutAddr A c m 1 = AL at *
        generalize cutAddr A c 0 1 = AH at *
        generalize cutAddr A c k 1 = AK at *
        generalize (l.drop m).take 4 = t at *
        generalize l.take m = p at *
        generalize (l.drop k).take q = x0 at *
        generalize c - m = cm at *
        generalize c - k = ck at *
        replace hm0 := Lib.hid hm0
        have hmb : m ≤ 10000000 := by have := hm0.out; omega
        have AD : Hid (∀ u, (binOp .add 3 (.int .i64 (m : Int)) (.int .i64 4)).run Tryz.prog u = .ok (.int .i64 ((m + 4 : Nat) : Int)) u) := fun u => by
          simp [go_sem, zz4]
        have HM : Hid (∀ u, Below w.heap.size w u → Calls Tryz.prog 83 #[.int .u32 0, .slice AH m c] u (Ret u (u32V (sumC (toB8 p))))) := fun u hu => rmore02_any p 0#32 u AH m c (HI.out.ext hu)
        have H4 := Lib.hid (fun u => four05_any (sumC (toB8 p)) u)
        have NS := Lib.hid (fun u => neqSt (bytesOf t) (bytesOf (fourU (sumC (toB8 p)))) u)
        have hxl : Hid (x0.length = q) := HK.out.len
        have hc4 : ∀ args u, (callFunc 82 args).run Tryz.prog u = .ok (.enter 82 args) u := enters_of Tryz.func82 (by kernel_rfl) rfl
        have hcM : ∀ args u, (callFunc 83 args).run Tryz.prog u = .ok (.enter 83 args) u := enters_of Tryz.func83 (by kernel_rfl) rfl
        generalize sumC (toB8 p) = S at *
        go_enter Tryz.func172, Tryz.ntmps172
        go_wp2_with fail
        refine HV.out.mono ?_
        rintro e _ ⟨rfl, rfl⟩
        clear HV
        go_upto_region 9 with fail
        by_cases hw : t = fourU S
        · rw [if_pos hw] at E
          rw [decide_eq_true (bytesOf_inj.2 hw)] at NS
          replace hw := Lib.hid hw
          refine wp_region_held (S := fun w' => Below w.heap.size w w') mixedS ?_
          change wpAnyH _ _ _ _ _ _ _ _ w.drew
          have B00 : Hid (Below w.heap.size w w.drew) := (Below.refl _ _).drew
          generalize w.drew = w0 at B00 ⊢
          simp only [List.size_toArray, List.length_cons, List.length_nil]
          refine takeV (i := 0) (d := 29) (v := .slice A n c) rfl (by kernel_rfl) (by kernel_rfl) (by kernel_rfl) (fun _ _ _ h => h) rfl (fun _ _ => exMove (v := .slice A n c) rfl) B00.out ?_
          simp only [Act.put, List.setIfInBounds_toArray, List.set_cons_zero, List.set_cons_succ]
          refine takeV (i := 1) (d := 30) (v := .int .i64 (m : Int)) rfl (by kernel_rfl) (by kernel_rfl) (by kernel_rfl) (fun _ _ _ h => h) rfl (fun _ _ => exMove (v := .int .i64 (m : Int)) rfl) B00.out ?_
          simp only [Act.put, List.setIfInBounds_toArray, List.set_cons_zero, List.set_cons_succ]
          refine takeV (i := 2) (d := 31) (v := .int .i64 (m : Int)) rfl (by kernel_rfl) (by kernel_rfl) (by kernel_rfl) (fun _ _ _ h => h) rfl (fun _ _ => exMove (v := .int .i64 (m : Int)) rfl) B00.out ?_
          simp only [Act.put, List.setIfInBounds_toArray, List.set_cons_zero, List.set_cons_succ]
          refine takeV (i := 3) (d := 32) (v := .int .i64 ((m + 4 : Nat) : Int)) rfl (by kernel_rfl) (by kernel_rfl) (by kernel_rfl) (fun _ _ _ h => h) rfl (fun w' _ => exBin rfl rfl (by rfl) (AD.out w')) B00.out ?_
          simp only [Act.put, List.setIfInBounds_toArray, List.set_cons_zero, List.set_cons_succ]
          refine takeV (i := 4) (d := 33) (v := .slice AL 4 cm) rfl (by kernel_rfl) (by kernel_rfl) (by kernel_rfl) (fun _ _ _ h => h) rfl (fun w' _ => exSlice5 rfl rfl rfl rfl (CM4.out w')) B00.out ?_
          simp only [Act.put, List.setIfInBounds_toArray, List.set_cons_zero, List.set_cons_succ]
          refine takeV (i := 5) (d := 34) (v := .string (bytesOf t)) rfl (by kernel_rfl) (by kernel_rfl) (by kernel_rfl) (fun _ _ _ h => h) rfl (fun w' h => exConvB rfl (strB_run (LO.out.ext h).sl (LO.out.ext h).len)) B00.out ?_
          simp only [Act.put, List.setIfInBounds_toArray, List.set_cons_zero, List.set_cons_succ]
          refine takeV (i := 6) (d := 35) (v := .slice A n c) rfl (by kernel_rfl) (by kernel_rfl) (by kernel_rfl) (fun _ _ _ h => h) rfl (fun _ _ => exMove (v := .slice A n c) rfl) B00.out ?_
          simp only [Act.put, List.setIfInBounds_toArray, List.set_cons_zero, List.set_cons_succ]
          refine takeV (i := 7) (d := 36) (v := .int .i64 (m : Int)) rfl (by kernel_rfl) (by kernel_rfl) (by kernel_rfl) (fun _ _ _ h => h) rfl (fun _ _ => exMove (v := .int .i64 (m : Int)) rfl) B00.out ?_
          simp only [Act.put, List.setIfInBounds_toArray, List.set_cons_zero, List.set_cons_succ]
          refine takeV (i := 8) (d := 37) (v := .slice AH m c) rfl (by kernel_rfl) (by kernel_rfl) (by kernel_rfl) (fun _ _ _ h => h) rfl (fun w' _ => exSlice5 rfl rfl rfl rfl (CH.out w')) B00.out ?_
          simp only [Act.put, List.setIfInBounds_toArray, List.set_cons_zero, List.set_cons_succ]
          refine wpAnyH_all (rs := [9]) (by kernel_rfl) (by simp) ?_
          intro i hi
          simp only [List.mem_cons, List.not_mem_nil, or_false] at hi
          subst hi
          refine wpOp_of rfl rfl (wp_called (args := #[.int .u32 0, .slice AH m c]) hcM (by simp only [List.map_toArray, List.map_cons, List.map_nil]; rfl) (HM.out w0 B00.out) ?_)
          rintro e w_1 ⟨rfl, rfl⟩
          refine ⟨_, rfl, B00.out, ?_⟩
          simp only [Act.put, List.setIfInBounds_toArray, List.set_cons_zero, List.set_cons_succ]
          refine wpAnyH_all (rs := [10]) (by kernel_rfl) (by simp) ?_
          intro i hi
          simp only [List.mem_cons, List.not_mem_nil, or_false] at hi
          subst hi
          refine wpOp_of rfl rfl (wp_called (args := #[u32V S]) hc4 (by simp only [List.map_toArray, List.map_cons, List.map_nil]; rfl) (H4.out w0) ?_)
          rintro e w_2 ⟨_, rfl, o_4, h_3⟩
          obtain ⟨A_5, c_6, rfl, _, p_7⟩ := Sl.of_own o_4
          have Q_8 := Lib.hid p_7
          refine ⟨_, rfl, ext_trans B00.out h_3, ?_⟩
          simp only [Act.put, List.setIfInBounds_toArray, List.set_cons_zero, List.set_cons_succ]
          have B_9 := Lib.hid (ext_trans B00.out h_3)
          clear B00
          clear o_4 h_3 p_7
          refine wpAnyH_all (rs := [11]) (by kernel_rfl) (by simp) ?_
          intro i hi
          simp only [List.mem_cons, List.not_mem_nil, or_false] at hi
          subst hi
          refine wpOp_of rfl rfl (wp_conv5 rfl (strB_run Q_8.out rfl) ?_)
          refine ⟨B_9.out, ?_⟩
          simp only [Act.put, List.setIfInBounds_toArray, List.set_cons_zero, List.set_cons_succ]
          refine takeV (i := 12) (d := 41) (v := .bool false) rfl (by kernel_rfl) (by kernel_rfl) (by kernel_rfl) (fun _ _ _ h => h) rfl (fun w' _ => exBin rfl rfl (neqSg _ _ _ _ _) (NS.out _)) B_9.out ?_
          simp only [Act.put, List.setIfInBounds_toArray, List.set_cons_zero, List.set_cons_succ]
          refine wpAnyH_done (by kernel_rfl) ?_ _
          have B4 := B_9
          obtain ⟨w4, rfl⟩ : ∃ wx, wx = w_2 := ⟨_, rfl⟩
          clear B_9 Q_8
          go_wp2_with (refine wpList_slB rfl rfl rfl rfl (CK.out _) ?_)
          refine bodyPost_ret (v := .tuple #[.slice AK q ck, .int .i64 ((m + 4 : Nat) : Int), .int .i64 0]) ?_ rfl ⟨AK, ck, by rw [E.out]; dsimp only; rw [hxl.out]; rfl, by rw [E.out]; dsimp only; rw [hxl.out]; exact HK.out.ext B4.out, B4.out⟩
          simp [results, Tryz.results172, go_sem]
        · rw [if_neg hw] at E
          rw [decide_eq_false fun h => hw (bytesOf_inj.1 h)] at NS
          replace hw := Lib.hid hw
          refine wp_region_held (S := fun w' => Below w.heap.size w w') mixedS ?_
          change wpAnyH _ _ _ _ _ _ _ _ w.drew
          have B00 : Hid (Below w.heap.size w w.drew) := (Below.refl _ _).drew
          generalize w.drew = w0 at B00 ⊢
          simp only [List.size_toArray, List.length_cons, List.length_nil]
          refine takeV (i := 0) (d := 29) (v := .slice A n c) rfl (by kernel_rfl) (by kernel_rfl) (by kernel_rfl) (fun _ _ _ h => h) rfl (fun _ _ => exMove (v := .slice A n c) rfl) B00.out ?_
          simp only [Act.put, List.setIfInBounds_toArray, List.set_cons_zero, List.set_cons_succ]
          refine takeV (i := 1) (d := 30) (v := .int .i64 (m : Int)) rfl (by kernel_rfl) (by kernel_rfl) (by kernel_rfl) (fun _ _ _ h => h) rfl (fun _ _ => exMove (v := .int .i64 (m : Int)) rfl) B00.out ?_
          simp only [Act.put, List.setIfInBounds_toArray, List.set_cons_zero, List.set_cons_succ]
          refine takeV (i := 2) (d := 31) (v := .int .i64 (m : Int)) rfl (by kernel_rfl) (by kernel_rfl) (by kernel_rfl) (fun _ _ _ h => h) rfl (fun _ _ => exMove (v := .int .i64 (m : Int)) rfl) B00.out ?_
          simp only [Act.put, List.setIfInBounds_toArray, List.set_cons_zero, List.set_cons_succ]
          refine takeV (i := 3) (d := 32) (v := .int .i64 ((m + 4 : Nat) : Int)) rfl (by kernel_rfl) (by kernel_rfl) (by kernel_rfl) (fun _ _ _ h => h) rfl (fun w' _ => exBin rfl rfl (by rfl) (AD.out w')) B00.out ?_
          simp only [Act.put, List.setIfInBounds_toArray, List.set_cons_zero, List.set_cons_succ]
          refine takeV (i := 4) (d := 33) (v := .slice AL 4 cm) rfl (by kernel_rfl) (by kernel_rfl) (by kernel_rfl) (fun _ _ _ h => h) rfl (fun w' _ => exSlice5 rfl rfl rfl rfl (CM4.out w')) B00.out ?_
          simp only [Act.put, List.setIfInBounds_toArray, List.set_cons_zero, List.set_cons_succ]
          refine takeV (i := 5) (d := 34) (v := .string (bytesOf t)) rfl (by kernel_rfl) (by kernel_rfl) (by kernel_rfl) (fun _ _ _ h => h) rfl (fun w' h => exConvB rfl (strB_run (LO.out.ext h).sl (LO.out.ext h).len)) B00.out ?_
          simp only [Act.put, List.setIfInBounds_toArray, List.set_cons_zero, List.set_cons_succ]
          refine takeV (i := 6) (d := 35) (v := .slice A n c) rfl (by kernel_rfl) (by kernel_rfl) (by kernel_rfl) (fun _ _ _ h => h) rfl (fun _ _ => exMove (v := .slice A n c) rfl) B00.out ?_
          simp only [Act.put, List.setIfInBounds_toArray, List.set_cons_zero, List.set_cons_succ]
          refine takeV (i := 7) (d := 36) (v := .int .i64 (m : Int)) rfl (by kernel_rfl) (by kernel_rfl) (by kernel_rfl) (fun _ _ _ h => h) rfl (fun _ _ => exMove (v := .int .i64 (m : Int)) rfl) B00.out ?_
          simp only [Act.put, List.setIfInBounds_toArray, List.set_cons_zero, List.set_cons_succ]
          refine takeV (i := 8) (d := 37) (v := .slice AH m c) rfl (by kernel_rfl) (by kernel_rfl) (by kernel_rfl) (fun _ _ _ h => h) rfl (fun w' _ => exSlice5 rfl rfl rfl rfl (CH.out w')) B00.out ?_
          simp only [Act.put, List.setIfInBounds_toArray, List.set_cons_zero, List.set_cons_succ]
          refine wpAnyH_all (rs := [9]) (by kernel_rfl) (by simp) ?_
          intro i hi
          simp only [List.mem_cons, List.not_mem_nil, or_false] at hi
          subst hi
          refine wpOp_of rfl rfl (wp_called (args := #[.int .u32 0, .slice AH m c]) hcM (by simp only [List.map_toArray, List.map_cons, List.map_nil]; rfl) (HM.out w0 B00.out) ?_)
          rintro e w_1 ⟨rfl, rfl⟩
          refine ⟨_, rfl, B00.out, ?_⟩
          simp only [Act.put, List.setIfInBounds_toArray, List.set_cons_zero, List.set_cons_succ]
          refine wpAnyH_all (rs := [10]) (by kernel_rfl) (by simp) ?_
          intro i hi
          simp only [List.mem_cons, List.not_mem_nil, or_false] at hi
          subst hi
          refine wpOp_of rfl rfl (wp_called (args := #[u32V S]) hc4 (by simp only [List.map_toArray, List.map_cons, List.map_nil]; rfl) (H4.out w0) ?_)
          rintro e w_2 ⟨_, rfl, o_4, h_3⟩
          obtain ⟨A_5, c_6, rfl, _, p_7⟩ := Sl.of_own o_4
          have Q_8 := Lib.hid p_7
          refine ⟨_, rfl, ext_trans B00.out h_3, ?_⟩
          simp only [Act.put, List.setIfInBounds_toArray, List.set_cons_zero, List.set_cons_succ]
          have B_9 := Lib.hid (ext_trans B00.out h_3)
          clear B00
          clear o_4 h_3 p_7
          refine wpAnyH_all (rs := [11]) (by kernel_rfl) (by simp) ?_
          intro i hi
          simp only [List.mem_cons, List.not_mem_nil, or_false] at hi
          subst hi
          refine wpOp_of rfl rfl (wp_conv5 rfl (strB_run Q_8.out rfl) ?_)
          refine ⟨B_9.out, ?_⟩
          simp only [Act.put, List.setIfInBounds_toArray, List.set_cons_zero, List.set_cons_succ]
          refine takeV (i := 12) (d := 41) (v := .bool true) rfl (by kernel_rfl) (by kernel_rfl) (by kernel_rfl) (fun _ _ _ h => h) rfl (fun w' _ => exBin rfl rfl (neqSg _ _ _ _ _) (NS.out _)) B_9.out ?_
          simp only [Act.put, List.setIfInBounds_toArray, List.set_cons_zero, List.set_cons_succ]
          refine wpAnyH_done (by kernel_rfl) ?_ _
          have B4 := B_9
          obtain ⟨w4, rfl⟩ : ∃ wx, wx = w_2 := ⟨_, rfl⟩
          clear B_9 Q_8
          go_wp2_with fail
          refine bodyPost_ret (v := .tuple #[.slice none 0 0, .int .i64 0, .int .i64 5]) ?_ rfl ⟨none, 0, by rw [E.out]; rfl, by rw [E.out]; exact bytes_none _, B4.out⟩
          simp [results, Tryz.results172, go_sem]
      · have zc : ((n : Int) < ((m + 4 : Nat) : Int)) := by omega
        have E : Hid (nextFr l = ([], 0, 2)) := by
          rw [Hid]; unfold nextFr; rw [hv.out]; dsimp only; rw [if_neg (by omega), if_neg (by omega), if_pos (by omega)]
        replace hlen := Lib.hid hlen
        replace hm0 := Lib.hid hm0
        go_enter Tryz.func172, Tryz.ntmps172
        go_wp2_with fail
        refine HV.out.mono ?_
        rintro e _ ⟨rfl, rfl⟩
        go_wp2_with fail
        refine bodyPost_ret (v := .tuple #[.slice none 0 0, .int .i64 0, .int .i64 2]) ?_ rfl ⟨none, 0, by rw [E.out]; rfl, by rw [E.out]; exact bytes_none _, BR.out⟩
        simp [results, Tryz.results172, go_sem]
    · have hqi : (65536 < (q : Int)) := by omega
      have E : Hid (nextFr l = ([], 0, 3)) := by
        rw [Hid]; unfold nextFr; rw [hv.out]; dsimp only; rw [if_neg (by omega), if_pos (by omega)]
      replace hq := Lib.hid hq
      go_enter Tryz.func172, Tryz.ntmps172
      go_wp2_with fail
      refine HV.out.mono ?_
      rintro e _ ⟨rfl, rfl⟩
      go_wp2_with fail
      refine bodyPost_ret (v := .tuple #[.slice none 0 0, .int .i64 0, .int .i64 3]) ?_ rfl ⟨none, 0, by rw [E.out]; rfl, by rw [E.out]; exact bytes_none _, BR.out⟩
      simp [results, Tryz.results172, go_sem]
  · have z1 : (((e1 : Nat) : Int) != 0) = true := by rw [bne_iff_ne]; omega
    have E : Hid (nextFr l = ([], 0, e1)) := by
      rw [Hid]; unfold nextFr; rw [hv.out]; dsimp only; rw [if_pos he]
    replace he := Lib.hid he
    go_enter Tryz.func172, Tryz.ntmps172
    go_wp2_with fail
    refine HV.out.mono ?_
    rintro e _ ⟨rfl, rfl⟩
    go_wp2_with fail
    refine bodyPost_ret (v := .tuple #[.slice none 0 0, .int .i64 0, .int .i64 (e1 : Int)]) ?_ rfl ⟨none, 0, by rw [E.out]; rfl, by rw [E.out]; exact bytes_none _, BR.out⟩
    simp [results, Tryz.results172, go_sem]
end Go.Proofs.YtdafiipedlglpaaGreatDoor

/- The document's disk: walked. -/
namespace Go.Proofs.YtdafiipedlglpaaGreatDoor
open Go.RowKit

theorem results_row30 {P : Program} {fn : Func} {p : Tmp} {ty : TypeId} (h : fn.results = #[.cell p ty]) (tmps : Array Value) (w : World) (g : Nat) (t : TypeId) (cs : Array Value) (D : TypeDesc)
    (hp : tmps.getD p undef = .pointer (some ⟨g, 0, none⟩)) (hg : Blk w g t cs) (hu : P.underlying ty = some D) (hd : (match D with | .struct _ | .array _ _ => true | _ => false) = true) (hi : (P.info? ty).map (·.size) = some cs.size) :
    (results fn tmps).run P w = .ok (.agg cs) w := results_cell_row h tmps w g t cs (0, 0) D hp hg hu hd hi
/-- the document's disk, as a value -/
def rdV (l : List UInt8) (s : Nat) : Array Value := #[.string (bytesOf l), .int .i64 (s : Int)]
def rdZ : Array Value := #[.string ByteArray.empty, .int .i64 0]
theorem allocRdk (w : World) : (Instr.alloc 55 true (.tuple #[])).run Tryz.prog w = .ok (.pointer (some ⟨w.heap.size, 0, none⟩)) (w.alloc (.cells rdZ 55)) := by kernel_rfl
theorem buildRdk (S : ByteArray) (k : Int) (w : World) : (Instr.build 55 #[(0, .string S), (1, .int .i64 k)]).run Tryz.prog w = .ok (.agg #[.string S, .int .i64 k]) w := by kernel_rfl
theorem underRdk : Tryz.prog.underlying 55 = some (.struct (Tryz.prog.fieldsOf 55)) := by kernel_rfl
theorem infoRdk : (Tryz.prog.info? 55).map (·.size) = some 2 := by kernel_rfl
theorem bytesOf_size (l : List UInt8) : (bytesOf l).size = l.length := by show (bytesOf l).data.size = _; simp [bytesOf]
theorem bytesOf_add (l m : List UInt8) : bytesOf l ++ bytesOf m = bytesOf (l ++ m) := by
  apply ByteArray.ext
  apply Array.ext'
  simp [bytesOf, ByteArray.data_append]
theorem bytesOf_take (l : List UInt8) (n : Nat) : (bytesOf l).extract 0 n = bytesOf (l.take n) := by
  apply ByteArray.ext
  apply Array.ext'
  simp [bytesOf, ByteArray.data_extract]
theorem rdV_one (l : List UInt8) (s : Nat) : (rdV l s).all (·.oneCell') = true := by simp [rdV, Value.oneCell']
theorem addS (S T : ByteArray) (h : S.size + T.size ≤ 9223372036854775807) (w : World) : (binOp .add 9 (.string S) (.string T)).run Tryz.prog w = .ok (.string (S ++ T)) w := by
  have h2 : ¬ 9223372036854775807 < S.size + T.size := by omega
  simp [go_sem, h2]
theorem sliceS (S : ByteArray) (n : Nat) (h : (n : Int) ≤ ((S.size : Nat) : Int)) (w : World) : (Instr.sliceAt 9 (.string S) none (some (.int .i64 (n : Int))) none).run Tryz.prog w = .ok (.string (S.extract 0 n)) w := by
  have h0 : (0 : Int) ≤ (n : Int) := by omega
  simp [go_sem, h, h0]
set_option maxRecDepth 100000 in
set_option maxHeartbeats 4000000 in
theorem rdAppend_any (l x : List UInt8) (s : Nat) (w : World) (A : Option Addr) (m c : Nat) (hx : BytesAt w A m c x) (hl : l.length + m ≤ 10000000) :
    Calls Tryz.prog 43 #[.agg (rdV l s), .slice A m c] w (RetB w (.agg (rdV (l ++ x) s))) := by
  have K1 : Hid (Blk ((w.alloc (.cells (rdV l s) 55)).alloc (.cells rdZ 55)) w.heap.size 55 (rdV l s)) := (Blk.new _ _ _).alloc _
  have K2 : Hid (Blk ((w.alloc (.cells (rdV l s) 55)).alloc (.cells rdZ 55)) (w.heap.size + 1) 55 rdZ) := Blk.newAt (by simp) _ _
  have B0 : Hid (Below w.heap.size w ((w.alloc (.cells (rdV l s) 55)).alloc (.cells rdZ 55))) := ((Below.refl _ _).alloc (Nat.le_refl _) _).alloc (by simp) _
  have HX := Lib.hid (hx.ext B0.out)
  have hm := hx.len
  go_enter Tryz.func43, Tryz.ntmps43
  go_upto_region 1 with (refine wpList_alloced (allocRdk _) ?_)
  try rw [show (w.alloc (.cells (rdV l s) 55)).heap.size = w.heap.size + 1 from by simp]
  generalize ((w.alloc (.cells (rdV l s) 55)).alloc (.cells rdZ 55)) = w2 at *
  obtain ⟨g2, hg2⟩ : ∃ g, g = w.heap.size + 1 := ⟨_, rfl⟩
  rw [← hg2] at K2 ⊢
  have hB : Hid (w.heap.size ≤ g2) := by rw [Hid, hg2]; omega
  clear hg2
  generalize hg1 : w.heap.size = g1 at K1 ⊢
  have y0 : w2.cell? ⟨g1, 0, none⟩ = some (.string (bytesOf l)) := K1.out.cell 0
  have y1 : w2.cell? ⟨g1, 1, none⟩ = some (.int .i64 (s : Int)) := K1.out.cell 1
  have CV := Lib.hid (strB_run (c := c) HX.out.sl hm)
  have AD : Hid (∀ u, (binOp .add 9 (.string (bytesOf l)) (.string (bytesOf x))).run Tryz.prog u = .ok (.string (bytesOf (l ++ x))) u) := fun u => by
    rw [← bytesOf_add]
    exact addS _ _ (by rw [bytesOf_size, bytesOf_size]; omega) u
  have BL := Lib.hid (fun u => buildRdk (bytesOf (l ++ x)) (s : Int) u)
  have HO := Lib.hid (rdV_one (l ++ x) s)
  have BW : Hid (Below w.heap.size w (w2.setRow g2 (rdV (l ++ x) s))) := below_setRow B0.out hB.out _
  clear hx HX hm hl K1 hg1
  unfold rdV at HO BW
  obtain ⟨RV, hRV⟩ : ∃ RV, RV = rdV (l ++ x) s := ⟨_, rfl⟩
  have hrv : Hid (RV = #[.string (bytesOf (l ++ x)), .int .i64 (s : Int)]) := hRV
  replace hRV := Lib.hid hRV
  generalize bytesOf (l ++ x) = X at *
  generalize bytesOf l = X0 at *
  generalize bytesOf x = X1 at *
  go_wp2_with (first
    | ((with_reducible refine wpList_convB ?_ CV.out ?_); rfl)
    | ((with_reducible refine wpList_comp ?_ ?_ ?_ (AD.out _) ?_); rfl; rfl; rfl)
    | (refine wpList_built (BL.out _) (by rfl) ?_)
    | (refine wpList_store_row rfl 55 _ _ (by rfl) g2 #[.string X, .int .i64 (s : Int)] (by rfl) (by rfl) _ _ K2.out (show (Tryz.prog.info? 55).map (·.size) = some (#[.string X, .int .i64 (s : Int)] : Array Value).size from infoRdk) rfl HO.out ?_))
  refine bodyPost_ret (results_row30 rfl _ _ g2 _ #[.string X, .int .i64 (s : Int)] _ rfl (K2.out.row _) underRdk rfl (show (Tryz.prog.info? 55).map (·.size) = some (#[.string X, .int .i64 (s : Int)] : Array Value).size from infoRdk)) rfl ?_
  exact ⟨by rw [← hRV.out, hrv.out], BW.out⟩
set_option maxRecDepth 100000 in
set_option maxHeartbeats 4000000 in
theorem rdSync_any (l : List UInt8) (s : Nat) (w : World) : Calls Tryz.prog 33 #[.agg (rdV l s)] w (RetB w (.agg (rdV l l.length))) := by
  have K1 : Hid (Blk ((w.alloc (.cells (rdV l s) 55)).alloc (.cells rdZ 55)) w.heap.size 55 (rdV l s)) := (Blk.new _ _ _).alloc _
  have K2 : Hid (Blk ((w.alloc (.cells (rdV l s) 55)).alloc (.cells rdZ 55)) (w.heap.size + 1) 55 rdZ) := Blk.newAt (by simp) _ _
  have B0 : Hid (Below w.heap.size w ((w.alloc (.cells (rdV l s) 55)).alloc (.cells rdZ 55))) := ((Below.refl _ _).alloc (Nat.le_refl _) _).alloc (by simp) _
  go_enter Tryz.func33, Tryz.ntmps33
  go_upto_region 1 with (refine wpList_alloced (allocRdk _) ?_)
  try rw [show (w.alloc (.cells (rdV l s) 55)).heap.size = w.heap.size + 1 from by simp]
  generalize ((w.alloc (.cells (rdV l s) 55)).alloc (.cells rdZ 55)) = w2 at *
  obtain ⟨g2, hg2⟩ : ∃ g, g = w.heap.size + 1 := ⟨_, rfl⟩
  rw [← hg2] at K2 ⊢
  have hB : Hid (w.heap.size ≤ g2) := by rw [Hid, hg2]; omega
  clear hg2
  generalize hg1 : w.heap.size = g1 at K1 ⊢
  have y0 : w2.cell? ⟨g1, 0, none⟩ = some (.string (bytesOf l)) := K1.out.cell 0
  have y1 : w2.cell? ⟨g1, 1, none⟩ = some (.int .i64 (s : Int)) := K1.out.cell 1
  have hbs := bytesOf_size l
  have BL := Lib.hid (fun u => buildRdk (bytesOf (l)) ((l.length : Nat) : Int) u)
  have HO := Lib.hid (rdV_one (l) (l.length))
  have BW : Hid (Below w.heap.size w (w2.setRow g2 (rdV (l) (l.length)))) := below_setRow B0.out hB.out _
  clear hg1 K1
  unfold rdV at HO BW
  obtain ⟨RV, hRV⟩ : ∃ RV, RV = rdV (l) (l.length) := ⟨_, rfl⟩
  have hrv : Hid (RV = #[.string (bytesOf (l)), .int .i64 (((l.length) : Nat) : Int)]) := hRV
  replace hRV := Lib.hid hRV
  obtain ⟨X, hX⟩ : ∃ X, X = bytesOf l := ⟨_, rfl⟩
  rw [← hX] at BL y0 hbs HO BW hrv
  rw [← hbs] at BL HO BW hrv
  clear hX hbs
  go_wp2_with (first
    | (refine wpList_built (BL.out _) (by rfl) ?_)
    | (refine wpList_store_row rfl 55 _ _ (by rfl) g2 #[.string X, .int .i64 ((X.size : Nat) : Int)] (by rfl) (by rfl) _ _ K2.out (show (Tryz.prog.info? 55).map (·.size) = some (#[.string X, .int .i64 ((X.size : Nat) : Int)] : Array Value).size from infoRdk) rfl HO.out ?_))
  refine bodyPost_ret (results_row30 rfl _ _ g2 _ #[.string X, .int .i64 ((X.size : Nat) : Int)] _ rfl (K2.out.row _) underRdk rfl (show (Tryz.prog.info? 55).map (·.size) = some (#[.string X, .int .i64 ((X.size : Nat) : Int)] : Array Value).size from infoRdk)) rfl ?_
  exact ⟨by rw [← hRV.out, hrv.out], BW.out⟩
set_option maxRecDepth 100000 in
set_option maxHeartbeats 4000000 in
theorem rdCut_any (l : List UInt8) (s n : Nat) (hn : n ≤ l.length) (w : World) : Calls Tryz.prog 111 #[.agg (rdV l s), .int .i64 (n : Int)] w (RetB w (.tuple #[.agg (rdV (l.take n) n), .int .i64 0])) := by
  have K1 : Hid (Blk ((w.alloc (.cells (rdV l s) 55)).alloc (.cells rdZ 55)) w.heap.size 55 (rdV l s)) := (Blk.new _ _ _).alloc _
  have K2 : Hid (Blk ((w.alloc (.cells (rdV l s) 55)).alloc (.cells rdZ 55)) (w.heap.size + 1) 55 rdZ) := Blk.newAt (by simp) _ _
  have B0 : Hid (Below w.heap.size w ((w.alloc (.cells (rdV l s) 55)).alloc (.cells rdZ 55))) := ((Below.refl _ _).alloc (Nat.le_refl _) _).alloc (by simp) _
  go_enter Tryz.func111, Tryz.ntmps111
  go_upto_region 1 with (refine wpList_alloced (allocRdk _) ?_)
  try rw [show (w.alloc (.cells (rdV l s) 55)).heap.size = w.heap.size + 1 from by simp]
  generalize ((w.alloc (.cells (rdV l s) 55)).alloc (.cells rdZ 55)) = w2 at *
  obtain ⟨g2, hg2⟩ : ∃ g, g = w.heap.size + 1 := ⟨_, rfl⟩
  rw [← hg2] at K2 ⊢
  have hB : Hid (w.heap.size ≤ g2) := by rw [Hid, hg2]; omega
  clear hg2
  generalize hg1 : w.heap.size = g1 at K1 ⊢
  have y0 : w2.cell? ⟨g1, 0, none⟩ = some (.string (bytesOf l)) := K1.out.cell 0
  have y1 : w2.cell? ⟨g1, 1, none⟩ = some (.int .i64 (s : Int)) := K1.out.cell 1
  have hbs := bytesOf_size l
  have n0 : ¬ (n : Int) < 0 := by omega
  have n0' : (0 : Int) ≤ (n : Int) := by omega
  have BL := Lib.hid (fun u => buildRdk (bytesOf (l.take n)) ((n : Nat) : Int) u)
  have HO := Lib.hid (rdV_one (l.take n) (n))
  have BW : Hid (Below w.heap.size w (w2.setRow g2 (rdV (l.take n) (n)))) := below_setRow B0.out hB.out _
  clear hg1 K1
  unfold rdV at HO BW
  obtain ⟨RV, hRV⟩ : ∃ RV, RV = rdV (l.take n) (n) := ⟨_, rfl⟩
  have hrv : Hid (RV = #[.string (bytesOf (l.take n)), .int .i64 (((n) : Nat) : Int)]) := hRV
  replace hRV := Lib.hid hRV
  rw [← bytesOf_take] at BL HO BW hrv
  obtain ⟨X, hX⟩ : ∃ X, X = bytesOf l := ⟨_, rfl⟩
  rw [← hX] at BL y0 hbs HO BW hrv
  have n1 : ¬ ((X.size : Nat) : Int) < (n : Int) := by omega
  have n2 : (n : Int) ≤ ((X.size : Nat) : Int) := by omega
  clear hX hbs
  have SX := Lib.hid (fun u => sliceS X n n2 u)
  generalize X.extract 0 n = Y at *
  go_wp2_with (first
    | (refine wpList_slB rfl rfl rfl rfl (SX.out _) ?_)
    | (refine wpList_built (BL.out _) (by rfl) ?_)
    | (refine wpList_store_row rfl 55 _ _ (by rfl) g2 #[.string Y, .int .i64 (n : Int)] (by rfl) (by rfl) _ _ K2.out (show (Tryz.prog.info? 55).map (·.size) = some (#[.string Y, .int .i64 (n : Int)] : Array Value).size from infoRdk) rfl HO.out ?_))
  refine bodyPost_ret (results_row_tmp rfl _ _ g2 _ #[.string Y, .int .i64 (n : Int)] _ rfl (K2.out.row _) underRdk rfl (show (Tryz.prog.info? 55).map (·.size) = some (#[.string Y, .int .i64 (n : Int)] : Array Value).size from infoRdk)) rfl ?_
  exact ⟨by rw [← hRV.out, hrv.out]; rfl, BW.out⟩
set_option maxRecDepth 100000 in
set_option maxHeartbeats 4000000 in
theorem rdCrash_any (l : List UInt8) (s : Nat) (hs : s ≤ l.length) (hl : l.length ≤ 10000000) (x : Int) (hx0 : -9223372036854775808 ≤ x) (hx1 : x ≤ 9223372036854775807) (w : World) :
    Calls Tryz.prog 36 #[.agg (rdV l s), .int .i64 x] w (RetB w (.agg (rdV (l.take (keepN l.length s x)) (keepN l.length s x)))) := by
  have K1 : Hid (Blk ((w.alloc (.cells (rdV l s) 55)).alloc (.cells rdZ 55)) w.heap.size 55 (rdV l s)) := (Blk.new _ _ _).alloc _
  have K2 : Hid (Blk ((w.alloc (.cells (rdV l s) 55)).alloc (.cells rdZ 55)) (w.heap.size + 1) 55 rdZ) := Blk.newAt (by simp) _ _
  have B0 : Hid (Below w.heap.size w ((w.alloc (.cells (rdV l s) 55)).alloc (.cells rdZ 55))) := ((Below.refl _ _).alloc (Nat.le_refl _) _).alloc (by simp) _
  go_enter Tryz.func36, Tryz.ntmps36
  go_upto_region 1 with (refine wpList_alloced (allocRdk _) ?_)
  try rw [show (w.alloc (.cells (rdV l s) 55)).heap.size = w.heap.size + 1 from by simp]
  generalize ((w.alloc (.cells (rdV l s) 55)).alloc (.cells rdZ 55)) = w2 at *
  obtain ⟨g2, hg2⟩ : ∃ g, g = w.heap.size + 1 := ⟨_, rfl⟩
  rw [← hg2] at K2 ⊢
  have hB : Hid (w.heap.size ≤ g2) := by rw [Hid, hg2]; omega
  clear hg2
  generalize hg1 : w.heap.size = g1 at K1 ⊢
  have y0 : w2.cell? ⟨g1, 0, none⟩ = some (.string (bytesOf l)) := K1.out.cell 0
  have y1 : w2.cell? ⟨g1, 1, none⟩ = some (.int .i64 (s : Int)) := K1.out.cell 1
  have hbs := bytesOf_size l
  obtain ⟨m, hm⟩ : ∃ m, m = keepN l.length s x := ⟨_, rfl⟩
  rw [← hm]
  have hml : m ≤ l.length := by rw [hm]; unfold keepN; omega
  have hsm : s ≤ m := by rw [hm]; unfold keepN; omega
  obtain ⟨k, hk⟩ : ∃ k, k = m - s := ⟨_, rfl⟩
  have hkx : Hid (k = min x.toNat (l.length - s)) := by rw [Hid, hk, hm]; unfold keepN; omega
  replace hm := Lib.hid hm
  replace hk := Lib.hid hk
  have BL := Lib.hid (fun u => buildRdk (bytesOf (l.take m)) ((m : Nat) : Int) u)
  have HO := Lib.hid (rdV_one (l.take m) (m))
  have BW : Hid (Below w.heap.size w (w2.setRow g2 (rdV (l.take m) (m)))) := below_setRow B0.out hB.out _
  clear hg1 K1
  unfold rdV at HO BW
  obtain ⟨RV, hRV⟩ : ∃ RV, RV = rdV (l.take m) (m) := ⟨_, rfl⟩
  have hrv : Hid (RV = #[.string (bytesOf (l.take m)), .int .i64 (((m) : Nat) : Int)]) := hRV
  replace hRV := Lib.hid hRV
  rw [← bytesOf_take] at BL HO BW hrv
  obtain ⟨X, hX⟩ : ∃ X, X = bytesOf l := ⟨_, rfl⟩
  rw [← hX] at BL y0 hbs HO BW hrv
  have n2 : (m : Int) ≤ ((X.size : Nat) : Int) := by omega
  have hXs : Hid (X.size = l.length) := by rw [Hid]; omega
  have SX := Lib.hid (fun u => sliceS X m n2 u)
  generalize X.extract 0 m = Y at *
  clear hX hbs n2
  go_upto_if 6 with fail
  go_cut [1] (fun v wx => v = .int .i64 (max x 0) ∧ wx = w2)
  case first =>
    by_cases hx : x < 0
    · have e : max x 0 = 0 := by omega
      go_wp2_with fail
      go_meet
      case rel => exact ⟨by rw [e], rfl⟩
    · have e : max x 0 = x := by omega
      go_wp2_with fail
      go_meet
      case rel => exact ⟨by rw [e], rfl⟩
  case rest =>
    obtain ⟨rfl, rfl⟩ := hcut
    have w1 : IntKind.i64.wrap (((X.size : Nat) : Int) - (s : Int)) = ((X.size : Nat) : Int) - (s : Int) := IntWalk.i64_in _ (by have := hXs.out; omega)
    obtain ⟨mx, hmx⟩ : ∃ mx, mx = max x 0 := ⟨_, rfl⟩
    rw [← hmx]
    replace hmx := Lib.hid hmx
    go_upto_if 14 with fail
    go_cut [1] (fun v wx => v = .int .i64 (k : Int) ∧ wx = wc)
    case first =>
      by_cases hb : ((X.size : Nat) : Int) - (s : Int) < mx
      · have e : Hid (((X.size : Nat) : Int) - (s : Int) = (k : Int)) := by have := hkx.out; have := hXs.out; have := hmx.out; rw [Hid]; omega
        go_wp2_with fail
        go_meet
        case rel => exact ⟨by rw [← e.out], rfl⟩
      · have e : Hid (mx = (k : Int)) := by have := hkx.out; have := hXs.out; have := hmx.out; rw [Hid]; omega
        go_wp2_with fail
        go_meet
        case rel => exact ⟨by rw [e.out], rfl⟩
    case rest =>
      clear w1
      obtain ⟨rfl, rfl⟩ := hcut
      have w2' : IntKind.i64.wrap ((s : Int) + (k : Int)) = (m : Int) := by have := hk.out; rw [IntWalk.i64_in _ (by omega)]; omega
      have n0' : (0 : Int) ≤ (m : Int) := by omega
      have n2 : (m : Int) ≤ ((X.size : Nat) : Int) := by have := hXs.out; omega
      have hml2 := Lib.hid hml
      clear hml
      have SX2 := SX.out
      go_wp2_with fail
      refine wp_region_drawn 12 (by kernel_rfl) (by kernel_rfl) ?_
      simp only [List.take_succ_cons, List.take_zero, List.drop_succ_cons, List.drop_zero]
      repeat (first
        | (refine wpQuiet_val (v := .string Y) (fun w' _ => exSlice5 rfl rfl rfl rfl (SX.out w')) rfl ?_; simp only [List.set_cons_succ, List.set_cons_zero])
        | go_big_quiet_step (fail))
      refine wpQuiet_nil ?_
      rintro _ ⟨nq, rfl⟩
      have K3 := Lib.hid (K2.out.ext (below_drewN (Below.refl _ _) nq))
      have BW3 : Hid (Below w.heap.size w ((wc.drewN nq).setRow g2 #[.string Y, .int .i64 (m : Int)])) := below_setRow (B0.out.trans ((below_drewN (Below.refl _ _) nq).mono B0.out.size)) hB.out _
      clear K2 B0 BW y0 y1
      generalize wc.drewN nq = w5 at *
      go_wp2_with (refine wpList_store_row rfl 55 _ _ (by rfl) g2 #[.string Y, .int .i64 (m : Int)] (by rfl) (by rfl) _ _ K3.out (show (Tryz.prog.info? 55).map (·.size) = some (#[.string Y, .int .i64 (m : Int)] : Array Value).size from infoRdk) rfl HO.out ?_)
      refine bodyPost_ret (results_row30 rfl _ _ g2 _ #[.string Y, .int .i64 (m : Int)] _ rfl (K3.out.row _) underRdk rfl (show (Tryz.prog.info? 55).map (·.size) = some (#[.string Y, .int .i64 (m : Int)] : Array Value).size from infoRdk)) rfl ?_
      exact ⟨by rw [← hm.out, ← hRV.out, hrv.out], BW3.out⟩
end Go.Proofs.YtdafiipedlglpaaGreatDoor

/- The document reads patches off bytes: walked. -/
namespace Go.Proofs.YtdafiipedlglpaaGreatDoor
open Go.RowKit

def RRdRet (w : World) (l : List UInt8) (e : Ending) (w' : World) : Prop := ∃ v1 v2, e = .returned (.tuple #[v1, v2]) ∧ Below w.heap.size w w' ∧ OwnC w.heap.size w' v1 ((readL l).map (·.1)) ∧ w'.ownsRow w.heap.size 3 1 v2 (readL l).length (encI (endsL (readL l)))
set_option maxRecDepth 100000 in
set_option maxHeartbeats 8000000 in
theorem rread_any (l : List UInt8) (w : World) (A : Option Addr) (nl c : Nat) (h : BytesAt w A nl c l) (hl : nl ≤ 900000) : Calls Tryz.prog 110 #[.slice A nl c] w (RRdRet w l) := by
  have hnl := Lib.hid h.len
  have HB := Lib.hid h
  have B0 := Lib.hid (Below.refl w.heap.size w)
  clear h
  go_enter Tryz.func110, Tryz.ntmps110
  go_wp2_with fail
  go_loopw [4, 5, 6] (fun ov ev av wr => ∃ (qs : List (PatV × Nat)) (a n7 : Nat) (rows : List (List Value)) (D : Nat → Prop) (A7 : Option Addr) (c7 : Nat) (Ae : Option Addr) (ce : Nat), av = .int .i64 (a : Int) ∧ ov = .slice A7 n7 c7 ∧ ev = .slice Ae n7 ce ∧ Hid (n7 = qs.length) ∧ Hid (readL l = qs ++ readL (l.drop a)) ∧ Hid (a = sumLen qs) ∧ a ≤ nl ∧ n7 ≤ a ∧ Hid (wr.ownsRow w.heap.size 64 4 (.slice A7 n7 c7) n7 rows.flatten) ∧ Hid (RowsIn wr D rows (qs.map (·.1))) ∧ Hid (wr.ownsRow w.heap.size 3 1 (.slice Ae n7 ce) n7 (encI (endsL qs))) ∧ Hid (∀ k, D k → w.heap.size ≤ k ∧ k < wr.heap.size ∧ (Value.slice A7 n7 c7).ownBlock ≠ some k ∧ (Value.slice Ae n7 ce).ownBlock ≠ some k) ∧ Hid (Below w.heap.size w wr)) (fun _ _ av _ => nl - (intOf av).toNat)
  case atStart => exact ⟨[], 0, 0, [], fun _ => False, none, 0, none, 0, rfl, rfl, rfl, rfl, rfl, rfl, Nat.zero_le _, Nat.le_refl _, World.ownsRow_nil _ _ _ _, RowsIn.nil _ _, World.ownsRow_nil _ _ _ _, fun _ h => h.elim, B0.out⟩
  case round =>
    clear B0
    obtain ⟨qs, a, n7, rows, D, A7, c7, Ae, ce, rfl, rfl, rfl, hn7, HRd, HA, hal, hna, O7, RI, OE, HDD, BW⟩ := hrel
    have FIN : Hid (readL (l.drop a) = [] → ∀ wx, Below wr.heap.size wr wx → RRdRet w l (.returned (.tuple #[.slice A7 n7 c7, .slice Ae n7 ce])) wx) := fun h wx hb => by
      have e : readL l = qs := by rw [HRd.out, h, List.append_nil]
      unfold RRdRet
      rw [e, ← hn7.out]
      refine ⟨_, _, rfl, BW.out.trans (hb.mono BW.out.size), ⟨rows, D, ?_, RI.out.stay (Stay.of_below hb), fun k e => ⟨(HDD.out k e).1, Nat.lt_of_lt_of_le (HDD.out k e).2.1 hb.size, (HDD.out k e).2.2.1⟩⟩, own_ext OE.out hb⟩
      rw [List.length_map, ← hn7.out]
      exact own_ext O7.out hb
    by_cases hlt : a < nl
    · have hli : (a : Int) < (nl : Int) := by omega
      have BA := HB.out.ext BW.out
      have LO := Lib.hid (BA.low (k := a) hal)
      have CL := Lib.hid (fun u => run_slice_low byteSl (A := A) (n := nl) (c := c) (k := a) hal u)
      generalize cutAddr A c a 1 = Aa at *
      have HN := Lib.hid (rnext06_any (l.drop a) wr Aa (nl - a) (c - a) LO.out (by omega))
      obtain ⟨x, n, e1, hx⟩ : ∃ x n e1, nextFr (l.drop a) = (x, n, e1) := ⟨_, _, _, rfl⟩
      rw [show RNextRet wr (l.drop a) = fun e w' => ∃ (A : Option Addr) (c : Nat), e = .returned (.tuple #[.slice A x.length c, .int .i64 ((n : Nat) : Int), .int .i64 ((e1 : Nat) : Int)]) ∧ BytesAt w' A x.length c x ∧ Below wr.heap.size wr w' from by unfold RNextRet; rw [hx]] at HN
      clear BA LO
      obtain ⟨na, hnae⟩ : ∃ na, na = nl - a := ⟨_, rfl⟩
      rw [← hnae] at CL HN
      replace hnae := Lib.hid hnae
      generalize c - a = ca at *
      by_cases he1 : e1 = 0
      · subst he1
        obtain ⟨hb, hnf, hxl, hnle⟩ := next_told hx
        have hna2 : n ≤ na := by rw [hnae.out]; rw [List.length_drop] at hnle; have := hnl.out; omega
        obtain ⟨p, er, hp⟩ : ∃ p er, decP x = (p, er) := ⟨_, _, rfl⟩
        have hn0 : 0 < n := by rw [hnf, frameB_len]; omega
        replace hb := Lib.hid hb
        replace hnf := Lib.hid hnf
        go_wp2_with (refine wpList_slB rfl rfl rfl rfl (CL.out _) ?_)
        refine HN.out.mono ?_
        rintro e w3 ⟨A3, c3, rfl, ba3, b3⟩
        obtain ⟨nx, hnx⟩ : ∃ nx, nx = x.length := ⟨_, rfl⟩
        rw [← hnx] at ba3 ⊢
        have HDC := Lib.hid (rdecode19_far x w3 A3 nx c3 ba3)
        rw [hp] at HDC
        have O73 := Lib.hid (own_ext O7.out b3)
        have RI3 := Lib.hid (RI.out.stay (Stay.of_below b3))
        have OE3 := Lib.hid (own_ext OE.out b3)
        have BW3 := Lib.hid (BW.out.trans (b3.mono BW.out.size))
        have HD3 : Hid (∀ k, D k → w.heap.size ≤ k ∧ k < w3.heap.size ∧ (Value.slice A7 n7 c7).ownBlock ≠ some k ∧ (Value.slice Ae n7 ce).ownBlock ≠ some k) := fun k e => ⟨(HDD.out k e).1, Nat.lt_of_lt_of_le (HDD.out k e).2.1 b3.size, (HDD.out k e).2.2⟩
        have B3 := Lib.hid b3
        clear ba3 b3 HN O7 RI OE BW HDD CL
        replace hnx := Lib.hid hnx
        go_wp2_with fail
        refine HDC.out.mono ?_
        rintro e w6 ⟨cs, rfl, pa, b6⟩
        have pa2 := pa.lt
        obtain ⟨⟨A1, c1, A2, c2, rfl, _⟩, _, _⟩ := pa
        have O76 := Lib.hid (own_ext O73.out b6)
        have RI6 := Lib.hid (RI3.out.stay (Stay.of_below b6))
        have OE6 := Lib.hid (own_ext OE3.out b6)
        have BW6 := Lib.hid (BW3.out.trans (b6.mono BW3.out.size))
        have HD6 : Hid (∀ k, D k → w.heap.size ≤ k ∧ k < w6.heap.size ∧ (Value.slice A7 n7 c7).ownBlock ≠ some k ∧ (Value.slice Ae n7 ce).ownBlock ≠ some k) := fun k e => ⟨(HD3.out k e).1, Nat.lt_of_lt_of_le (HD3.out k e).2.1 b6.size, (HD3.out k e).2.2⟩
        have B6 := Lib.hid (B3.out.trans (b6.mono B3.out.size))
        have h73 : Hid (∀ k, (Value.slice A7 n7 c7).ownBlock = some k → k < w3.heap.size) := fun k e => (O73.out.lt k e).2
        have hE3 : Hid (∀ k, (Value.slice Ae n7 ce).ownBlock = some k → k < w3.heap.size) := fun k e => (OE3.out.lt k e).2
        have hB3 : Hid (w.heap.size ≤ w3.heap.size) := BW3.out.size
        have PA := Lib.hid pa2
        have hcs := Lib.hid pa2.len4
        clear pa2 b6 HDC O73 RI3 OE3 BW3 HD3 B3
        have KZ : Hid (Blk (w6.alloc (.cells #[.int .u8 0, .int .u16 0, .slice none 0 0, .slice none 0 0] 64)) w6.heap.size 64 #[.int .u8 0, .int .u16 0, .slice none 0 0, .slice none 0 0]) := Blk.new _ _ _
        obtain ⟨CS, hCS⟩ : ∃ CS, CS = patC p.1 A1 p.2.1.length c1 A2 p.2.2.length c2 := ⟨_, rfl⟩
        rw [← hCS] at PA hcs ⊢
        have HI : Hid ((Tryz.prog.info? 64).map (·.size) = some CS.toArray.size) := by rw [Hid, hCS]; exact infoPat
        have HO : Hid (CS.toArray.all (·.oneCell') = true) := by rw [Hid, hCS]; exact patC_one
        have KQ : Hid (Blk ((w6.alloc (.cells #[.int .u8 0, .int .u16 0, .slice none 0 0, .slice none 0 0] 64)).setRow w6.heap.size CS.toArray) w6.heap.size 64 CS.toArray) := KZ.out.row _
        have BN : Hid (Below w6.heap.size w6 ((w6.alloc (.cells #[.int .u8 0, .int .u16 0, .slice none 0 0, .slice none 0 0] 64)).setRow w6.heap.size CS.toArray)) := below_setRow (below_new w6 _) (Nat.le_refl _) _
        clear hCS
        go_upto_region 9 with (first
          | (refine wpList_alloced (allocPat _) ?_)
          | (refine wpList_store_row rfl 64 _ _ (by rfl) w6.heap.size CS.toArray (by rfl) (by rfl) _ _ KZ.out HI.out (by simp only [List.size_toArray, hcs.out]; rfl) HO.out ?_))
        generalize ((w6.alloc (.cells #[.int .u8 0, .int .u16 0, .slice none 0 0, .slice none 0 0] 64)).setRow w6.heap.size CS.toArray) = w7 at *
        have B7 := Lib.hid (B6.out.trans (BN.out.mono B6.out.size))
        by_cases he : er = 0
        · subst he
          have O7 := Lib.hid (own_ext O76.out BN.out)
          have RI := Lib.hid (RI6.out.stay (Stay.of_below BN.out))
          have OE := Lib.hid (own_ext OE6.out BN.out)
          have BW := Lib.hid (BW6.out.trans (BN.out.mono BW6.out.size))
          have HDD : Hid (∀ k, D k → w.heap.size ≤ k ∧ k < w7.heap.size ∧ (Value.slice A7 n7 c7).ownBlock ≠ some k ∧ (Value.slice Ae n7 ce).ownBlock ≠ some k) := fun k e => ⟨(HD6.out k e).1, Nat.lt_of_lt_of_le (HD6.out k e).2.1 BN.out.size, (HD6.out k e).2.2⟩
          have PN : Hid (PatIn w7 (fun k => w3.heap.size ≤ k ∧ k < w7.heap.size) CS p) := (PA.out.ext BN.out).mono fun k h => ⟨h.1, Nat.lt_of_lt_of_le h.2 BN.out.size⟩
          clear BN KZ PA O76 RI6 OE6 BW6 HD6 FIN B6 B7
          generalize w6.heap.size = gq at *
          have hgo := readL_go hx hp
          have hdd : (l.drop a).drop n = l.drop (a + n) := by rw [List.drop_drop]
          rw [hdd] at hgo
          have HRd2 : Hid (readL l = (qs ++ [(p, n)]) ++ readL (l.drop (a + n))) := by rw [Hid, HRd.out, hgo, List.append_assoc]; rfl
          have HA2 : Hid (a + n = sumLen (qs ++ [(p, n)])) := by rw [Hid, sumLen_snoc, HA.out]
          have hal2 : a + n ≤ nl := by have := hnae.out; omega
          have haw : IntKind.i64.wrap ((a : Int) + (n : Int)) = ((a + n : Nat) : Int) := by rw [IntWalk.i64_in _ (by omega)]; omega
          have hEs : Hid (encI (endsL qs) ++ [.int .i64 ((a + n : Nat) : Int)] = encI (endsL (qs ++ [(p, n)]))) := by
            rw [Hid, endsL_snoc, encI_append, ← HA.out]; rfl
          have hn72 : Hid (n7 + 1 = (qs ++ [(p, n)]).length) := by rw [Hid, List.length_append, hn7.out]; rfl
          clear hgo hdd hx hp
          obtain ⟨a2, ha2⟩ : ∃ a2, a2 = a + n := ⟨_, rfl⟩
          rw [← ha2] at HRd2 HA2 hal2 haw hEs
          have hna3 : n7 + 1 ≤ a2 := by omega
          have hmea : a < a2 := by omega
          replace ha2 := Lib.hid ha2
          go_upto_region 13 with (first
            | (refine wpList_load_row rfl 64 _ (by rfl) gq (by rfl) _ _ _ _ KQ.out underPat rfl HI.out ?_)
            | (refine wpList_lit1 patSl hcs.out (by omega) (by rfl) ?_)
            | (at_builtin; refine wpList_pushF patSl O7.out CS hcs.out PN.out.one BW.out.size (by omega) (by unfold maxLen; omega) (by rfl) (by rfl) (by rfl) ?_; intro v8 w8 own8 kp8 new8))
          obtain ⟨A8, c8, rfl, _, _⟩ := Sl.of_own own8
          clear haw
          have hdisjE : ∀ k, (Value.slice A7 n7 c7).ownBlock = some k → (Value.slice Ae n7 ce).ownBlock = some k → False := fun k e e2 => by
            rcases own_ne O7.out OE.out (by decide) with e3 | e3
            · rw [e] at e3; cases e3
            · exact e3 (e.trans e2.symm)
          have OE8 := Lib.hid (own_keepF OE.out fun k e => kp8.block k (OE.out.lt k e).2 fun e2 => hdisjE k e2 e)
          have st8 : Stay (fun k => D k ∨ w3.heap.size ≤ k ∧ k < w7.heap.size) w7 w8 := kp8.stay fun k _ hd e => hd.elim (fun hd => (HDD.out k hd).2.2.1 e) (fun hd => by have := h73.out k e; omega)
          have RI8 := Lib.hid (((RI.out.mono fun k hd => .inl hd).snoc (PN.out.mono fun k hd => .inr hd)).stay st8)
          have BW8 := Lib.hid (BW.out.trans (kp8.below (B := w.heap.size) (fun k e => (O7.out.lt k e).1) BW.out.size))
          have own8 := Lib.hid own8
          have HD8 : Hid (∀ k, (D k ∨ w3.heap.size ≤ k ∧ k < w7.heap.size) → w.heap.size ≤ k ∧ k < w8.heap.size ∧ (Value.slice A8 (n7 + 1) c8).ownBlock ≠ some k ∧ (Value.slice Ae n7 ce).ownBlock ≠ some k) := fun k hd => by
            have z8 := kp8.size
            have hlt : w.heap.size ≤ k ∧ k < w7.heap.size := hd.elim (fun hd => ⟨(HDD.out k hd).1, (HDD.out k hd).2.1⟩) (fun hd => by have := hB3.out; omega)
            refine ⟨hlt.1, by omega, fun e => ?_, ?_⟩
            · rcases new8 k e with e | e
              · exact hd.elim (fun hd => (HDD.out k hd).2.2.1 e) (fun hd => by have := h73.out k e; omega)
              · omega
            · exact hd.elim (fun hd => (HDD.out k hd).2.2.2) (fun hd e => by have := hE3.out k e; omega)
          clear kp8 new8 st8 hdisjE OE RI PN BW HDD O7 KQ
          go_wp2_with (at_builtin; refine wpList_pushF intSl30 OE8.out [.int .i64 (a2 : Int)] rfl (by simp [Value.oneCell']) BW8.out.size (by omega) (by unfold maxLen; omega) (by rfl) (by rfl) (by rfl) ?_; intro v9 w9 own9 kp9 hv9; obtain ⟨A9, c9, rfl, _, _⟩ := Sl.of_own own9)
          have dE8 : ∀ k, (Value.slice Ae n7 ce).ownBlock = some k → (Value.slice A8 (n7 + 1) c8).ownBlock = some k → False := fun k e e2 => by
            rcases own_ne OE8.out own8.out (by decide) with e3 | e3
            · rw [e] at e3; cases e3
            · exact e3 (e.trans e2.symm)
          have O710 := Lib.hid (own_keepF own8.out fun k e => kp9.block k (own8.out.lt k e).2 fun e2 => dE8 k e2 e)
          have RI10 := Lib.hid (RI8.out.stay (kp9.stay fun k _ hd e => (HD8.out k hd).2.2.2 e))
          have OE10 := Lib.hid own9
          have BW10 := Lib.hid (BW8.out.trans (kp9.below (B := w.heap.size) (fun k e => (OE8.out.lt k e).1) BW8.out.size))
          have HD10 : Hid (∀ k, (D k ∨ w3.heap.size ≤ k ∧ k < w7.heap.size) → w.heap.size ≤ k ∧ k < w9.heap.size ∧ (Value.slice A8 (n7 + 1) c8).ownBlock ≠ some k ∧ (Value.slice A9 (n7 + 1) c9).ownBlock ≠ some k) := fun k hd => by
            obtain ⟨g1, g2, g3, g5⟩ := HD8.out k hd
            have z9 := kp9.size
            refine ⟨g1, by omega, g3, fun e => ?_⟩
            rcases hv9 k e with e | e
            · exact g5 e
            · omega
          clear kp9 dE8 hv9 own9 HD8 RI8 OE8 BW8 own8
          rw [hEs.out] at OE10
          go_roundw
          case rel => exact ⟨qs ++ [(p, n)], a2, n7 + 1, rows ++ [CS], _, A8, c8, A9, c9, by go_num, by go_num, by go_num, hn72.out, HRd2.out, HA2.out, hal2, hna3, by rw [Hid, List.flatten_append]; simpa using O710.out, by rw [Hid, List.map_append]; exact RI10.out, OE10.out, HD10.out, BW10.out⟩
          case measure => simp [intOf]; omega
        · have z2 : ((er : Int) != 0) = true := by rw [bne_iff_ne]; omega
          have hst : readL (l.drop a) = [] := readL_stop (.inr (by rw [hx, hp]; exact he))
          have FF := Lib.hid (FIN.out hst w7 B7.out)
          clear hst hx hp FIN
          replace he := Lib.hid he
          go_wp2_with fail
          refine bodyPost_ret (v := .tuple #[.slice A7 n7 c7, .slice Ae n7 ce]) ?_ rfl FF.out
          simp [results, Tryz.results110, go_sem]
      · have z1 : ((e1 : Int) != 0) = true := by rw [bne_iff_ne]; omega
        have hst : readL (l.drop a) = [] := readL_stop (.inl (by rw [hx]; exact he1))
        clear hx
        replace he1 := Lib.hid he1
        replace hst := Lib.hid hst
        go_wp2_with (refine wpList_slB rfl rfl rfl rfl (CL.out _) ?_)
        refine HN.out.mono ?_
        rintro e w3 ⟨A3, c3, rfl, ba3, b3⟩
        have FF := Lib.hid (FIN.out hst.out w3 b3)
        clear ba3 b3 HN FIN hst
        go_wp2_with fail
        refine bodyPost_ret (v := .tuple #[.slice A7 n7 c7, .slice Ae n7 ce]) ?_ rfl FF.out
        simp [results, Tryz.results110, go_sem]
    · have hli : ¬ (a : Int) < (nl : Int) := by omega
      have hd : l.drop a = [] := List.drop_of_length_le (by have := hnl.out; omega)
      have FF := Lib.hid (FIN.out (by rw [hd]; rfl) wr (Below.refl _ _))
      clear hd FIN
      go_wp2_with fail
      refine bodyPost_ret (v := .tuple #[.slice A7 n7 c7, .slice Ae n7 ce]) ?_ rfl FF.out
      simp [results, Tryz.results110, go_sem]
end Go.Proofs.YtdafiipedlglpaaGreatDoor

/- What happens to a log; whether it is few and small: walked. -/
namespace Go.Proofs.YtdafiipedlglpaaGreatDoor
open Go.RowKit

/-- what happens: a kind, a number, a patch -/
abbrev Act30 := Int × Int × PatV
structure Act30At (w : World) (r : List Value) (a : Act30) : Prop where
  ex : ∃ rp, r = .int .u8 a.1 :: (.int .i64 a.2.1 :: rp) ∧ PatAt w rp a.2.2
  kind : 0 ≤ a.1 ∧ a.1 < 256
  num : -9223372036854775808 ≤ a.2.1 ∧ a.2.1 ≤ 9223372036854775807
theorem Act30At.len {w : World} {r : List Value} {a : Act30} (h : Act30At w r a) : r.length = 6 := by
  obtain ⟨rp, rfl, hp⟩ := h.ex
  simp [hp.len4]
theorem Act30At.ext {w w' : World} {r : List Value} {a : Act30} (h : Act30At w r a) (hb : Below w.heap.size w w') : Act30At w' r a := by
  obtain ⟨⟨rp, e, hp⟩, h2, h3⟩ := h
  exact ⟨⟨rp, e, hp.ext hb⟩, h2, h3⟩
def RowsA30 (w : World) (rows : List (List Value)) (l : List Act30) : Prop := rows.length = l.length ∧ ∀ (k : Nat) (r : List Value) (a : Act30), rows[k]? = some r → l[k]? = some a → Act30At w r a
structure Acts30At (w : World) (A : Option Addr) (n : Nat) (l : List Act30) : Prop where
  len : l.length = n
  ex : ∃ rows, RowsA30 w rows l ∧ Sl w w.heap.size 6 A n rows.flatten
theorem Acts30At.ext {w w' : World} {A : Option Addr} {n : Nat} {l : List Act30} (h : Acts30At w A n l) (hb : Below w.heap.size w w') : Acts30At w' A n l := by
  obtain ⟨rows, h1, h2⟩ := h.ex
  exact ⟨h.len, rows, ⟨h1.1, fun k r a e1 e2 => (h1.2 k r a e1 e2).ext hb⟩, (h2.below hb (Nat.le_refl _)).more hb.size⟩
theorem Acts30At.at_ {w : World} {A : Option Addr} {n : Nat} {l : List Act30} (h : Acts30At w A n l) {k : Nat} (hk : k < n) : ∃ b o a r, A = some ⟨b, o, none⟩ ∧ b < w.heap.size ∧ l[k]? = some a ∧ Act30At w r a ∧ w.rangeAt b (o + k * 6) r := by
  obtain ⟨rows, h1, h2⟩ := h.ex
  have hk1 : k < l.length := by rw [h.len]; exact hk
  have hk2 : k < rows.length := by rw [h1.1]; exact hk1
  have e : rows.flatten = rows.flatMap id := by simp [List.flatMap_def]
  have h4 : ∀ x ∈ rows, x.length = 6 := fun x hx => by
    obtain ⟨i, hi, rfl⟩ := List.getElem_of_mem hx
    exact (h1.2 i _ _ (List.getElem?_eq_getElem hi) (List.getElem?_eq_getElem (by rw [← h1.1]; exact hi))).len
  rw [e] at h2
  obtain ⟨b, o, rfl, hb, hr⟩ := h2.rowAt (by rw [h1.1, h.len]) (fun x hx => h4 x hx) hk2
  exact ⟨b, o, l[k], rows[k], rfl, hb, List.getElem?_eq_getElem hk1, h1.2 k _ _ (List.getElem?_eq_getElem hk2) (List.getElem?_eq_getElem hk1), hr⟩
def shAct30 : List Sh := .int .u8 :: .int .i64 :: shPat
theorem i64_30 {z : Int} (h : (Lit.int .i64 z).wf = true) : -9223372036854775808 ≤ z ∧ z ≤ 9223372036854775807 := by simp [Lit.wf, IntKind.min, IntKind.max, IntKind.signed, IntKind.bits] at h; omega
theorem act30_of {w : World} {cs : List Value} (h : Sh.oks w w.heap.size shAct30 cs) : ∃ a : Act30, Act30At w cs a := by
  have hlen := Sh.oks_len h
  have e0 : shAct30.length = 6 := by decide
  match cs, h with
  | k :: n :: rp, h =>
    unfold shAct30 at h
    rw [Sh.oks, Sh.oks] at h
    obtain ⟨⟨z, rfl, hz⟩, ⟨y, rfl, hy⟩, h⟩ := h
    obtain ⟨p, hp⟩ := pat_of h
    exact ⟨(z, y, p), ⟨rp, rfl, hp⟩, u8_of hz, i64_30 hy⟩
theorem acts30_rows {w : World} : ∀ rows : List (List Value), (∀ r ∈ rows, Sh.oks w w.heap.size shAct30 r) → ∃ l, RowsA30 w rows l
  | [], _ => ⟨[], rfl, fun _ _ _ h => by simp at h⟩
  | r :: rs, h => by
    obtain ⟨p, hp⟩ := act30_of (h r (by simp))
    obtain ⟨l, h1, h2⟩ := acts30_rows rs fun x hx => h x (by simp [hx])
    refine ⟨p :: l, by simp [h1], fun k => ?_⟩
    match k with
    | 0 =>
      intro r' p' e1 e2
      obtain rfl : r = r' := by simpa using e1
      obtain rfl : p = p' := by simpa using e2
      exact hp
    | k + 1 => intro r' p' e1 e2; exact h2 k r' p' (by simpa using e1) (by simpa using e2)
theorem acts30_of {w : World} {A : Option Addr} {n : Nat} {rows : List (List Value)} (hl : rows.length = n) (ho : ∀ r ∈ rows, Sh.oks w w.heap.size shAct30 r) (hs : Sl w w.heap.size 6 A n rows.flatten) : ∃ l : List Act30, Acts30At w A n l := by
  obtain ⟨l, hr⟩ := acts30_rows rows ho
  exact ⟨l, by rw [← hr.1, hl], rows, hr, hs⟩
theorem act30_pat {w : World} {b o : Nat} {k n : Int} {rp : List Value} (h : w.rangeAt b o (.int .u8 k :: (.int .i64 n :: rp))) : w.rangeAt b (o + 2) rp := fun j v hj => by
  have := h (j + 2) v (by rw [List.getElem?_cons_succ, List.getElem?_cons_succ]; exact hj)
  rw [Nat.add_assoc, Nat.add_comm 2 j]; exact this
def fewA30 (l : List Act30) : Bool := decide (l.length ≤ 30) && l.all fun a => fewsB [a.2.2] 1
theorem pats_one30 {w : World} {r : List Value} {p : PatV} (h : PatAt w r p) : PatsAt (w.alloc (.cells r.toArray 64)) (some ⟨w.heap.size, 0, none⟩) 1 [p] := by
  refine ⟨rfl, [r], ⟨rfl, fun k r' p' h1 h2 => ?_⟩, ?_⟩
  · match k, h1, h2 with
    | 0, h1, h2 =>
      obtain rfl : r = r' := by simpa using h1
      obtain rfl : p = p' := by simpa using h2
      exact h.ext (below_new _ _)
    | _ + 1, h1, _ => simp at h1
  · have e : [r].flatten = r := by simp
    rw [e]
    exact sl_fresh w _ 64 4 1 r (by rw [h.len4]) rfl
theorem allL_false30 {α : Type} {l : List α} {f : α → Bool} {k : Nat} {x : α} (h : l[k]? = some x) (hx : f x = false) : l.all f = false := by
  obtain ⟨h1, rfl⟩ := List.getElem?_eq_some_iff.1 h
  exact List.all_eq_false.2 ⟨_, List.getElem_mem h1, by simp [hx]⟩
theorem allL_snoc30 {α : Type} {l : List α} {f : α → Bool} {k : Nat} {x : α} (h : l[k]? = some x) (hk : (l.take k).all f = true) (hx : f x = true) : (l.take (k + 1)).all f = true := by
  rw [take_snoc' h, List.all_append, hk]; simp [hx]

set_option maxRecDepth 100000 in
set_option maxHeartbeats 2000000 in
theorem few30_any (l : List Act30) (w : World) (A : Option Addr) (n c : Nat) (h : Acts30At w A n l) (hm : n ≤ maxLen) :
    Calls Tryz.prog 25 #[.slice A n c] w (RetB w (.bool (fewA30 l))) := by
  unfold maxLen at hm
  have H := Lib.hid h
  have hl := h.len
  clear h
  go_enter Tryz.func25, Tryz.ntmps25
  by_cases d1 : (30 : Int) < (n : Int)
  · have F : Hid (fewA30 l = false) := by
      unfold fewA30
      rw [decide_eq_false (by omega)]; rfl
    go_wp2
    go_ret
    exact ⟨ret_bool F.out.symm, Below.refl _ _⟩
  · have F : Hid (l.all (fun a => fewsB [a.2.2] 1) = fewA30 l) := by
      unfold fewA30
      rw [decide_eq_true (by omega)]; rfl
    have hm1 : (n : Int) ≤ 9223372036854775807 := by omega
    go_wp2_with fail
    go_loopw [3] (fun i wr => ∃ k : Nat, k ≤ n ∧ i = .int .i64 k ∧ Hid ((l.take k).all (fun a => fewsB [a.2.2] 1) = true) ∧ Hid (Below w.heap.size w wr)) (fun i _ => n - (intOf i).toNat)
    case atStart => exact ⟨0, by omega, rfl, by rw [List.take_zero]; rfl, Below.refl _ _⟩
    case round =>
      obtain ⟨k, hk, rfl, T, B⟩ := hrel
      have hk0 : (0 : Int) ≤ (k : Int) := by omega
      by_cases hlt : k < n
      · have hlk : (k : Int) < (n : Int) := by omega
        obtain ⟨b, o, a, r, rfl, hb, ha, pa, R⟩ := (H.out.ext B.out).at_ hlt
        obtain ⟨rp, rfl, hp⟩ := pa.ex
        have RP := Lib.hid (act30_pat R)
        have PP := Lib.hid hp
        have hi4 : (Tryz.prog.info? 64).map (·.size) = some rp.length := by rw [hp.len4]; exact infoPat
        have hl4 : rp.length = 4 := hp.len4
        have PS := Lib.hid (pats_one30 hp)
        have M : Hid (Below wr.heap.size wr (wr.alloc (.cells rp.toArray 64))) := below_new _ _
        have HF := Lib.hid (few20_any [a.2.2] (wr.alloc (.cells rp.toArray 64)) _ 1 1 1 PS.out (by decide))
        clear pa hp R hb PS
        cases hf : fewsB [a.2.2] 1
        · have N : Hid (l.all (fun a => fewsB [a.2.2] 1) = false) := allL_false30 ha hf
          rw [fewsN_false hf] at HF
          clear T ha hf
          go_wp2_with (first
            | (refine wpList_load_mid rfl 64 _ (by rfl) b (o + k * 6 + 2) (by rfl) _ _ RP.out underPat rfl hi4 ?_)
            | (refine wpList_lit1 patSl (cs := rp) hl4 (by omega) (by rfl) ?_))
          refine HF.out.mono ?_
          rintro e w3 ⟨rfl, b3⟩
          have B3 := Lib.hid (B.out.trans ((M.out.trans (b3.mono M.out.size)).mono B.out.size))
          clear b3 HF
          go_wp2
          go_ret
          exact ⟨ret_bool (by rw [← F.out, N.out]), B3.out⟩
        · have N := Lib.hid (allL_snoc30 (f := fun a : Act30 => fewsB [a.2.2] 1) ha T.out hf)
          rw [fewsN_true hf] at HF
          clear T ha hf
          go_wp2_with (first
            | (refine wpList_load_mid rfl 64 _ (by rfl) b (o + k * 6 + 2) (by rfl) _ _ RP.out underPat rfl hi4 ?_)
            | (refine wpList_lit1 patSl (cs := rp) hl4 (by omega) (by rfl) ?_))
          refine HF.out.mono ?_
          rintro e w3 ⟨rfl, b3⟩
          have B3 := Lib.hid (B.out.trans ((M.out.trans (b3.mono M.out.size)).mono B.out.size))
          clear b3 HF RP PP M
          go_wp2_with fail
          go_roundw
          case rel => exact ⟨k + 1, by omega, by go_num, N.out, B3.out⟩
          case measure => simp [intOf]; omega
      · have hlk : ¬ ((k : Int) < (n : Int)) := by omega
        rw [List.take_of_length_le (by omega)] at T
        go_wp2
        go_ret
        exact ⟨ret_bool (by rw [← F.out, T.out]), B.out⟩
end Go.Proofs.YtdafiipedlglpaaGreatDoor

/- The document's log: walked. -/
namespace Go.Proofs.YtdafiipedlglpaaGreatDoor
open Go.RowKit

theorem conv_at30 (w : World) (t : List UInt8) (ht : t.length ≤ 10000000) : BytesAt (Lib.bytesWorld w 5 (bytesOf t)) (some ⟨w.heap.size, 0, none⟩) t.length (grownCap w t.length 0 5) t := by
  have hs : (bytesOf t).size = t.length := bytesOf_size t
  refine ⟨rfl, grownCap_ge w _ _ _, grownCap_le_maxLen w _ _ _ (by unfold maxLen; omega), ?_, fun _ => ⟨w.heap.size, 0, rfl, by rw [Lib.bytesWorld_size]; omega, fun j hj => ?_⟩⟩
  · simp [encB_len]
  · rw [Nat.mul_one] at hj
    rw [Nat.zero_add, Lib.bytesWorld_cell w _ _ j (by rw [hs]; exact hj), encB_at, List.getElem?_eq_getElem hj]
    have e : (bytesOf t).data.toList = t := by simp [bytesOf]
    rw [e, List.getD_eq_getElem?_getD, List.getElem?_eq_getElem hj]
    rfl
theorem endsL_last {R : List (PatV × Nat)} {j : Nat} (h : R.length = j + 1) : (encI (endsL R))[j]? = some (.int .i64 ((sumLen R : Nat) : Int)) := by
  unfold encI
  rw [List.getElem?_map, endsL_get (by omega), List.take_of_length_le (by omega)]
  rfl
theorem withLen_le : ∀ ps : List PatV, (withLen ps).length ≤ sumLen (withLen ps)
  | [] => Nat.le_refl _
  | p :: ps => by
    have h1 := withLen_le ps
    have h2 := flen_pos p
    have e : withLen (p :: ps) = (p, flen p) :: withLen ps := rfl
    rw [e, sumLen_cons, List.length_cons]
    dsimp only
    omega
def ROpnRet (w : World) (l : List UInt8) (e : Ending) (w' : World) : Prop := ∃ v, e = .returned (.tuple #[.agg (rdV (l.take (sumLen (readL l))) (sumLen (readL l))), v]) ∧ Below w.heap.size w w' ∧ OwnC w.heap.size w' v ((readL l).map (·.1))
set_option maxRecDepth 100000 in
set_option maxHeartbeats 8000000 in
theorem ropen30_any (l : List UInt8) (s : Nat) (w : World) (hl : l.length ≤ 900000) : Calls Tryz.prog 35 #[.agg (rdV l s)] w (ROpnRet w l) := by
  have K1 : Hid (Blk ((w.alloc (.cells (rdV l s) 55)).alloc (.cells rdZ 55)) w.heap.size 55 (rdV l s)) := (Blk.new _ _ _).alloc _
  have K2 : Hid (Blk ((w.alloc (.cells (rdV l s) 55)).alloc (.cells rdZ 55)) (w.heap.size + 1) 55 rdZ) := Blk.newAt (by simp) _ _
  have B0 : Hid (Below w.heap.size w ((w.alloc (.cells (rdV l s) 55)).alloc (.cells rdZ 55))) := ((Below.refl _ _).alloc (Nat.le_refl _) _).alloc (by simp) _
  obtain ⟨R, hR⟩ : ∃ R, R = readL l := ⟨_, rfl⟩
  obtain ⟨ps, hps1, hps2, hps3, hps4⟩ := readL_told l
  rw [← hR] at hps3
  have hsl : sumLen R ≤ l.length := hps3
  have hRl : Hid (R.length ≤ 900000) := by
    have h1 := withLen_le ps
    rw [← hps1, ← hR] at h1
    rw [Hid]; omega
  clear hps1 hps2 hps3 hps4
  replace hR := Lib.hid hR
  go_enter Tryz.func35, Tryz.ntmps35
  go_upto_region 1 with (refine wpList_alloced (allocRdk _) ?_)
  try rw [show (w.alloc (.cells (rdV l s) 55)).heap.size = w.heap.size + 1 from by simp]
  generalize ((w.alloc (.cells (rdV l s) 55)).alloc (.cells rdZ 55)) = w2 at *
  obtain ⟨g2, hg2⟩ : ∃ g, g = w.heap.size + 1 := ⟨_, rfl⟩
  rw [← hg2] at K2 ⊢
  have hB : Hid (w.heap.size ≤ g2) := by rw [Hid, hg2]; omega
  clear hg2
  obtain ⟨g1, hg1⟩ : ∃ g, g = w.heap.size := ⟨_, rfl⟩
  rw [← hg1] at K1 ⊢
  replace hg1 := Lib.hid hg1
  have y0 : w2.cell? ⟨g1, 0, none⟩ = some (.string (bytesOf l)) := K1.out.cell 0
  have CB := Lib.hid (conv_bytes w2 (bytesOf l))
  rw [bytesOf_size] at CB
  have BA := Lib.hid (conv_at30 w2 l (by omega))
  have bn := Lib.hid (conv_below w2 (bytesOf l))
  have K13 := Lib.hid (K1.out.ext bn.out)
  have K23 := Lib.hid (K2.out.ext bn.out)
  have B3 := Lib.hid (B0.out.trans (bn.out.mono B0.out.size))
  clear bn K1 K2 B0
  generalize (Lib.bytesWorld w2 5 (bytesOf l)) = w3 at *
  generalize grownCap w2 l.length 0 5 = c0 at *
  generalize w2.heap.size = gt at *
  have HR := Lib.hid (rread_any l w3 _ _ _ BA.out hl)
  generalize bytesOf l = X at *
  go_wp2_with (refine wpList_convW rfl CB.out ?_)
  refine HR.out.mono ?_
  rintro e w4 ⟨v1, v2, rfl, b4, o1, o2⟩
  rw [← hR.out] at o1 o2
  have K14 := Lib.hid (K13.out.ext b4)
  have K24 := Lib.hid (K23.out.ext b4)
  have B4 := Lib.hid (B3.out.trans (b4.mono B3.out.size))
  have O1 := Lib.hid o1
  have h23 : Hid (g2 < w3.heap.size) := K23.out.lt
  have hw3 : Hid (w.heap.size ≤ w3.heap.size) := B3.out.size
  obtain ⟨Ae, ce, rfl, _, SE⟩ := Sl.of_own o2
  have SE := Lib.hid SE
  obtain ⟨A1, c1, rfl, _⟩ := o1.slice
  clear b4 o1 o2 HR CB BA K13 K23 B3 y0
  rw [List.length_map] at O1 ⊢
  obtain ⟨nR, hnR⟩ : ∃ nR, nR = R.length := ⟨_, rfl⟩
  rw [← hnR] at O1 SE ⊢
  have hnRl : Hid (nR ≤ 900000) := by rw [Hid, hnR]; exact hRl.out
  replace hnR := Lib.hid hnR
  obtain ⟨a, ha⟩ : ∃ a, a = sumLen R := ⟨_, rfl⟩
  have hal : a ≤ l.length := by rw [ha]; exact hsl
  replace ha := Lib.hid ha
  clear hsl
  go_upto_if 18 with fail
  go_cut [6] (fun v wx => v = .int .i64 (a : Int) ∧ wx = w4)
  case first =>
    by_cases h0 : nR = 0
    · have z0 : ¬ ((0 : Int) < (nR : Int)) := by omega
      have ea : Hid (a = 0) := by
        rw [Hid, ha.out]
        have : R = [] := List.eq_nil_of_length_eq_zero (by rw [← hnR.out]; exact h0)
        rw [this]; rfl
      replace h0 := Lib.hid h0
      go_wp2_with fail
      go_meet
      case rel => exact ⟨by rw [ea.out]; rfl, rfl⟩
    · have z0 : ((0 : Int) < (nR : Int)) := by omega
      obtain ⟨j, hj⟩ : ∃ j, nR = j + 1 := ⟨nR - 1, by omega⟩
      have hj1 : (nR : Int) - 1 = (j : Int) := by omega
      have hw : IntKind.i64.wrap (j : Int) = (j : Int) := IntWalk.i64_in _ (by have := hnRl.out; omega)
      have hj0 : (0 : Int) ≤ (j : Int) := by omega
      have hj2 : (j : Int) < (nR : Int) := by omega
      obtain ⟨b, o, rfl, hb, hc⟩ := SE.out.2 (by omega)
      have y9 : w4.cell? ⟨b, o + j, none⟩ = some (.int .i64 (a : Int)) := by
        rw [hc j (by omega), ha.out]
        exact endsL_last (by rw [← hnR.out]; exact hj)
      clear hb hc h0
      replace hj := Lib.hid hj
      go_wp2_with fail
      go_meet
      case rel => exact ⟨rfl, rfl⟩
  case rest =>
    obtain ⟨rfl, rfl⟩ := hcut
    have HC := Lib.hid (rdCut_any l s a hal wc)
    go_wp2_with (refine wpList_load_row rfl 55 _ (by rfl) g1 (by rfl) _ _ _ _ K14.out underRdk rfl infoRdk ?_)
    refine HC.out.mono ?_
    rintro e w5 ⟨rfl, b5⟩
    have K25 := Lib.hid (K24.out.ext b5)
    have O5 := Lib.hid (O1.out.ext b5)
    have B5 := Lib.hid (B4.out.trans (b5.mono B4.out.size))
    clear b5 HC K14 K24 O1 B4 SE
    have KZ : Hid (Blk (w5.alloc (.cells rdZ 55)) w5.heap.size 55 rdZ) := Blk.new _ _ _
    have KQ : Hid (Blk ((w5.alloc (.cells rdZ 55)).setRow w5.heap.size (rdV (l.take a) a)) w5.heap.size 55 (rdV (l.take a) a)) := KZ.out.row _
    have BN : Hid (Below w5.heap.size w5 ((w5.alloc (.cells rdZ 55)).setRow w5.heap.size (rdV (l.take a) a))) := below_setRow (below_new w5 _) (Nat.le_refl _) _
    go_upto_region 6 with (first
      | (refine wpList_alloced (allocRdk _) ?_)
      | (refine wpList_store_row rfl 55 _ _ (by rfl) w5.heap.size (rdV (l.take a) a) (by rfl) (by rfl) _ _ KZ.out infoRdk rfl (rdV_one _ _) ?_))
    generalize ((w5.alloc (.cells rdZ 55)).setRow w5.heap.size (rdV (l.take a) a)) = w6 at *
    have K26 := Lib.hid (K25.out.ext BN.out)
    have O6 := Lib.hid (O5.out.ext BN.out)
    have B6 := Lib.hid (B5.out.trans (BN.out.mono B5.out.size))
    clear BN KZ K25 O5 B5
    generalize w5.heap.size = gq at *
    have hg2w : Hid (∀ k, Kept (fun k => k = g2) w6 (w6.setRow g2 k)) := fun k => kept_row (fun k => k = g2) w6 rfl _
    have B7 : Hid (Below w.heap.size w (w6.setRow g2 (rdV (l.take a) a))) := below_setRow B6.out hB.out _
    obtain ⟨rows, D, own, ri, hdd⟩ := O6.out
    have HDG2 : Hid (∀ k, D k → k = g2 → False) := fun k e e2 => by have := (hdd k e).1; have := h23.out; omega
    have kp7 := hg2w.out (rdV (l.take a) a)
    have hne : ∀ k, (Value.slice A1 nR c1).ownBlock = some k → k ≠ g2 := fun k e e2 => own_ne_blk own K26.out (by decide) e e2
    have O7 : Hid (OwnC w.heap.size (w6.setRow g2 (rdV (l.take a) a)) (.slice A1 nR c1) (R.map (·.1))) := ⟨rows, D, own_rebase (own_keepF own (fun k e => kp7.block k (own.lt k e).2 (hne k e))) (fun k e => Nat.le_trans hw3.out (own.lt k e).1), ri.stay (kp7.stay fun k _ e1 e2 => HDG2.out k e1 e2), fun k e => ⟨Nat.le_trans hw3.out (hdd k e).1, Nat.lt_of_lt_of_le (hdd k e).2.1 kp7.size, (hdd k e).2.2⟩⟩
    clear kp7 hne hg2w own ri hdd O6 B6
    go_wp2_with (first
      | (refine wpList_load_row rfl 55 _ (by rfl) gq (by rfl) _ _ _ _ KQ.out underRdk rfl infoRdk ?_)
      | (refine wpList_store_row rfl 55 _ _ (by rfl) g2 (rdV (l.take a) a) (by rfl) (by rfl) _ _ K26.out infoRdk rfl (rdV_one _ _) ?_))
    refine bodyPost_ret (results_row_tmp rfl _ _ g2 _ (rdV (l.take a) a) _ rfl (K26.out.row _) underRdk rfl infoRdk) rfl ?_
    refine ⟨.slice A1 nR c1, by rw [← hR.out, ← ha.out]; rfl, B7.out, by rw [← hR.out]; exact O7.out⟩
end Go.Proofs.YtdafiipedlglpaaGreatDoor
