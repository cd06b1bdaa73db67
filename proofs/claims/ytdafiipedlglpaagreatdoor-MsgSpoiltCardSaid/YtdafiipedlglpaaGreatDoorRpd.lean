/- The reference's reader: a byte, a number, the end: walked. -/
import Derived.Test.YtdafiipedlglpaaGreatDoorRpb
namespace Go.Proofs.YtdafiipedlglpaaGreatDoor
open Go.RowKit

/-- the reference's reader: what was not read, and what was wrong; the bytes lie below block B -/
structure RrAt (w : World) (B g : Nat) (l : List UInt8) (e : Nat) : Prop where
  ge : B ≤ g
  ex : ∃ A c, Blk w g 146 #[.slice A l.length c, .int .i64 (e : Int)] ∧ l.length ≤ c ∧ c ≤ maxLen ∧ Sl w B 1 A l.length (encB l)
theorem RrAt.ext {w w' : World} {B g e : Nat} {l : List UInt8} (h : RrAt w B g l e) (hb : Below w.heap.size w w') : RrAt w' B g l e := by
  obtain ⟨A, c, h1, h2, h3, h4⟩ := h.ex
  exact ⟨h.ge, A, c, h1.ext hb, h2, h3, h4.below hb (by have := h1.lt; have := h.ge; omega)⟩
def RrRet (w : World) (B g : Nat) (v : Value) (l : List UInt8) (e : Nat) (en : Ending) (w' : World) : Prop := en = .returned v ∧ Kept (fun k => k = g) w w' ∧ RrAt w' B g l e
theorem rr_fail {w : World} {B g e : Nat} {l : List UInt8} {A : Option Addr} {c : Nat} (ge : B ≤ g) (K : Blk w g 146 #[.slice A l.length c, .int .i64 (e : Int)]) (h2 : l.length ≤ c) (h3 : c ≤ maxLen) (S : Sl w B 1 A l.length (encB l)) (e2 : Nat) :
    Kept (fun k => k = g) w (w.setCell ⟨g, 1, none⟩ (.int .i64 (e2 : Int))) ∧ RrAt (w.setCell ⟨g, 1, none⟩ (.int .i64 (e2 : Int))) B g l e2 := by
  have kp : Kept (fun k => k = g) w (w.setCell ⟨g, 1, none⟩ (.int .i64 (e2 : Int))) := (Kept.refl (fun k => k = g) w).setCell (p := ⟨g, 1, none⟩) (.inl rfl) _
  refine ⟨kp, ge, A, c, ?_, h2, h3, ?_⟩
  · have := K.set_ 1 (.int .i64 (e2 : Int))
    simpa using this
  · exact S.below (kp.below (B := B) (fun k e => e ▸ ge) (by have := K.lt; omega)) (Nat.le_refl _)
theorem rr_skip {w : World} {B g e : Nat} {l : List UInt8} {A : Option Addr} {c : Nat} (ge : B ≤ g) (K : Blk w g 146 #[.slice A l.length c, .int .i64 (e : Int)]) (h2 : l.length ≤ c) (h3 : c ≤ maxLen) (S : Sl w B 1 A l.length (encB l)) {k : Nat} (hk : k ≤ l.length) :
    Kept (fun k => k = g) w (w.setCell ⟨g, 0, none⟩ (.slice (cutAddr A c k 1) (l.length - k) (c - k))) ∧ RrAt (w.setCell ⟨g, 0, none⟩ (.slice (cutAddr A c k 1) (l.length - k) (c - k))) B g (l.drop k) e := by
  have SL := Sl.cutLow (k := k) (c := c) (l := l) (enc := enc1) S rfl enc1_len hk h2
  generalize cutAddr A c k 1 = A2 at *
  have kp : Kept (fun k => k = g) w (w.setCell ⟨g, 0, none⟩ (.slice A2 (l.length - k) (c - k))) := (Kept.refl (fun k => k = g) w).setCell (p := ⟨g, 0, none⟩) (.inl rfl) _
  have bl := kp.below (B := B) (fun k e => e ▸ ge) (by have := K.lt; omega)
  refine ⟨kp, ge, A2, c - k, ?_, ?_, by omega, ?_⟩
  · have := K.set_ 0 (.slice A2 (l.length - k) (c - k))
    rw [List.length_drop]
    simpa using this
  · rw [List.length_drop]; omega
  · rw [List.length_drop]; exact SL.below bl (Nat.le_refl _)
set_option maxRecDepth 100000 in
set_option maxHeartbeats 2000000 in
theorem rrEnd_any {w : World} {B g e : Nat} {l : List UInt8} (h : RrAt w B g l e) : Calls Tryz.prog 96 #[.pointer (some ⟨g, 0, none⟩)] w (Ret w (.int .i64 (rEnd l e : Int))) := by
  obtain ⟨A, c, h1, _⟩ := h.ex
  have y0 : w.cell? ⟨g, 0, none⟩ = some (.slice A l.length c) := h1.cell 0
  have y1 : w.cell? ⟨g, 1, none⟩ = some (.int .i64 (e : Int)) := h1.cell 1
  clear h h1
  by_cases h0 : e = 0
  · subst h0
    by_cases hl : 0 < l.length
    · have hli : (0 : Int) < (l.length : Int) := by omega
      have E : Hid (rEnd l 0 = 4) := if_pos ⟨rfl, hl⟩
      go_enter Tryz.func96, Tryz.ntmps96
      go_wp2
      go_ret
      exact ⟨by rw [E.out]; rfl, rfl⟩
    · have hli : ¬ (0 : Int) < (l.length : Int) := by omega
      have E : Hid (rEnd l 0 = 0) := if_neg fun h => hl h.2
      go_enter Tryz.func96, Tryz.ntmps96
      go_wp2
      go_ret
      exact ⟨by rw [E.out]; rfl, rfl⟩
  · have h1 : (((e : Nat) : Int) == 0) = false := by rw [beq_eq_false_iff_ne]; omega
    have E : Hid (rEnd l e = e) := if_neg fun h => h0 h.1
    go_enter Tryz.func96, Tryz.ntmps96
    go_wp2
    go_ret
    exact ⟨by rw [E.out]; rfl, rfl⟩
set_option maxRecDepth 100000 in
set_option maxHeartbeats 2000000 in
theorem rrByte_any {w : World} {B g e : Nat} {l : List UInt8} (h : RrAt w B g l e) (most : Nat) :
    Calls Tryz.prog 92 #[.pointer (some ⟨g, 0, none⟩), .int .u8 (most : Int)] w (RrRet w B g (.int .u8 ((rByte most l e).1 : Int)) (rByte most l e).2.1 (rByte most l e).2.2) := by
  have H := Lib.hid h
  have KR := Lib.hid (Kept.refl (fun k => k = g) w)
  obtain ⟨A, c, h1, h2, h3, h4⟩ := h.ex
  have ge := h.ge
  have y0 : w.cell? ⟨g, 0, none⟩ = some (.slice A l.length c) := h1.cell 0
  have y1 : w.cell? ⟨g, 1, none⟩ = some (.int .i64 (e : Int)) := h1.cell 1
  have f0 : w.frozen? ⟨g, 0, none⟩ = false := h1.fr 0
  have f1 : w.frozen? ⟨g, 1, none⟩ = false := h1.fr 1
  by_cases h0 : e = 0
  · subst h0
    cases l with
    | nil =>
      have HF := Lib.hid (rr_fail ge h1 h2 h3 h4 2)
      simp only [List.length_nil] at y0
      rw [rByte_nil]
      clear h h1 h2 h3 h4 H KR
      go_enter Tryz.func92, Tryz.ntmps92
      go_wp2
      go_ret
      exact ⟨rfl, HF.out.1, HF.out.2⟩
    | cons x t =>
      obtain ⟨b, o, u, rfl, hb, hu, hc⟩ := h4.at_ (k := 0) (by simp)
      have hx : w.cell? ⟨b, o, none⟩ = some (.int .u8 ((x.toNat : Nat) : Int)) := by
        rw [Nat.add_zero] at hc
        rw [hc]; exact hu.symm
      have hl0 : ((((x :: t).length : Nat) : Int) == 0) = false := by rw [beq_eq_false_iff_ne, List.length_cons]; omega
      have hl1 : (0 : Int) < ((((x :: t).length : Nat) : Int)) := by rw [List.length_cons]; omega
      have HF := Lib.hid (rr_fail ge h1 h2 h3 h4 1)
      have HS := Lib.hid (rr_skip ge h1 h2 h3 h4 (k := 1) (by simp))
      have CL := Lib.hid (fun u => run_slice_low byteSl (A := some ⟨b, o, none⟩) (n := (x :: t).length) (c := c) (k := 1) (by simp) u)
      obtain ⟨n, hn⟩ : ∃ n, n = (x :: t).length := ⟨_, rfl⟩
      rw [← hn] at hl0 hl1 y0 HS CL
      clear h h1 h2 h3 hc hu h4 H KR
      generalize cutAddr (some ⟨b, o, none⟩) c 1 1 = A2 at *
      by_cases hmx : most < x.toNat
      · have hmi : (most : Int) < ((x.toNat : Nat) : Int) := by omega
        rw [rByte_more hmx]
        clear hn
        go_enter Tryz.func92, Tryz.ntmps92
        go_wp2
        go_ret
        exact ⟨rfl, HF.out.1, HF.out.2⟩
      · have hmi : ¬ (most : Int) < ((x.toNat : Nat) : Int) := by omega
        rw [rByte_yes hmx]
        clear hn
        go_enter Tryz.func92, Tryz.ntmps92
        go_wp2_with (refine wpList_slB rfl rfl rfl rfl (CL.out _) ?_)
        go_ret
        exact ⟨rfl, HS.out.1, HS.out.2⟩
  · have z1 : (((e : Nat) : Int) != 0) = true := by rw [bne_iff_ne]; omega
    rw [rByte_err h0]
    clear h h1 h2 h3 h4
    go_enter Tryz.func92, Tryz.ntmps92
    go_wp2
    go_ret
    exact ⟨rfl, KR.out, H.out⟩
set_option maxRecDepth 100000 in
set_option maxHeartbeats 2000000 in
theorem rrNum_any {w : World} {B g e : Nat} {l : List UInt8} (h : RrAt w B g l e) (most : Nat) :
    Calls Tryz.prog 93 #[.pointer (some ⟨g, 0, none⟩), .int .u64 (most : Int)] w (RrRet w B g (.int .u64 ((rNum most l e).1 : Int)) (rNum most l e).2.1 (rNum most l e).2.2) := by
  have H := Lib.hid h
  have KR := Lib.hid (Kept.refl (fun k => k = g) w)
  obtain ⟨A, c, h1, h2, h3, h4⟩ := h.ex
  have ge := h.ge
  have y0 : w.cell? ⟨g, 0, none⟩ = some (.slice A l.length c) := h1.cell 0
  have y1 : w.cell? ⟨g, 1, none⟩ = some (.int .i64 (e : Int)) := h1.cell 1
  have f0 : w.frozen? ⟨g, 0, none⟩ = false := h1.fr 0
  have f1 : w.frozen? ⟨g, 1, none⟩ = false := h1.fr 1
  by_cases h0 : e = 0
  · subst h0
    have HV := Lib.hid (rvread_any l w A l.length c ⟨rfl, h2, h3, h4.more (by have := h1.lt; omega)⟩)
    have hle := Lib.hid (fun n k he => vread_len (l := l) (n := n) (k := k) he)
    have hn64 := vread_lt l
    obtain ⟨n, k, e1, hv⟩ : ∃ n k e1, vread l = (n, k, e1) := ⟨_, _, _, rfl⟩
    have ER : Hid (rNum most l 0 = if e1 ≠ 0 then (0, l, e1) else if most < n then (0, l, 1) else (n, l.drop k, 0)) := by
      rw [Hid]; unfold rNum; rw [if_neg (by simp), hv]
    rw [hv] at HV hle hn64
    clear hv
    by_cases he : e1 = 0
    · subst he
      have hk := hle.out n k rfl
      by_cases hm : most < n
      · have hmi : (most : Int) < (n : Int) := by omega
        have HF := Lib.hid (rr_fail ge h1 h2 h3 h4 1)
        have E : rNum most l 0 = (0, l, 1) := by rw [ER.out, if_neg (by simp), if_pos hm]
        rw [E]
        clear h h1 h2 h3 h4 H KR ER E hle
        go_enter Tryz.func93, Tryz.ntmps93
        go_wp2_with fail
        refine HV.out.mono ?_
        rintro e _ ⟨rfl, rfl⟩
        go_wp2
        go_ret
        exact ⟨rfl, HF.out.1, HF.out.2⟩
      · have hmi : ¬ (most : Int) < (n : Int) := by omega
        have HS := Lib.hid (rr_skip ge h1 h2 h3 h4 (k := k) hk)
        have CL := Lib.hid (fun u => run_slice_low byteSl (A := A) (n := l.length) (c := c) (k := k) hk u)
        have E : rNum most l 0 = (n, l.drop k, 0) := by rw [ER.out, if_neg (by simp), if_neg hm]
        rw [E]
        clear h h1 h2 h3 h4 H KR ER E hle
        generalize cutAddr A c k 1 = A2 at *
        go_enter Tryz.func93, Tryz.ntmps93
        go_wp2_with fail
        refine HV.out.mono ?_
        rintro e _ ⟨rfl, rfl⟩
        go_wp2_with (refine wpList_slB rfl rfl rfl rfl (CL.out _) ?_)
        go_ret
        exact ⟨rfl, HS.out.1, HS.out.2⟩
    · have z0 : (((e1 : Nat) : Int) == 0) = false := by rw [beq_eq_false_iff_ne]; omega
      have z1 : (((e1 : Nat) : Int) != 0) = true := by rw [bne_iff_ne]; omega
      have HF := Lib.hid (rr_fail ge h1 h2 h3 h4 e1)
      have E : rNum most l 0 = (0, l, e1) := by rw [ER.out, if_pos he]
      rw [E]
      replace he := Lib.hid he
      clear h h1 h2 h3 h4 H KR ER E hle
      go_enter Tryz.func93, Tryz.ntmps93
      go_wp2_with fail
      refine HV.out.mono ?_
      rintro e _ ⟨rfl, rfl⟩
      go_wp2
      go_ret
      exact ⟨rfl, HF.out.1, HF.out.2⟩
  · have z1 : (((e : Nat) : Int) != 0) = true := by rw [bne_iff_ne]; omega
    rw [show rNum most l e = (0, l, e) by unfold rNum; rw [if_pos h0]]
    clear h h1 h2 h3 h4
    go_enter Tryz.func93, Tryz.ntmps93
    go_wp2
    go_ret
    exact ⟨rfl, KR.out, H.out⟩
end Go.Proofs.YtdafiipedlglpaaGreatDoor
