/- The peers' object: what is waited for. -/
import Derived.Test.YtlebhalaodmkhaaPeers
namespace Go.Proofs.Ytlebhalaodmkhaa
open Go.RowKit

def waitP (self nodes : Int) (wait : List Int) (n : Nat) : Int := if isP self nodes n = true then wait.getD n 0 else 0
def freeP (self nodes : Int) (wait : List Int) (n : Nat) : Bool := isP self nodes n && decide (wait.getD n 0 = 0)

theorem isP_lt {s m : Int} {n : Nat} (h : isP s m n = true) (hm : m ≤ 64) : n < 65 := by
  have := of_decide_eq_true h; omega

section
variable {w : World} {b : Nat} {self nodes pat : Int} {wait : List Int}
set_option maxHeartbeats 400000 in
theorem wait_any (h : PeersAt w b self nodes pat wait) (n : Nat) (hn : n < 256) :
    Calls Try.prog 36 #[.pointer (some ⟨b, 0, none⟩), .int .u8 (n : Int)] w (Ret w (.int .i64 (waitP self nodes wait n))) := by
  have HI := Lib.hid (is_any b self nodes n w h.c0 h.c1 (by omega))
  by_cases hi : isP self nodes n = true
  · have F : Hid (waitP self nodes wait n = wait.getD n 0) := if_pos hi
    have hlt := isP_lt hi h.hnodes.2
    have hc := h.cw n hlt
    have hb0 : (0 : Int) ≤ (n : Int) := by omega
    have hb1 : (n : Int) < 65 := by omega
    clear h
    generalize wait.getD n 0 = v at *
    go_enter Try.func36, Try.ntmps36
    go_wp2_with fail
    refine HI.out.mono ?_
    rintro e w1 ⟨rfl, rfl⟩
    go_wp2_with fail
    go_ret
    exact ⟨ret_int F.out.symm, rfl⟩
  · have hi' : isP self nodes n = false := by simpa using hi
    have F : Hid (waitP self nodes wait n = 0) := if_neg hi
    clear hi h
    go_enter Try.func36, Try.ntmps36
    go_wp2_with fail
    refine HI.out.mono ?_
    rintro e w1 ⟨rfl, rfl⟩
    go_wp2_with fail
    go_ret
    exact ⟨ret_int F.out.symm, rfl⟩

set_option maxHeartbeats 400000 in
theorem free_any (h : PeersAt w b self nodes pat wait) (n : Nat) (hn : n < 256) :
    Calls Try.prog 38 #[.pointer (some ⟨b, 0, none⟩), .int .u8 (n : Int)] w (Ret w (.bool (freeP self nodes wait n))) := by
  have HI := Lib.hid (is_any b self nodes n w h.c0 h.c1 (by omega))
  have HW := Lib.hid (wait_any h n hn)
  by_cases hi : isP self nodes n = true
  · have F : Hid (freeP self nodes wait n = decide (wait.getD n 0 = 0)) := by rw [Hid, freeP, hi]; rfl
    have hw : waitP self nodes wait n = wait.getD n 0 := if_pos hi
    rw [hw] at HW
    clear h hw
    generalize wait.getD n 0 = v at *
    go_enter Try.func38, Try.ntmps38
    go_wp2_with fail
    refine HI.out.mono ?_
    rintro e w1 ⟨rfl, rfl⟩
    go_wp2_with fail
    refine HW.out.mono ?_
    rintro e w1 ⟨rfl, rfl⟩
    go_wp2_with fail
    go_ret
    exact ⟨ret_bool (by rw [F.out, Bool.eq_iff_iff]; simp), rfl⟩
  · have hi' : isP self nodes n = false := by simpa using hi
    have F : Hid (freeP self nodes wait n = false) := by rw [Hid, freeP, hi']; rfl
    clear hi h
    go_enter Try.func38, Try.ntmps38
    go_wp2_with fail
    refine HI.out.mono ?_
    rintro e w1 ⟨rfl, rfl⟩
    go_wp2_with fail
    go_ret
    exact ⟨ret_bool F.out.symm, rfl⟩

/-- a peers' object after a call that may have written it: nothing below has turned -/
def SetP (w : World) (b : Nat) (self nodes pat : Int) (wait : List Int) (e : Ending) (w' : World) : Prop :=
  e = .returned (.tuple #[]) ∧ PeersAt w' b self nodes pat wait ∧ w.grownBy w' (some b)

theorem only_set {w : World} (g i : Nat) (u : Value) : w.grownBy (w.setCell ⟨g, i, none⟩ u) (some g) :=
  ⟨rfl, rfl, rfl, by simp [World.setCell], fun k _ hne => Below.heap_setCell w _ u k (by rintro rfl; exact hne rfl)⟩

theorem only_drew {a w : World} {row : Option Nat} (h : a.grownBy w row) : a.grownBy w.drew row := ⟨h.os, h.tape, h.output, h.size, h.block⟩

def setP (self nodes : Int) (wait : List Int) (n : Nat) (v : Int) : List Int := if isP self nodes n = true then wait.set n v else wait

set_option maxHeartbeats 400000 in
theorem asked_any (h : PeersAt w b self nodes pat wait) (n : Nat) (hn : n < 256) :
    Calls Try.prog 30 #[.pointer (some ⟨b, 0, none⟩), .int .u8 (n : Int)] w (SetP w b self nodes pat (setP self nodes wait n pat)) := by
  have HI := Lib.hid (is_any b self nodes n w h.c0 h.c1 (by omega))
  have H := Lib.hid h
  by_cases hi : isP self nodes n = true
  · have F : Hid (setP self nodes wait n pat = wait.set n pat) := if_pos hi
    have hlt := isP_lt hi h.hnodes.2
    have hc := h.cw n hlt
    have hc2 := h.c2
    have hf := h.fr (3 + n)
    have hb0 : (0 : Int) ≤ (n : Int) := by omega
    have hb1 : (n : Int) < 65 := by omega
    clear h
    generalize wait.getD n 0 = v at *
    go_enter Try.func30, Try.ntmps30
    go_wp2_with fail
    refine HI.out.mono ?_
    rintro e w1 ⟨rfl, rfl⟩
    go_wp2_with fail
    go_region
    all_goals
      go_wp2
      go_end0
      refine ⟨rfl, ?_, ?_⟩
      · rw [F.out]; exact (H.out.set n pat H.out.hpat).drewN 1
      · exact only_drew (only_set b (3 + n) _)
  · have hi' : isP self nodes n = false := by simpa using hi
    have F : Hid (setP self nodes wait n pat = wait) := if_neg hi
    clear hi h
    go_enter Try.func30, Try.ntmps30
    go_wp2_with fail
    refine HI.out.mono ?_
    rintro e w1 ⟨rfl, rfl⟩
    go_wp2_with fail
    go_end0
    exact ⟨rfl, by rw [F.out]; exact H.out, World.grownBy.refl _ _⟩
set_option maxHeartbeats 400000 in
theorem heard_any (h : PeersAt w b self nodes pat wait) (n : Nat) (hn : n < 256) :
    Calls Try.prog 32 #[.pointer (some ⟨b, 0, none⟩), .int .u8 (n : Int)] w (SetP w b self nodes pat (setP self nodes wait n 0)) := by
  have HI := Lib.hid (is_any b self nodes n w h.c0 h.c1 (by omega))
  have H := Lib.hid h
  by_cases hi : isP self nodes n = true
  · have F : Hid (setP self nodes wait n 0 = wait.set n 0) := if_pos hi
    have hlt := isP_lt hi h.hnodes.2
    have hc := h.cw n hlt
    have hf := h.fr (3 + n)
    have hb0 : (0 : Int) ≤ (n : Int) := by omega
    have hb1 : (n : Int) < 65 := by omega
    clear h
    generalize wait.getD n 0 = v at *
    go_enter Try.func32, Try.ntmps32
    go_wp2_with fail
    refine HI.out.mono ?_
    rintro e w1 ⟨rfl, rfl⟩
    go_wp2_with fail
    go_end0
    refine ⟨rfl, ?_, ?_⟩
    · rw [F.out]; exact H.out.set n 0 (by omega)
    · exact only_set b (3 + n) _
  · have hi' : isP self nodes n = false := by simpa using hi
    have F : Hid (setP self nodes wait n 0 = wait) := if_neg hi
    clear hi h
    go_enter Try.func32, Try.ntmps32
    go_wp2_with fail
    refine HI.out.mono ?_
    rintro e w1 ⟨rfl, rfl⟩
    go_wp2_with fail
    go_end0
    exact ⟨rfl, by rw [F.out]; exact H.out, World.grownBy.refl _ _⟩

def tick1 (v : Int) : Int := if v - 1 < 0 then 0 else v - 1
def tickTo (wait : List Int) (k : Nat) : List Int := (wait.take k).map tick1 ++ wait.drop k
theorem tickTo_zero (wait : List Int) : tickTo wait 0 = wait := by simp [tickTo]
theorem tickTo_all (wait : List Int) (h : wait.length = 65) : tickTo wait 65 = wait.map tick1 := by
  simp [tickTo, List.take_of_length_le (Nat.le_of_eq h), List.drop_eq_nil_of_le (Nat.le_of_eq h)]
theorem tickTo_get (wait : List Int) (k : Nat) (h : k < wait.length) : (tickTo wait k).getD k 0 = wait.getD k 0 := by
  have hk : ((wait.take k).map tick1).length = k := by simp; omega
  rw [tickTo, List.getD_eq_getElem?_getD, List.getD_eq_getElem?_getD, List.getElem?_append_right (Nat.le_of_eq hk), hk, Nat.sub_self, List.getElem?_drop]; rfl
theorem tickTo_succ (wait : List Int) (k : Nat) (h : k < wait.length) : (tickTo wait k).set k (tick1 (wait.getD k 0)) = tickTo wait (k + 1) := by
  have hk : ((wait.take k).map tick1).length = k := by simp; omega
  have e : wait.drop k = wait[k] :: wait.drop (k + 1) := List.drop_eq_getElem_cons h
  have g : wait.getD k 0 = wait[k] := by simp [List.getD_eq_getElem?_getD, h]
  rw [tickTo, tickTo, List.take_succ_eq_append_getElem h, List.set_append_right (h := Nat.le_of_eq hk), hk, e, g]
  simp only [Nat.sub_self, List.set_cons_zero, List.map_append, List.map_cons, List.map_nil, List.append_assoc, List.cons_append, List.nil_append]

theorem grownBy_trans {a c d : World} {row : Option Nat} (h : a.grownBy c row) (k : c.grownBy d row) : a.grownBy d row :=
  ⟨k.os.trans h.os, k.tape.trans h.tape, k.output.trans h.output, Nat.le_trans h.size k.size, fun i hi hne => (k.block i (Nat.lt_of_lt_of_le hi h.size) hne).trans (h.block i hi hne)⟩

set_option maxHeartbeats 1000000 in
theorem tick_any (h : PeersAt w b self nodes pat wait) :
    Calls Try.prog 34 #[.pointer (some ⟨b, 0, none⟩)] w (SetP w b self nodes pat (wait.map tick1)) := by
  have HL := Lib.hid h.len
  have HW := Lib.hid h.hwait
  have H := Lib.hid h
  clear h
  go_enter Try.func34, Try.ntmps34
  go_wp2
  go_loopw [5] (fun i wr => ∃ k : Nat, k ≤ 65 ∧ i = .int .i64 k ∧ PeersAt wr b self nodes pat (tickTo wait k) ∧ w.grownBy wr (some b)) (fun i _ => 65 - (intOf i).toNat)
  case atStart => exact ⟨0, by omega, rfl, by rw [tickTo_zero]; exact H.out, World.grownBy.refl _ _⟩
  case round =>
    obtain ⟨k, hk, rfl, hp, hg⟩ := hrel
    have P := Lib.hid hp
    have G := Lib.hid hg
    by_cases hlt : k < 65
    · have hc := hp.cw k hlt
      have hkl : k < wait.length := by rw [HL.out]; exact hlt
      rw [tickTo_get wait k hkl] at hc
      have hf := hp.fr (3 + k)
      have hv := HW.out (wait.getD k 0) (by rw [List.getD_eq_getElem?_getD, List.getElem?_eq_getElem hkl]; simp)
      have S := Lib.hid (tickTo_succ wait k hkl)
      have hb0 : (0 : Int) ≤ (k : Int) := by omega
      have hb1 : (k : Int) < 65 := by omega
      clear hp hg hkl
      generalize hgv : wait.getD k 0 = v at *
      clear hgv
      obtain ⟨hv0, hv1⟩ := hv
      by_cases hneg : v - 1 < 0
      · have T : Hid (tick1 v = 0) := if_pos hneg
        go_wp2_with fail
        go_region
        all_goals
          go_wp2
          go_roundw
          case rel => exact ⟨k + 1, by omega, by go_num, by rw [← S.out, T.out]; exact (P.out.set k 0 (by omega)).drewN 1, only_drew (grownBy_trans G.out (only_set b (3 + k) _))⟩
          case measure => simp [intOf]; omega
      · have T : Hid (tick1 v = v - 1) := if_neg hneg
        go_wp2_with fail
        go_region
        all_goals
          go_wp2
          go_roundw
          case rel => exact ⟨k + 1, by omega, by go_num, by rw [← S.out, T.out]; exact (P.out.set k (v - 1) (by omega)).drewN 1, only_drew (grownBy_trans G.out (only_set b (3 + k) _))⟩
          case measure => simp [intOf]; omega
    · have hk' : k = 65 := by omega
      subst hk'
      clear hp hg
      go_wp2
      go_end0
      exact ⟨rfl, by rw [← tickTo_all wait HL.out]; exact P.out, G.out⟩
end
end Go.Proofs.Ytlebhalaodmkhaa
