/- The document's count of unlike patches; there are not more fingerprints. -/
import Derived.Test.YtihggkmjalofiaaDoorFina
import Derived.Test.YtihggkmjalofiaaDoorGen
import Derived.Test.YtihggkmjalofiaaDoorLists
import Derived.Test.YtihggkmjalofiaaDoorPati
import Derived.Test.YtihggkmjalofiaaDoorPatr
import Derived.Test.YtihggkmjalofiaaDoorIdxw
namespace Go.Proofs.YtihggkmjalofiaaDoor
open Go.RowKit

def sameC (p q : PatV) : Bool := decide (p = q) || (!patB p && !patB q)
def firstK (x : PatV) (l : List PatV) (k : Nat) : Bool := (l.take k).all fun q => !sameC x q
def addI (l : List PatV) (i : Nat) : Nat := match l[i]? with | some x => (if firstK x l i = true then 1 else 0) | none => 0
def cntU (l : List PatV) : Nat → Nat
  | 0 => 0
  | i + 1 => cntU l i + addI l i
theorem addI_le (l : List PatV) (i : Nat) : addI l i ≤ 1 := by
  unfold addI
  split
  · split <;> omega
  · omega
theorem cntU_le (l : List PatV) : ∀ i, cntU l i ≤ i
  | 0 => Nat.le_refl _
  | i + 1 => by
    have h1 := cntU_le l i
    have h2 := addI_le l i
    unfold cntU
    omega
theorem firstK_next {x q : PatV} {l : List PatV} {k : Nat} (h : l[k]? = some q) : firstK x l (k + 1) = (firstK x l k && !sameC x q) := by
  unfold firstK
  rw [List.take_add_one, h, List.all_append]
  simp
theorem fp_same {p q : PatV} (h : sameC p q = true) : fpB p = fpB q := by
  unfold sameC at h
  rcases Bool.or_eq_true _ _ ▸ h with h | h
  · rw [of_decide_eq_true h]
  · rw [Bool.and_eq_true, Bool.not_eq_true', Bool.not_eq_true'] at h
    unfold fpB
    rw [if_neg (by rw [h.1]; exact Bool.false_ne_true), if_neg (by rw [h.2]; exact Bool.false_ne_true)]
theorem uniq_le (l : List PatV) (i : Nat) : (uniqU ((l.map fpB).take i)).length ≤ cntU l i := by
  induction i with
  | zero => simp [uniqU]
  | succ i ih =>
    unfold cntU addI
    cases hx : l[i]? with
    | none =>
      have hl : l.length ≤ i := List.getElem?_eq_none_iff.1 hx
      rw [List.take_of_length_le (by rw [List.length_map]; omega)]
      rw [List.take_of_length_le (by rw [List.length_map]; omega)] at ih
      exact ih
    | some x =>
      rw [uniqU_snoc (x := fpB x) (by rw [List.getElem?_map, hx]; rfl)]
      unfold addU
      split
      · exact Nat.le_trans ih (Nat.le_add_right _ _)
      · rename_i hn
        have hf : firstK x l i = true := by
          unfold firstK
          rw [List.all_eq_true]
          intro q hq
          cases hs : sameC x q with
          | false => rfl
          | true =>
            refine absurd ((uniqU_mem _ _).2 ?_) hn
            rw [fp_same hs, ← List.map_take]
            exact List.mem_map_of_mem hq
        show _ ≤ cntU l i + (if firstK x l i = true then 1 else 0)
        rw [if_pos hf, List.length_append, List.length_singleton]
        omega
theorem indexPF (b o n c k : Nat) (hk : k < n) (w : World) : (Instr.indexAt 22 (.slice (some ⟨b, o, none⟩) n c) (.int .i64 ((k : Nat) : Int))).run Tryd.prog w = .ok (.pointer (some ⟨b, o + k * 4, none⟩)) w := by
  have h0 : (0 : Int) ≤ (k : Int) := by omega
  have h1 : (k : Int) < (n : Int) := by omega
  simp [go_sem, h0, h1]
set_option maxRecDepth 100000 in
set_option maxHeartbeats 8000000 in
theorem unlike47r_any (l : List PatV) (w : World) (A : Option Addr) (n c : Nat) (h : PatsAt w A n l) (hm : n ≤ 100) :
    Calls Tryd.prog 9 #[.slice A n c] w (RetB w (.int .i64 (cntU l n : Int))) := by
  have H := Lib.hid h
  clear h
  have hcS : ∀ args u, (callFunc 17 args).run Tryd.prog u = .ok (.enter 17 args) u := enters_of Tryd.func17 (by kernel_rfl) rfl
  have hcG : ∀ args u, (callFunc 18 args).run Tryd.prog u = .ok (.enter 18 args) u := enters_of Tryd.func18 (by kernel_rfl) rfl
  go_enter Tryd.func9, Tryd.ntmps9
  go_wp2_with fail
  go_loopw [3, 4] (fun s i wr => ∃ j : Nat, j ≤ n ∧ i = .int .i64 ((j : Nat) : Int) ∧ s = .int .i64 ((cntU l j : Nat) : Int) ∧ Hid (Below w.heap.size w wr)) (fun _ i _ => n - (intOf i).toNat)
  case atStart => exact ⟨0, by omega, rfl, rfl, Below.refl _ _⟩
  case round =>
    obtain ⟨i, hi, rfl, rfl, B0⟩ := hrel
    have hcl := cntU_le l i
    have hi0 : (0 : Int) ≤ (i : Int) := by omega
    by_cases hlt : i < n
    · have hlk : (i : Int) < (n : Int) := by omega
      obtain ⟨b, o, x, r, rfl, hb, hx, px, hr⟩ := H.out.at_ hlt
      have HX := Lib.hid hx
      have PX0 := Lib.hid px
      obtain ⟨⟨A1, c1, A2, c2, rfl, _, _⟩, _, _⟩ := px
      have HB := Lib.hid hb
      have RX0 := Lib.hid hr
      have HIi := Lib.hid (fun u : World => indexPF b o n c i hlt u)
      clear hx hb hr
      go_upto_region 7 with fail
      obtain ⟨wz, rfl⟩ : ∃ x, x = wr := ⟨_, rfl⟩
      go_loopw [5, 6] (fun v5 v6 wr => ∃ k : Nat, k ≤ i ∧ v6 = .int .i64 ((k : Nat) : Int) ∧ v5 = .bool (firstK x l k) ∧ Hid (Below w.heap.size w wr)) (fun _ v6 _ => i - (intOf v6).toNat)
      case atStart => exact ⟨0, by omega, rfl, rfl, B0.out⟩
      case round =>
        clear B0
        obtain ⟨k, hk, rfl, rfl, B⟩ := hrel
        have hk0 : (0 : Int) ≤ (k : Int) := by omega
        by_cases hki : k < i
        · have hkl : (k : Int) < (i : Int) := by omega
          obtain ⟨b2, o2, q, r2, hA, hb2, hq, pq, hr2⟩ := H.out.at_ (k := k) (by omega)
          obtain ⟨rfl, rfl⟩ : b = b2 ∧ o = o2 := by injection hA with e; injection e with e1 e2; exact ⟨e1, e2⟩
          clear hA hb2
          have PQ0 := Lib.hid pq
          obtain ⟨⟨A3, c3, A4, c4, rfl, _, _⟩, _, _⟩ := pq
          have FN := Lib.hid (firstK_next (x := x) hq)
          have HIk := Lib.hid (fun u : World => indexPF b o n c k (by omega) u)
          have RX := Lib.hid (fun (u : World) (hu : Below wr.heap.size wr u) => rangeAt_below RX0.out (B.out.trans (hu.mono B.out.size)) HB.out)
          have RQ := Lib.hid (fun (u : World) (hu : Below wr.heap.size wr u) => rangeAt_below hr2 (B.out.trans (hu.mono B.out.size)) HB.out)
          have HS := Lib.hid (fun (u : World) (hu : Below wr.heap.size wr u) => rpsame x q u _ _ (PX0.out.ext (B.out.trans (hu.mono B.out.size))) (PQ0.out.ext (B.out.trans (hu.mono B.out.size))))
          have HGi := Lib.hid (fun (u : World) (hu : Below wr.heap.size wr u) => rgood18_any x u _ (PX0.out.ext (B.out.trans (hu.mono B.out.size))))
          have HGk := Lib.hid (fun (u : World) (hu : Below wr.heap.size wr u) => rgood18_any q u _ (PQ0.out.ext (B.out.trans (hu.mono B.out.size))))
          unfold sameC at FN
          clear hr2 hq PQ0
          go_upto_region 9 with fail
          generalize firstK x l k = f0 at *
          generalize patB x = gi at *
          generalize patB q = gk at *
          generalize decide (x = q) = sm at *
          cases f0
          · replace FN : Hid (firstK x l (k + 1) = false) := by rw [Hid, FN.out]; rfl
            try go_frame
            refine wp_region_held (S := fun w' => Below wr.heap.size wr w') mixedS ?_
            change wpAnyH _ _ _ _ _ _ _ _ wr.drew
            have BD : Hid (Below wr.heap.size wr wr.drew) := (Below.refl _ _).drew
            generalize wr.drew = wd at *
            simp only [List.size_toArray, List.length_cons, List.length_nil]
            refine takeV (i := 0) (d := 18) (v := .bool false) rfl (by kernel_rfl) (by kernel_rfl) (by kernel_rfl) (fun _ _ _ h => h) rfl (fun _ _ => exMove (v := .bool false) rfl) BD.out ?_
            simp only [Act.put, List.setIfInBounds_toArray, List.set_cons_zero, List.set_cons_succ]
            refine takeV (i := 1) (d := 19) (v := .bool false) rfl (by kernel_rfl) (by kernel_rfl) (by kernel_rfl) (fun _ _ _ h => h) rfl (fun _ _ => exMove (v := .bool false) rfl) BD.out ?_
            simp only [Act.put, List.setIfInBounds_toArray, List.set_cons_zero, List.set_cons_succ]
            refine takeSkip (i := 2) (d := 20) rfl (by kernel_rfl) (by kernel_rfl) (by kernel_rfl) (fun _ _ _ h => h) rfl BD.out ?_
            simp only [Act.put, List.setIfInBounds_toArray, List.set_cons_zero, List.set_cons_succ]
            refine takeSkip (i := 3) (d := 21) rfl (by kernel_rfl) (by kernel_rfl) (by kernel_rfl) (fun _ _ _ h => h) rfl BD.out ?_
            simp only [Act.put, List.setIfInBounds_toArray, List.set_cons_zero, List.set_cons_succ]
            refine takeSkip (i := 4) (d := 22) rfl (by kernel_rfl) (by kernel_rfl) (by kernel_rfl) (fun _ _ _ h => h) rfl BD.out ?_
            simp only [Act.put, List.setIfInBounds_toArray, List.set_cons_zero, List.set_cons_succ]
            refine takeSkip (i := 5) (d := 23) rfl (by kernel_rfl) (by kernel_rfl) (by kernel_rfl) (fun _ _ _ h => h) rfl BD.out ?_
            simp only [Act.put, List.setIfInBounds_toArray, List.set_cons_zero, List.set_cons_succ]
            refine takeSkip (i := 6) (d := 24) rfl (by kernel_rfl) (by kernel_rfl) (by kernel_rfl) (fun _ _ _ h => h) rfl BD.out ?_
            simp only [Act.put, List.setIfInBounds_toArray, List.set_cons_zero, List.set_cons_succ]
            refine takeSkip (i := 7) (d := 25) rfl (by kernel_rfl) (by kernel_rfl) (by kernel_rfl) (fun _ _ _ h => h) rfl BD.out ?_
            simp only [Act.put, List.setIfInBounds_toArray, List.set_cons_zero, List.set_cons_succ]
            refine takeSkip (i := 8) (d := 26) rfl (by kernel_rfl) (by kernel_rfl) (by kernel_rfl) (fun _ _ _ h => h) rfl BD.out ?_
            simp only [Act.put, List.setIfInBounds_toArray, List.set_cons_zero, List.set_cons_succ]
            refine takeSkip (i := 9) (d := 27) rfl (by kernel_rfl) (by kernel_rfl) (by kernel_rfl) (fun _ _ _ h => h) rfl BD.out ?_
            simp only [Act.put, List.setIfInBounds_toArray, List.set_cons_zero, List.set_cons_succ]
            refine takeSkip (i := 10) (d := 28) rfl (by kernel_rfl) (by kernel_rfl) (by kernel_rfl) (fun _ _ _ h => h) rfl BD.out ?_
            simp only [Act.put, List.setIfInBounds_toArray, List.set_cons_zero, List.set_cons_succ]
            refine takeSkip (i := 11) (d := 29) rfl (by kernel_rfl) (by kernel_rfl) (by kernel_rfl) (fun _ _ _ h => h) rfl BD.out ?_
            simp only [Act.put, List.setIfInBounds_toArray, List.set_cons_zero, List.set_cons_succ]
            refine takeSkip (i := 12) (d := 30) rfl (by kernel_rfl) (by kernel_rfl) (by kernel_rfl) (fun _ _ _ h => h) rfl BD.out ?_
            simp only [Act.put, List.setIfInBounds_toArray, List.set_cons_zero, List.set_cons_succ]
            refine takeSkip (i := 13) (d := 31) rfl (by kernel_rfl) (by kernel_rfl) (by kernel_rfl) (fun _ _ _ h => h) rfl BD.out ?_
            simp only [Act.put, List.setIfInBounds_toArray, List.set_cons_zero, List.set_cons_succ]
            refine takeSkip (i := 14) (d := 32) rfl (by kernel_rfl) (by kernel_rfl) (by kernel_rfl) (fun _ _ _ h => h) rfl BD.out ?_
            simp only [Act.put, List.setIfInBounds_toArray, List.set_cons_zero, List.set_cons_succ]
            refine takeSkip (i := 15) (d := 33) rfl (by kernel_rfl) (by kernel_rfl) (by kernel_rfl) (fun _ _ _ h => h) rfl BD.out ?_
            simp only [Act.put, List.setIfInBounds_toArray, List.set_cons_zero, List.set_cons_succ]
            refine takeSkip (i := 16) (d := 34) rfl (by kernel_rfl) (by kernel_rfl) (by kernel_rfl) (fun _ _ _ h => h) rfl BD.out ?_
            simp only [Act.put, List.setIfInBounds_toArray, List.set_cons_zero, List.set_cons_succ]
            refine takeSkip (i := 17) (d := 35) rfl (by kernel_rfl) (by kernel_rfl) (by kernel_rfl) (fun _ _ _ h => h) rfl BD.out ?_
            simp only [Act.put, List.setIfInBounds_toArray, List.set_cons_zero, List.set_cons_succ]
            refine takeSkip (i := 18) (d := 36) rfl (by kernel_rfl) (by kernel_rfl) (by kernel_rfl) (fun _ _ _ h => h) rfl BD.out ?_
            simp only [Act.put, List.setIfInBounds_toArray, List.set_cons_zero, List.set_cons_succ]
            refine takeSkip (i := 19) (d := 37) rfl (by kernel_rfl) (by kernel_rfl) (by kernel_rfl) (fun _ _ _ h => h) rfl BD.out ?_
            simp only [Act.put, List.setIfInBounds_toArray, List.set_cons_zero, List.set_cons_succ]
            refine takeSkip (i := 20) (d := 38) rfl (by kernel_rfl) (by kernel_rfl) (by kernel_rfl) (fun _ _ _ h => h) rfl BD.out ?_
            simp only [Act.put, List.setIfInBounds_toArray, List.set_cons_zero, List.set_cons_succ]
            refine takeSkip (i := 21) (d := 39) rfl (by kernel_rfl) (by kernel_rfl) (by kernel_rfl) (fun _ _ _ h => h) rfl BD.out ?_
            simp only [Act.put, List.setIfInBounds_toArray, List.set_cons_zero, List.set_cons_succ]
            refine takeSkip (i := 22) (d := 40) rfl (by kernel_rfl) (by kernel_rfl) (by kernel_rfl) (fun _ _ _ h => h) rfl BD.out ?_
            simp only [Act.put, List.setIfInBounds_toArray, List.set_cons_zero, List.set_cons_succ]
            refine takeSkip (i := 23) (d := 41) rfl (by kernel_rfl) (by kernel_rfl) (by kernel_rfl) (fun _ _ _ h => h) rfl BD.out ?_
            simp only [Act.put, List.setIfInBounds_toArray, List.set_cons_zero, List.set_cons_succ]
            refine takeSkip (i := 24) (d := 42) rfl (by kernel_rfl) (by kernel_rfl) (by kernel_rfl) (fun _ _ _ h => h) rfl BD.out ?_
            simp only [Act.put, List.setIfInBounds_toArray, List.set_cons_zero, List.set_cons_succ]
            refine takeSkip (i := 25) (d := 43) rfl (by kernel_rfl) (by kernel_rfl) (by kernel_rfl) (fun _ _ _ h => h) rfl BD.out ?_
            simp only [Act.put, List.setIfInBounds_toArray, List.set_cons_zero, List.set_cons_succ]
            refine takeSkip (i := 26) (d := 44) rfl (by kernel_rfl) (by kernel_rfl) (by kernel_rfl) (fun _ _ _ h => h) rfl BD.out ?_
            simp only [Act.put, List.setIfInBounds_toArray, List.set_cons_zero, List.set_cons_succ]
            refine takeSkip (i := 27) (d := 45) rfl (by kernel_rfl) (by kernel_rfl) (by kernel_rfl) (fun _ _ _ h => h) rfl BD.out ?_
            simp only [Act.put, List.setIfInBounds_toArray, List.set_cons_zero, List.set_cons_succ]
            refine takeV (i := 28) (d := 46) (v := .bool false) rfl (by kernel_rfl) (by kernel_rfl) (by kernel_rfl) (fun _ _ _ h => h) rfl (fun _ _ => exPickF (v := .bool false) rfl rfl) BD.out ?_
            simp only [Act.put, List.setIfInBounds_toArray, List.set_cons_zero, List.set_cons_succ]
            refine takeV (i := 29) (d := 5) (v := .bool false) rfl (by kernel_rfl) (by kernel_rfl) (by kernel_rfl) (fun _ _ _ h => h) rfl (fun _ _ => exAssign (v := .bool false) rfl) BD.out ?_
            simp only [Act.put, List.setIfInBounds_toArray, List.set_cons_zero, List.set_cons_succ]
            refine wpAnyH_done (by kernel_rfl) ?_ _
            have BE := Lib.hid (B.out.trans (BD.out.mono B.out.size))
            clear BD
            go_wp2_with fail
            go_roundw
            case rel => exact ⟨k + 1, by omega, by go_num, by rw [FN.out], BE.out⟩
            case measure => simp [intOf]; omega
          · cases sm
            · cases gi
              · cases gk
                · replace FN : Hid (firstK x l (k + 1) = false) := by rw [Hid, FN.out]; rfl
                  try go_frame
                  refine wp_region_held (S := fun w' => Below wr.heap.size wr w') mixedS ?_
                  change wpAnyH _ _ _ _ _ _ _ _ wr.drew
                  have BD : Hid (Below wr.heap.size wr wr.drew) := (Below.refl _ _).drew
                  generalize wr.drew = wd at *
                  simp only [List.size_toArray, List.length_cons, List.length_nil]
                  refine takeV (i := 0) (d := 18) (v := .bool true) rfl (by kernel_rfl) (by kernel_rfl) (by kernel_rfl) (fun _ _ _ h => h) rfl (fun _ _ => exMove (v := .bool true) rfl) BD.out ?_
                  simp only [Act.put, List.setIfInBounds_toArray, List.set_cons_zero, List.set_cons_succ]
                  refine takeV (i := 1) (d := 19) (v := .bool true) rfl (by kernel_rfl) (by kernel_rfl) (by kernel_rfl) (fun _ _ _ h => h) rfl (fun _ _ => exMove (v := .bool true) rfl) BD.out ?_
                  simp only [Act.put, List.setIfInBounds_toArray, List.set_cons_zero, List.set_cons_succ]
                  refine takeV (i := 2) (d := 20) (v := .slice (some ⟨b, o, none⟩) n c) rfl (by kernel_rfl) (by kernel_rfl) (by kernel_rfl) (fun _ _ _ h => h) rfl (fun _ _ => exMove (v := .slice (some ⟨b, o, none⟩) n c) rfl) BD.out ?_
                  simp only [Act.put, List.setIfInBounds_toArray, List.set_cons_zero, List.set_cons_succ]
                  refine takeV (i := 3) (d := 21) (v := .int .i64 ((i : Nat) : Int)) rfl (by kernel_rfl) (by kernel_rfl) (by kernel_rfl) (fun _ _ _ h => h) rfl (fun _ _ => exMove (v := .int .i64 ((i : Nat) : Int)) rfl) BD.out ?_
                  simp only [Act.put, List.setIfInBounds_toArray, List.set_cons_zero, List.set_cons_succ]
                  refine takeV (i := 4) (d := 22) (v := .pointer (some ⟨b, o + i * 4, none⟩)) rfl (by kernel_rfl) (by kernel_rfl) (by kernel_rfl) (fun _ _ _ h => h) rfl (fun w' _ => exIndex rfl rfl (HIi.out w')) BD.out ?_
                  simp only [Act.put, List.setIfInBounds_toArray, List.set_cons_zero, List.set_cons_succ]
                  refine takeV (i := 5) (d := 23) (v := .agg (patC x.1 A1 x.2.1.length c1 A2 x.2.2.length c2).toArray) rfl (by kernel_rfl) (by kernel_rfl) (by kernel_rfl) (fun _ _ _ h => h) rfl (fun w' h => exMid rfl (RX.out w' h) underPat rfl infoPat) BD.out ?_
                  simp only [Act.put, List.setIfInBounds_toArray, List.set_cons_zero, List.set_cons_succ]
                  refine takeV (i := 6) (d := 24) (v := .slice (some ⟨b, o, none⟩) n c) rfl (by kernel_rfl) (by kernel_rfl) (by kernel_rfl) (fun _ _ _ h => h) rfl (fun _ _ => exMove (v := .slice (some ⟨b, o, none⟩) n c) rfl) BD.out ?_
                  simp only [Act.put, List.setIfInBounds_toArray, List.set_cons_zero, List.set_cons_succ]
                  refine takeV (i := 7) (d := 25) (v := .int .i64 ((k : Nat) : Int)) rfl (by kernel_rfl) (by kernel_rfl) (by kernel_rfl) (fun _ _ _ h => h) rfl (fun _ _ => exMove (v := .int .i64 ((k : Nat) : Int)) rfl) BD.out ?_
                  simp only [Act.put, List.setIfInBounds_toArray, List.set_cons_zero, List.set_cons_succ]
                  refine takeV (i := 8) (d := 26) (v := .pointer (some ⟨b, o + k * 4, none⟩)) rfl (by kernel_rfl) (by kernel_rfl) (by kernel_rfl) (fun _ _ _ h => h) rfl (fun w' _ => exIndex rfl rfl (HIk.out w')) BD.out ?_
                  simp only [Act.put, List.setIfInBounds_toArray, List.set_cons_zero, List.set_cons_succ]
                  refine takeV (i := 9) (d := 27) (v := .agg (patC q.1 A3 q.2.1.length c3 A4 q.2.2.length c4).toArray) rfl (by kernel_rfl) (by kernel_rfl) (by kernel_rfl) (fun _ _ _ h => h) rfl (fun w' h => exMid rfl (RQ.out w' h) underPat rfl infoPat) BD.out ?_
                  simp only [Act.put, List.setIfInBounds_toArray, List.set_cons_zero, List.set_cons_succ]
                  refine wpAnyH_all (rs := [10]) (by kernel_rfl) (by simp) ?_
                  intro i hi
                  simp only [List.mem_cons, List.not_mem_nil, or_false] at hi
                  subst hi
                  refine wpOp_of rfl rfl (wp_called (args := #[.agg (patC x.1 A1 x.2.1.length c1 A2 x.2.2.length c2).toArray, .agg (patC q.1 A3 q.2.1.length c3 A4 q.2.2.length c4).toArray]) hcS (by simp only [List.map_toArray, List.map_cons, List.map_nil]; rfl) (HS.out wd BD.out) ?_)
                  rintro e w_1 ⟨rfl, h_2⟩
                  refine ⟨_, rfl, ext_trans BD.out h_2, ?_⟩
                  simp only [Act.put, List.setIfInBounds_toArray, List.set_cons_zero, List.set_cons_succ]
                  have B_3 := Lib.hid (ext_trans BD.out h_2)
                  clear BD
                  clear h_2
                  refine takeV (i := 11) (d := 29) (v := .bool false) rfl (by kernel_rfl) (by kernel_rfl) (by kernel_rfl) (fun _ _ _ h => h) rfl (fun _ _ => exMove (v := .bool false) rfl) B_3.out ?_
                  simp only [Act.put, List.setIfInBounds_toArray, List.set_cons_zero, List.set_cons_succ]
                  refine takeV (i := 12) (d := 30) (v := .slice (some ⟨b, o, none⟩) n c) rfl (by kernel_rfl) (by kernel_rfl) (by kernel_rfl) (fun _ _ _ h => h) rfl (fun _ _ => exMove (v := .slice (some ⟨b, o, none⟩) n c) rfl) B_3.out ?_
                  simp only [Act.put, List.setIfInBounds_toArray, List.set_cons_zero, List.set_cons_succ]
                  refine takeV (i := 13) (d := 31) (v := .int .i64 ((i : Nat) : Int)) rfl (by kernel_rfl) (by kernel_rfl) (by kernel_rfl) (fun _ _ _ h => h) rfl (fun _ _ => exMove (v := .int .i64 ((i : Nat) : Int)) rfl) B_3.out ?_
                  simp only [Act.put, List.setIfInBounds_toArray, List.set_cons_zero, List.set_cons_succ]
                  refine takeV (i := 14) (d := 32) (v := .pointer (some ⟨b, o + i * 4, none⟩)) rfl (by kernel_rfl) (by kernel_rfl) (by kernel_rfl) (fun _ _ _ h => h) rfl (fun w' _ => exIndex rfl rfl (HIi.out w')) B_3.out ?_
                  simp only [Act.put, List.setIfInBounds_toArray, List.set_cons_zero, List.set_cons_succ]
                  refine takeV (i := 15) (d := 33) (v := .agg (patC x.1 A1 x.2.1.length c1 A2 x.2.2.length c2).toArray) rfl (by kernel_rfl) (by kernel_rfl) (by kernel_rfl) (fun _ _ _ h => h) rfl (fun w' h => exMid rfl (RX.out w' h) underPat rfl infoPat) B_3.out ?_
                  simp only [Act.put, List.setIfInBounds_toArray, List.set_cons_zero, List.set_cons_succ]
                  refine wpAnyH_all (rs := [16]) (by kernel_rfl) (by simp) ?_
                  intro i hi
                  simp only [List.mem_cons, List.not_mem_nil, or_false] at hi
                  subst hi
                  refine wpOp_of rfl rfl (wp_called (args := #[.agg (patC x.1 A1 x.2.1.length c1 A2 x.2.2.length c2).toArray]) hcG (by simp only [List.map_toArray, List.map_cons, List.map_nil]; rfl) (HGi.out w_1 B_3.out) ?_)
                  rintro e w_4 ⟨rfl, h_5⟩
                  refine ⟨_, rfl, ext_trans B_3.out h_5, ?_⟩
                  simp only [Act.put, List.setIfInBounds_toArray, List.set_cons_zero, List.set_cons_succ]
                  have B_6 := Lib.hid (ext_trans B_3.out h_5)
                  clear B_3
                  clear h_5
                  refine takeV (i := 17) (d := 35) (v := .bool true) rfl (by kernel_rfl) (by kernel_rfl) (by kernel_rfl) (fun _ _ _ h => h) rfl (fun _ _ => exNot (b := false) rfl) B_6.out ?_
                  simp only [Act.put, List.setIfInBounds_toArray, List.set_cons_zero, List.set_cons_succ]
                  refine takeV (i := 18) (d := 36) (v := .bool true) rfl (by kernel_rfl) (by kernel_rfl) (by kernel_rfl) (fun _ _ _ h => h) rfl (fun _ _ => exMove (v := .bool true) rfl) B_6.out ?_
                  simp only [Act.put, List.setIfInBounds_toArray, List.set_cons_zero, List.set_cons_succ]
                  refine takeV (i := 19) (d := 37) (v := .slice (some ⟨b, o, none⟩) n c) rfl (by kernel_rfl) (by kernel_rfl) (by kernel_rfl) (fun _ _ _ h => h) rfl (fun _ _ => exMove (v := .slice (some ⟨b, o, none⟩) n c) rfl) B_6.out ?_
                  simp only [Act.put, List.setIfInBounds_toArray, List.set_cons_zero, List.set_cons_succ]
                  refine takeV (i := 20) (d := 38) (v := .int .i64 ((k : Nat) : Int)) rfl (by kernel_rfl) (by kernel_rfl) (by kernel_rfl) (fun _ _ _ h => h) rfl (fun _ _ => exMove (v := .int .i64 ((k : Nat) : Int)) rfl) B_6.out ?_
                  simp only [Act.put, List.setIfInBounds_toArray, List.set_cons_zero, List.set_cons_succ]
                  refine takeV (i := 21) (d := 39) (v := .pointer (some ⟨b, o + k * 4, none⟩)) rfl (by kernel_rfl) (by kernel_rfl) (by kernel_rfl) (fun _ _ _ h => h) rfl (fun w' _ => exIndex rfl rfl (HIk.out w')) B_6.out ?_
                  simp only [Act.put, List.setIfInBounds_toArray, List.set_cons_zero, List.set_cons_succ]
                  refine takeV (i := 22) (d := 40) (v := .agg (patC q.1 A3 q.2.1.length c3 A4 q.2.2.length c4).toArray) rfl (by kernel_rfl) (by kernel_rfl) (by kernel_rfl) (fun _ _ _ h => h) rfl (fun w' h => exMid rfl (RQ.out w' h) underPat rfl infoPat) B_6.out ?_
                  simp only [Act.put, List.setIfInBounds_toArray, List.set_cons_zero, List.set_cons_succ]
                  refine wpAnyH_all (rs := [23]) (by kernel_rfl) (by simp) ?_
                  intro i hi
                  simp only [List.mem_cons, List.not_mem_nil, or_false] at hi
                  subst hi
                  refine wpOp_of rfl rfl (wp_called (args := #[.agg (patC q.1 A3 q.2.1.length c3 A4 q.2.2.length c4).toArray]) hcG (by simp only [List.map_toArray, List.map_cons, List.map_nil]; rfl) (HGk.out w_4 B_6.out) ?_)
                  rintro e w_7 ⟨rfl, h_8⟩
                  refine ⟨_, rfl, ext_trans B_6.out h_8, ?_⟩
                  simp only [Act.put, List.setIfInBounds_toArray, List.set_cons_zero, List.set_cons_succ]
                  have B_9 := Lib.hid (ext_trans B_6.out h_8)
                  clear B_6
                  clear h_8
                  refine takeV (i := 24) (d := 42) (v := .bool true) rfl (by kernel_rfl) (by kernel_rfl) (by kernel_rfl) (fun _ _ _ h => h) rfl (fun _ _ => exNot (b := false) rfl) B_9.out ?_
                  simp only [Act.put, List.setIfInBounds_toArray, List.set_cons_zero, List.set_cons_succ]
                  refine takeV (i := 25) (d := 43) (v := .bool true) rfl (by kernel_rfl) (by kernel_rfl) (by kernel_rfl) (fun _ _ _ h => h) rfl (fun _ _ => exPickT (v := .bool true) rfl rfl) B_9.out ?_
                  simp only [Act.put, List.setIfInBounds_toArray, List.set_cons_zero, List.set_cons_succ]
                  refine takeV (i := 26) (d := 44) (v := .bool true) rfl (by kernel_rfl) (by kernel_rfl) (by kernel_rfl) (fun _ _ _ h => h) rfl (fun _ _ => exPickF (v := .bool true) rfl rfl) B_9.out ?_
                  simp only [Act.put, List.setIfInBounds_toArray, List.set_cons_zero, List.set_cons_succ]
                  refine takeV (i := 27) (d := 45) (v := .bool false) rfl (by kernel_rfl) (by kernel_rfl) (by kernel_rfl) (fun _ _ _ h => h) rfl (fun _ _ => exNot (b := true) rfl) B_9.out ?_
                  simp only [Act.put, List.setIfInBounds_toArray, List.set_cons_zero, List.set_cons_succ]
                  refine takeV (i := 28) (d := 46) (v := .bool false) rfl (by kernel_rfl) (by kernel_rfl) (by kernel_rfl) (fun _ _ _ h => h) rfl (fun _ _ => exPickT (v := .bool false) rfl rfl) B_9.out ?_
                  simp only [Act.put, List.setIfInBounds_toArray, List.set_cons_zero, List.set_cons_succ]
                  refine takeV (i := 29) (d := 5) (v := .bool false) rfl (by kernel_rfl) (by kernel_rfl) (by kernel_rfl) (fun _ _ _ h => h) rfl (fun _ _ => exAssign (v := .bool false) rfl) B_9.out ?_
                  simp only [Act.put, List.setIfInBounds_toArray, List.set_cons_zero, List.set_cons_succ]
                  refine wpAnyH_done (by kernel_rfl) ?_ _
                  have BE := Lib.hid (B.out.trans (B_9.out.mono B.out.size))
                  clear B_9
                  go_wp2_with fail
                  go_roundw
                  case rel => exact ⟨k + 1, by omega, by go_num, by rw [FN.out], BE.out⟩
                  case measure => simp [intOf]; omega
                · replace FN : Hid (firstK x l (k + 1) = true) := by rw [Hid, FN.out]; rfl
                  try go_frame
                  refine wp_region_held (S := fun w' => Below wr.heap.size wr w') mixedS ?_
                  change wpAnyH _ _ _ _ _ _ _ _ wr.drew
                  have BD : Hid (Below wr.heap.size wr wr.drew) := (Below.refl _ _).drew
                  generalize wr.drew = wd at *
                  simp only [List.size_toArray, List.length_cons, List.length_nil]
                  refine takeV (i := 0) (d := 18) (v := .bool true) rfl (by kernel_rfl) (by kernel_rfl) (by kernel_rfl) (fun _ _ _ h => h) rfl (fun _ _ => exMove (v := .bool true) rfl) BD.out ?_
                  simp only [Act.put, List.setIfInBounds_toArray, List.set_cons_zero, List.set_cons_succ]
                  refine takeV (i := 1) (d := 19) (v := .bool true) rfl (by kernel_rfl) (by kernel_rfl) (by kernel_rfl) (fun _ _ _ h => h) rfl (fun _ _ => exMove (v := .bool true) rfl) BD.out ?_
                  simp only [Act.put, List.setIfInBounds_toArray, List.set_cons_zero, List.set_cons_succ]
                  refine takeV (i := 2) (d := 20) (v := .slice (some ⟨b, o, none⟩) n c) rfl (by kernel_rfl) (by kernel_rfl) (by kernel_rfl) (fun _ _ _ h => h) rfl (fun _ _ => exMove (v := .slice (some ⟨b, o, none⟩) n c) rfl) BD.out ?_
                  simp only [Act.put, List.setIfInBounds_toArray, List.set_cons_zero, List.set_cons_succ]
                  refine takeV (i := 3) (d := 21) (v := .int .i64 ((i : Nat) : Int)) rfl (by kernel_rfl) (by kernel_rfl) (by kernel_rfl) (fun _ _ _ h => h) rfl (fun _ _ => exMove (v := .int .i64 ((i : Nat) : Int)) rfl) BD.out ?_
                  simp only [Act.put, List.setIfInBounds_toArray, List.set_cons_zero, List.set_cons_succ]
                  refine takeV (i := 4) (d := 22) (v := .pointer (some ⟨b, o + i * 4, none⟩)) rfl (by kernel_rfl) (by kernel_rfl) (by kernel_rfl) (fun _ _ _ h => h) rfl (fun w' _ => exIndex rfl rfl (HIi.out w')) BD.out ?_
                  simp only [Act.put, List.setIfInBounds_toArray, List.set_cons_zero, List.set_cons_succ]
                  refine takeV (i := 5) (d := 23) (v := .agg (patC x.1 A1 x.2.1.length c1 A2 x.2.2.length c2).toArray) rfl (by kernel_rfl) (by kernel_rfl) (by kernel_rfl) (fun _ _ _ h => h) rfl (fun w' h => exMid rfl (RX.out w' h) underPat rfl infoPat) BD.out ?_
                  simp only [Act.put, List.setIfInBounds_toArray, List.set_cons_zero, List.set_cons_succ]
                  refine takeV (i := 6) (d := 24) (v := .slice (some ⟨b, o, none⟩) n c) rfl (by kernel_rfl) (by kernel_rfl) (by kernel_rfl) (fun _ _ _ h => h) rfl (fun _ _ => exMove (v := .slice (some ⟨b, o, none⟩) n c) rfl) BD.out ?_
                  simp only [Act.put, List.setIfInBounds_toArray, List.set_cons_zero, List.set_cons_succ]
                  refine takeV (i := 7) (d := 25) (v := .int .i64 ((k : Nat) : Int)) rfl (by kernel_rfl) (by kernel_rfl) (by kernel_rfl) (fun _ _ _ h => h) rfl (fun _ _ => exMove (v := .int .i64 ((k : Nat) : Int)) rfl) BD.out ?_
                  simp only [Act.put, List.setIfInBounds_toArray, List.set_cons_zero, List.set_cons_succ]
                  refine takeV (i := 8) (d := 26) (v := .pointer (some ⟨b, o + k * 4, none⟩)) rfl (by kernel_rfl) (by kernel_rfl) (by kernel_rfl) (fun _ _ _ h => h) rfl (fun w' _ => exIndex rfl rfl (HIk.out w')) BD.out ?_
                  simp only [Act.put, List.setIfInBounds_toArray, List.set_cons_zero, List.set_cons_succ]
                  refine takeV (i := 9) (d := 27) (v := .agg (patC q.1 A3 q.2.1.length c3 A4 q.2.2.length c4).toArray) rfl (by kernel_rfl) (by kernel_rfl) (by kernel_rfl) (fun _ _ _ h => h) rfl (fun w' h => exMid rfl (RQ.out w' h) underPat rfl infoPat) BD.out ?_
                  simp only [Act.put, List.setIfInBounds_toArray, List.set_cons_zero, List.set_cons_succ]
                  refine wpAnyH_all (rs := [10]) (by kernel_rfl) (by simp) ?_
                  intro i hi
                  simp only [List.mem_cons, List.not_mem_nil, or_false] at hi
                  subst hi
                  refine wpOp_of rfl rfl (wp_called (args := #[.agg (patC x.1 A1 x.2.1.length c1 A2 x.2.2.length c2).toArray, .agg (patC q.1 A3 q.2.1.length c3 A4 q.2.2.length c4).toArray]) hcS (by simp only [List.map_toArray, List.map_cons, List.map_nil]; rfl) (HS.out wd BD.out) ?_)
                  rintro e w_1 ⟨rfl, h_2⟩
                  refine ⟨_, rfl, ext_trans BD.out h_2, ?_⟩
                  simp only [Act.put, List.setIfInBounds_toArray, List.set_cons_zero, List.set_cons_succ]
                  have B_3 := Lib.hid (ext_trans BD.out h_2)
                  clear BD
                  clear h_2
                  refine takeV (i := 11) (d := 29) (v := .bool false) rfl (by kernel_rfl) (by kernel_rfl) (by kernel_rfl) (fun _ _ _ h => h) rfl (fun _ _ => exMove (v := .bool false) rfl) B_3.out ?_
                  simp only [Act.put, List.setIfInBounds_toArray, List.set_cons_zero, List.set_cons_succ]
                  refine takeV (i := 12) (d := 30) (v := .slice (some ⟨b, o, none⟩) n c) rfl (by kernel_rfl) (by kernel_rfl) (by kernel_rfl) (fun _ _ _ h => h) rfl (fun _ _ => exMove (v := .slice (some ⟨b, o, none⟩) n c) rfl) B_3.out ?_
                  simp only [Act.put, List.setIfInBounds_toArray, List.set_cons_zero, List.set_cons_succ]
                  refine takeV (i := 13) (d := 31) (v := .int .i64 ((i : Nat) : Int)) rfl (by kernel_rfl) (by kernel_rfl) (by kernel_rfl) (fun _ _ _ h => h) rfl (fun _ _ => exMove (v := .int .i64 ((i : Nat) : Int)) rfl) B_3.out ?_
                  simp only [Act.put, List.setIfInBounds_toArray, List.set_cons_zero, List.set_cons_succ]
                  refine takeV (i := 14) (d := 32) (v := .pointer (some ⟨b, o + i * 4, none⟩)) rfl (by kernel_rfl) (by kernel_rfl) (by kernel_rfl) (fun _ _ _ h => h) rfl (fun w' _ => exIndex rfl rfl (HIi.out w')) B_3.out ?_
                  simp only [Act.put, List.setIfInBounds_toArray, List.set_cons_zero, List.set_cons_succ]
                  refine takeV (i := 15) (d := 33) (v := .agg (patC x.1 A1 x.2.1.length c1 A2 x.2.2.length c2).toArray) rfl (by kernel_rfl) (by kernel_rfl) (by kernel_rfl) (fun _ _ _ h => h) rfl (fun w' h => exMid rfl (RX.out w' h) underPat rfl infoPat) B_3.out ?_
                  simp only [Act.put, List.setIfInBounds_toArray, List.set_cons_zero, List.set_cons_succ]
                  refine wpAnyH_all (rs := [16]) (by kernel_rfl) (by simp) ?_
                  intro i hi
                  simp only [List.mem_cons, List.not_mem_nil, or_false] at hi
                  subst hi
                  refine wpOp_of rfl rfl (wp_called (args := #[.agg (patC x.1 A1 x.2.1.length c1 A2 x.2.2.length c2).toArray]) hcG (by simp only [List.map_toArray, List.map_cons, List.map_nil]; rfl) (HGi.out w_1 B_3.out) ?_)
                  rintro e w_4 ⟨rfl, h_5⟩
                  refine ⟨_, rfl, ext_trans B_3.out h_5, ?_⟩
                  simp only [Act.put, List.setIfInBounds_toArray, List.set_cons_zero, List.set_cons_succ]
                  have B_6 := Lib.hid (ext_trans B_3.out h_5)
                  clear B_3
                  clear h_5
                  refine takeV (i := 17) (d := 35) (v := .bool true) rfl (by kernel_rfl) (by kernel_rfl) (by kernel_rfl) (fun _ _ _ h => h) rfl (fun _ _ => exNot (b := false) rfl) B_6.out ?_
                  simp only [Act.put, List.setIfInBounds_toArray, List.set_cons_zero, List.set_cons_succ]
                  refine takeV (i := 18) (d := 36) (v := .bool true) rfl (by kernel_rfl) (by kernel_rfl) (by kernel_rfl) (fun _ _ _ h => h) rfl (fun _ _ => exMove (v := .bool true) rfl) B_6.out ?_
                  simp only [Act.put, List.setIfInBounds_toArray, List.set_cons_zero, List.set_cons_succ]
                  refine takeV (i := 19) (d := 37) (v := .slice (some ⟨b, o, none⟩) n c) rfl (by kernel_rfl) (by kernel_rfl) (by kernel_rfl) (fun _ _ _ h => h) rfl (fun _ _ => exMove (v := .slice (some ⟨b, o, none⟩) n c) rfl) B_6.out ?_
                  simp only [Act.put, List.setIfInBounds_toArray, List.set_cons_zero, List.set_cons_succ]
                  refine takeV (i := 20) (d := 38) (v := .int .i64 ((k : Nat) : Int)) rfl (by kernel_rfl) (by kernel_rfl) (by kernel_rfl) (fun _ _ _ h => h) rfl (fun _ _ => exMove (v := .int .i64 ((k : Nat) : Int)) rfl) B_6.out ?_
                  simp only [Act.put, List.setIfInBounds_toArray, List.set_cons_zero, List.set_cons_succ]
                  refine takeV (i := 21) (d := 39) (v := .pointer (some ⟨b, o + k * 4, none⟩)) rfl (by kernel_rfl) (by kernel_rfl) (by kernel_rfl) (fun _ _ _ h => h) rfl (fun w' _ => exIndex rfl rfl (HIk.out w')) B_6.out ?_
                  simp only [Act.put, List.setIfInBounds_toArray, List.set_cons_zero, List.set_cons_succ]
                  refine takeV (i := 22) (d := 40) (v := .agg (patC q.1 A3 q.2.1.length c3 A4 q.2.2.length c4).toArray) rfl (by kernel_rfl) (by kernel_rfl) (by kernel_rfl) (fun _ _ _ h => h) rfl (fun w' h => exMid rfl (RQ.out w' h) underPat rfl infoPat) B_6.out ?_
                  simp only [Act.put, List.setIfInBounds_toArray, List.set_cons_zero, List.set_cons_succ]
                  refine wpAnyH_all (rs := [23]) (by kernel_rfl) (by simp) ?_
                  intro i hi
                  simp only [List.mem_cons, List.not_mem_nil, or_false] at hi
                  subst hi
                  refine wpOp_of rfl rfl (wp_called (args := #[.agg (patC q.1 A3 q.2.1.length c3 A4 q.2.2.length c4).toArray]) hcG (by simp only [List.map_toArray, List.map_cons, List.map_nil]; rfl) (HGk.out w_4 B_6.out) ?_)
                  rintro e w_7 ⟨rfl, h_8⟩
                  refine ⟨_, rfl, ext_trans B_6.out h_8, ?_⟩
                  simp only [Act.put, List.setIfInBounds_toArray, List.set_cons_zero, List.set_cons_succ]
                  have B_9 := Lib.hid (ext_trans B_6.out h_8)
                  clear B_6
                  clear h_8
                  refine takeV (i := 24) (d := 42) (v := .bool false) rfl (by kernel_rfl) (by kernel_rfl) (by kernel_rfl) (fun _ _ _ h => h) rfl (fun _ _ => exNot (b := true) rfl) B_9.out ?_
                  simp only [Act.put, List.setIfInBounds_toArray, List.set_cons_zero, List.set_cons_succ]
                  refine takeV (i := 25) (d := 43) (v := .bool false) rfl (by kernel_rfl) (by kernel_rfl) (by kernel_rfl) (fun _ _ _ h => h) rfl (fun _ _ => exPickT (v := .bool false) rfl rfl) B_9.out ?_
                  simp only [Act.put, List.setIfInBounds_toArray, List.set_cons_zero, List.set_cons_succ]
                  refine takeV (i := 26) (d := 44) (v := .bool false) rfl (by kernel_rfl) (by kernel_rfl) (by kernel_rfl) (fun _ _ _ h => h) rfl (fun _ _ => exPickF (v := .bool false) rfl rfl) B_9.out ?_
                  simp only [Act.put, List.setIfInBounds_toArray, List.set_cons_zero, List.set_cons_succ]
                  refine takeV (i := 27) (d := 45) (v := .bool true) rfl (by kernel_rfl) (by kernel_rfl) (by kernel_rfl) (fun _ _ _ h => h) rfl (fun _ _ => exNot (b := false) rfl) B_9.out ?_
                  simp only [Act.put, List.setIfInBounds_toArray, List.set_cons_zero, List.set_cons_succ]
                  refine takeV (i := 28) (d := 46) (v := .bool true) rfl (by kernel_rfl) (by kernel_rfl) (by kernel_rfl) (fun _ _ _ h => h) rfl (fun _ _ => exPickT (v := .bool true) rfl rfl) B_9.out ?_
                  simp only [Act.put, List.setIfInBounds_toArray, List.set_cons_zero, List.set_cons_succ]
                  refine takeV (i := 29) (d := 5) (v := .bool true) rfl (by kernel_rfl) (by kernel_rfl) (by kernel_rfl) (fun _ _ _ h => h) rfl (fun _ _ => exAssign (v := .bool true) rfl) B_9.out ?_
                  simp only [Act.put, List.setIfInBounds_toArray, List.set_cons_zero, List.set_cons_succ]
                  refine wpAnyH_done (by kernel_rfl) ?_ _
                  have BE := Lib.hid (B.out.trans (B_9.out.mono B.out.size))
                  clear B_9
                  go_wp2_with fail
                  go_roundw
                  case rel => exact ⟨k + 1, by omega, by go_num, by rw [FN.out], BE.out⟩
                  case measure => simp [intOf]; omega
              · replace FN : Hid (firstK x l (k + 1) = true) := by rw [Hid, FN.out]; rfl
                try go_frame
                refine wp_region_held (S := fun w' => Below wr.heap.size wr w') mixedS ?_
                change wpAnyH _ _ _ _ _ _ _ _ wr.drew
                have BD : Hid (Below wr.heap.size wr wr.drew) := (Below.refl _ _).drew
                generalize wr.drew = wd at *
                simp only [List.size_toArray, List.length_cons, List.length_nil]
                refine takeV (i := 0) (d := 18) (v := .bool true) rfl (by kernel_rfl) (by kernel_rfl) (by kernel_rfl) (fun _ _ _ h => h) rfl (fun _ _ => exMove (v := .bool true) rfl) BD.out ?_
                simp only [Act.put, List.setIfInBounds_toArray, List.set_cons_zero, List.set_cons_succ]
                refine takeV (i := 1) (d := 19) (v := .bool true) rfl (by kernel_rfl) (by kernel_rfl) (by kernel_rfl) (fun _ _ _ h => h) rfl (fun _ _ => exMove (v := .bool true) rfl) BD.out ?_
                simp only [Act.put, List.setIfInBounds_toArray, List.set_cons_zero, List.set_cons_succ]
                refine takeV (i := 2) (d := 20) (v := .slice (some ⟨b, o, none⟩) n c) rfl (by kernel_rfl) (by kernel_rfl) (by kernel_rfl) (fun _ _ _ h => h) rfl (fun _ _ => exMove (v := .slice (some ⟨b, o, none⟩) n c) rfl) BD.out ?_
                simp only [Act.put, List.setIfInBounds_toArray, List.set_cons_zero, List.set_cons_succ]
                refine takeV (i := 3) (d := 21) (v := .int .i64 ((i : Nat) : Int)) rfl (by kernel_rfl) (by kernel_rfl) (by kernel_rfl) (fun _ _ _ h => h) rfl (fun _ _ => exMove (v := .int .i64 ((i : Nat) : Int)) rfl) BD.out ?_
                simp only [Act.put, List.setIfInBounds_toArray, List.set_cons_zero, List.set_cons_succ]
                refine takeV (i := 4) (d := 22) (v := .pointer (some ⟨b, o + i * 4, none⟩)) rfl (by kernel_rfl) (by kernel_rfl) (by kernel_rfl) (fun _ _ _ h => h) rfl (fun w' _ => exIndex rfl rfl (HIi.out w')) BD.out ?_
                simp only [Act.put, List.setIfInBounds_toArray, List.set_cons_zero, List.set_cons_succ]
                refine takeV (i := 5) (d := 23) (v := .agg (patC x.1 A1 x.2.1.length c1 A2 x.2.2.length c2).toArray) rfl (by kernel_rfl) (by kernel_rfl) (by kernel_rfl) (fun _ _ _ h => h) rfl (fun w' h => exMid rfl (RX.out w' h) underPat rfl infoPat) BD.out ?_
                simp only [Act.put, List.setIfInBounds_toArray, List.set_cons_zero, List.set_cons_succ]
                refine takeV (i := 6) (d := 24) (v := .slice (some ⟨b, o, none⟩) n c) rfl (by kernel_rfl) (by kernel_rfl) (by kernel_rfl) (fun _ _ _ h => h) rfl (fun _ _ => exMove (v := .slice (some ⟨b, o, none⟩) n c) rfl) BD.out ?_
                simp only [Act.put, List.setIfInBounds_toArray, List.set_cons_zero, List.set_cons_succ]
                refine takeV (i := 7) (d := 25) (v := .int .i64 ((k : Nat) : Int)) rfl (by kernel_rfl) (by kernel_rfl) (by kernel_rfl) (fun _ _ _ h => h) rfl (fun _ _ => exMove (v := .int .i64 ((k : Nat) : Int)) rfl) BD.out ?_
                simp only [Act.put, List.setIfInBounds_toArray, List.set_cons_zero, List.set_cons_succ]
                refine takeV (i := 8) (d := 26) (v := .pointer (some ⟨b, o + k * 4, none⟩)) rfl (by kernel_rfl) (by kernel_rfl) (by kernel_rfl) (fun _ _ _ h => h) rfl (fun w' _ => exIndex rfl rfl (HIk.out w')) BD.out ?_
                simp only [Act.put, List.setIfInBounds_toArray, List.set_cons_zero, List.set_cons_succ]
                refine takeV (i := 9) (d := 27) (v := .agg (patC q.1 A3 q.2.1.length c3 A4 q.2.2.length c4).toArray) rfl (by kernel_rfl) (by kernel_rfl) (by kernel_rfl) (fun _ _ _ h => h) rfl (fun w' h => exMid rfl (RQ.out w' h) underPat rfl infoPat) BD.out ?_
                simp only [Act.put, List.setIfInBounds_toArray, List.set_cons_zero, List.set_cons_succ]
                refine wpAnyH_all (rs := [10]) (by kernel_rfl) (by simp) ?_
                intro i hi
                simp only [List.mem_cons, List.not_mem_nil, or_false] at hi
                subst hi
                refine wpOp_of rfl rfl (wp_called (args := #[.agg (patC x.1 A1 x.2.1.length c1 A2 x.2.2.length c2).toArray, .agg (patC q.1 A3 q.2.1.length c3 A4 q.2.2.length c4).toArray]) hcS (by simp only [List.map_toArray, List.map_cons, List.map_nil]; rfl) (HS.out wd BD.out) ?_)
                rintro e w_1 ⟨rfl, h_2⟩
                refine ⟨_, rfl, ext_trans BD.out h_2, ?_⟩
                simp only [Act.put, List.setIfInBounds_toArray, List.set_cons_zero, List.set_cons_succ]
                have B_3 := Lib.hid (ext_trans BD.out h_2)
                clear BD
                clear h_2
                refine takeV (i := 11) (d := 29) (v := .bool false) rfl (by kernel_rfl) (by kernel_rfl) (by kernel_rfl) (fun _ _ _ h => h) rfl (fun _ _ => exMove (v := .bool false) rfl) B_3.out ?_
                simp only [Act.put, List.setIfInBounds_toArray, List.set_cons_zero, List.set_cons_succ]
                refine takeV (i := 12) (d := 30) (v := .slice (some ⟨b, o, none⟩) n c) rfl (by kernel_rfl) (by kernel_rfl) (by kernel_rfl) (fun _ _ _ h => h) rfl (fun _ _ => exMove (v := .slice (some ⟨b, o, none⟩) n c) rfl) B_3.out ?_
                simp only [Act.put, List.setIfInBounds_toArray, List.set_cons_zero, List.set_cons_succ]
                refine takeV (i := 13) (d := 31) (v := .int .i64 ((i : Nat) : Int)) rfl (by kernel_rfl) (by kernel_rfl) (by kernel_rfl) (fun _ _ _ h => h) rfl (fun _ _ => exMove (v := .int .i64 ((i : Nat) : Int)) rfl) B_3.out ?_
                simp only [Act.put, List.setIfInBounds_toArray, List.set_cons_zero, List.set_cons_succ]
                refine takeV (i := 14) (d := 32) (v := .pointer (some ⟨b, o + i * 4, none⟩)) rfl (by kernel_rfl) (by kernel_rfl) (by kernel_rfl) (fun _ _ _ h => h) rfl (fun w' _ => exIndex rfl rfl (HIi.out w')) B_3.out ?_
                simp only [Act.put, List.setIfInBounds_toArray, List.set_cons_zero, List.set_cons_succ]
                refine takeV (i := 15) (d := 33) (v := .agg (patC x.1 A1 x.2.1.length c1 A2 x.2.2.length c2).toArray) rfl (by kernel_rfl) (by kernel_rfl) (by kernel_rfl) (fun _ _ _ h => h) rfl (fun w' h => exMid rfl (RX.out w' h) underPat rfl infoPat) B_3.out ?_
                simp only [Act.put, List.setIfInBounds_toArray, List.set_cons_zero, List.set_cons_succ]
                refine wpAnyH_all (rs := [16]) (by kernel_rfl) (by simp) ?_
                intro i hi
                simp only [List.mem_cons, List.not_mem_nil, or_false] at hi
                subst hi
                refine wpOp_of rfl rfl (wp_called (args := #[.agg (patC x.1 A1 x.2.1.length c1 A2 x.2.2.length c2).toArray]) hcG (by simp only [List.map_toArray, List.map_cons, List.map_nil]; rfl) (HGi.out w_1 B_3.out) ?_)
                rintro e w_4 ⟨rfl, h_5⟩
                refine ⟨_, rfl, ext_trans B_3.out h_5, ?_⟩
                simp only [Act.put, List.setIfInBounds_toArray, List.set_cons_zero, List.set_cons_succ]
                have B_6 := Lib.hid (ext_trans B_3.out h_5)
                clear B_3
                clear h_5
                refine takeV (i := 17) (d := 35) (v := .bool false) rfl (by kernel_rfl) (by kernel_rfl) (by kernel_rfl) (fun _ _ _ h => h) rfl (fun _ _ => exNot (b := true) rfl) B_6.out ?_
                simp only [Act.put, List.setIfInBounds_toArray, List.set_cons_zero, List.set_cons_succ]
                refine takeV (i := 18) (d := 36) (v := .bool false) rfl (by kernel_rfl) (by kernel_rfl) (by kernel_rfl) (fun _ _ _ h => h) rfl (fun _ _ => exMove (v := .bool false) rfl) B_6.out ?_
                simp only [Act.put, List.setIfInBounds_toArray, List.set_cons_zero, List.set_cons_succ]
                refine takeSkip (i := 19) (d := 37) rfl (by kernel_rfl) (by kernel_rfl) (by kernel_rfl) (fun _ _ _ h => h) rfl B_6.out ?_
                simp only [Act.put, List.setIfInBounds_toArray, List.set_cons_zero, List.set_cons_succ]
                refine takeSkip (i := 20) (d := 38) rfl (by kernel_rfl) (by kernel_rfl) (by kernel_rfl) (fun _ _ _ h => h) rfl B_6.out ?_
                simp only [Act.put, List.setIfInBounds_toArray, List.set_cons_zero, List.set_cons_succ]
                refine takeSkip (i := 21) (d := 39) rfl (by kernel_rfl) (by kernel_rfl) (by kernel_rfl) (fun _ _ _ h => h) rfl B_6.out ?_
                simp only [Act.put, List.setIfInBounds_toArray, List.set_cons_zero, List.set_cons_succ]
                refine takeSkip (i := 22) (d := 40) rfl (by kernel_rfl) (by kernel_rfl) (by kernel_rfl) (fun _ _ _ h => h) rfl B_6.out ?_
                simp only [Act.put, List.setIfInBounds_toArray, List.set_cons_zero, List.set_cons_succ]
                refine takeSkip (i := 23) (d := 41) rfl (by kernel_rfl) (by kernel_rfl) (by kernel_rfl) (fun _ _ _ h => h) rfl B_6.out ?_
                simp only [Act.put, List.setIfInBounds_toArray, List.set_cons_zero, List.set_cons_succ]
                refine takeSkip (i := 24) (d := 42) rfl (by kernel_rfl) (by kernel_rfl) (by kernel_rfl) (fun _ _ _ h => h) rfl B_6.out ?_
                simp only [Act.put, List.setIfInBounds_toArray, List.set_cons_zero, List.set_cons_succ]
                refine takeV (i := 25) (d := 43) (v := .bool false) rfl (by kernel_rfl) (by kernel_rfl) (by kernel_rfl) (fun _ _ _ h => h) rfl (fun _ _ => exPickF (v := .bool false) rfl rfl) B_6.out ?_
                simp only [Act.put, List.setIfInBounds_toArray, List.set_cons_zero, List.set_cons_succ]
                refine takeV (i := 26) (d := 44) (v := .bool false) rfl (by kernel_rfl) (by kernel_rfl) (by kernel_rfl) (fun _ _ _ h => h) rfl (fun _ _ => exPickF (v := .bool false) rfl rfl) B_6.out ?_
                simp only [Act.put, List.setIfInBounds_toArray, List.set_cons_zero, List.set_cons_succ]
                refine takeV (i := 27) (d := 45) (v := .bool true) rfl (by kernel_rfl) (by kernel_rfl) (by kernel_rfl) (fun _ _ _ h => h) rfl (fun _ _ => exNot (b := false) rfl) B_6.out ?_
                simp only [Act.put, List.setIfInBounds_toArray, List.set_cons_zero, List.set_cons_succ]
                refine takeV (i := 28) (d := 46) (v := .bool true) rfl (by kernel_rfl) (by kernel_rfl) (by kernel_rfl) (fun _ _ _ h => h) rfl (fun _ _ => exPickT (v := .bool true) rfl rfl) B_6.out ?_
                simp only [Act.put, List.setIfInBounds_toArray, List.set_cons_zero, List.set_cons_succ]
                refine takeV (i := 29) (d := 5) (v := .bool true) rfl (by kernel_rfl) (by kernel_rfl) (by kernel_rfl) (fun _ _ _ h => h) rfl (fun _ _ => exAssign (v := .bool true) rfl) B_6.out ?_
                simp only [Act.put, List.setIfInBounds_toArray, List.set_cons_zero, List.set_cons_succ]
                refine wpAnyH_done (by kernel_rfl) ?_ _
                have BE := Lib.hid (B.out.trans (B_6.out.mono B.out.size))
                clear B_6
                go_wp2_with fail
                go_roundw
                case rel => exact ⟨k + 1, by omega, by go_num, by rw [FN.out], BE.out⟩
                case measure => simp [intOf]; omega
            · replace FN : Hid (firstK x l (k + 1) = false) := by rw [Hid, FN.out]; rfl
              try go_frame
              refine wp_region_held (S := fun w' => Below wr.heap.size wr w') mixedS ?_
              change wpAnyH _ _ _ _ _ _ _ _ wr.drew
              have BD : Hid (Below wr.heap.size wr wr.drew) := (Below.refl _ _).drew
              generalize wr.drew = wd at *
              simp only [List.size_toArray, List.length_cons, List.length_nil]
              refine takeV (i := 0) (d := 18) (v := .bool true) rfl (by kernel_rfl) (by kernel_rfl) (by kernel_rfl) (fun _ _ _ h => h) rfl (fun _ _ => exMove (v := .bool true) rfl) BD.out ?_
              simp only [Act.put, List.setIfInBounds_toArray, List.set_cons_zero, List.set_cons_succ]
              refine takeV (i := 1) (d := 19) (v := .bool true) rfl (by kernel_rfl) (by kernel_rfl) (by kernel_rfl) (fun _ _ _ h => h) rfl (fun _ _ => exMove (v := .bool true) rfl) BD.out ?_
              simp only [Act.put, List.setIfInBounds_toArray, List.set_cons_zero, List.set_cons_succ]
              refine takeV (i := 2) (d := 20) (v := .slice (some ⟨b, o, none⟩) n c) rfl (by kernel_rfl) (by kernel_rfl) (by kernel_rfl) (fun _ _ _ h => h) rfl (fun _ _ => exMove (v := .slice (some ⟨b, o, none⟩) n c) rfl) BD.out ?_
              simp only [Act.put, List.setIfInBounds_toArray, List.set_cons_zero, List.set_cons_succ]
              refine takeV (i := 3) (d := 21) (v := .int .i64 ((i : Nat) : Int)) rfl (by kernel_rfl) (by kernel_rfl) (by kernel_rfl) (fun _ _ _ h => h) rfl (fun _ _ => exMove (v := .int .i64 ((i : Nat) : Int)) rfl) BD.out ?_
              simp only [Act.put, List.setIfInBounds_toArray, List.set_cons_zero, List.set_cons_succ]
              refine takeV (i := 4) (d := 22) (v := .pointer (some ⟨b, o + i * 4, none⟩)) rfl (by kernel_rfl) (by kernel_rfl) (by kernel_rfl) (fun _ _ _ h => h) rfl (fun w' _ => exIndex rfl rfl (HIi.out w')) BD.out ?_
              simp only [Act.put, List.setIfInBounds_toArray, List.set_cons_zero, List.set_cons_succ]
              refine takeV (i := 5) (d := 23) (v := .agg (patC x.1 A1 x.2.1.length c1 A2 x.2.2.length c2).toArray) rfl (by kernel_rfl) (by kernel_rfl) (by kernel_rfl) (fun _ _ _ h => h) rfl (fun w' h => exMid rfl (RX.out w' h) underPat rfl infoPat) BD.out ?_
              simp only [Act.put, List.setIfInBounds_toArray, List.set_cons_zero, List.set_cons_succ]
              refine takeV (i := 6) (d := 24) (v := .slice (some ⟨b, o, none⟩) n c) rfl (by kernel_rfl) (by kernel_rfl) (by kernel_rfl) (fun _ _ _ h => h) rfl (fun _ _ => exMove (v := .slice (some ⟨b, o, none⟩) n c) rfl) BD.out ?_
              simp only [Act.put, List.setIfInBounds_toArray, List.set_cons_zero, List.set_cons_succ]
              refine takeV (i := 7) (d := 25) (v := .int .i64 ((k : Nat) : Int)) rfl (by kernel_rfl) (by kernel_rfl) (by kernel_rfl) (fun _ _ _ h => h) rfl (fun _ _ => exMove (v := .int .i64 ((k : Nat) : Int)) rfl) BD.out ?_
              simp only [Act.put, List.setIfInBounds_toArray, List.set_cons_zero, List.set_cons_succ]
              refine takeV (i := 8) (d := 26) (v := .pointer (some ⟨b, o + k * 4, none⟩)) rfl (by kernel_rfl) (by kernel_rfl) (by kernel_rfl) (fun _ _ _ h => h) rfl (fun w' _ => exIndex rfl rfl (HIk.out w')) BD.out ?_
              simp only [Act.put, List.setIfInBounds_toArray, List.set_cons_zero, List.set_cons_succ]
              refine takeV (i := 9) (d := 27) (v := .agg (patC q.1 A3 q.2.1.length c3 A4 q.2.2.length c4).toArray) rfl (by kernel_rfl) (by kernel_rfl) (by kernel_rfl) (fun _ _ _ h => h) rfl (fun w' h => exMid rfl (RQ.out w' h) underPat rfl infoPat) BD.out ?_
              simp only [Act.put, List.setIfInBounds_toArray, List.set_cons_zero, List.set_cons_succ]
              refine wpAnyH_all (rs := [10]) (by kernel_rfl) (by simp) ?_
              intro i hi
              simp only [List.mem_cons, List.not_mem_nil, or_false] at hi
              subst hi
              refine wpOp_of rfl rfl (wp_called (args := #[.agg (patC x.1 A1 x.2.1.length c1 A2 x.2.2.length c2).toArray, .agg (patC q.1 A3 q.2.1.length c3 A4 q.2.2.length c4).toArray]) hcS (by simp only [List.map_toArray, List.map_cons, List.map_nil]; rfl) (HS.out wd BD.out) ?_)
              rintro e w_1 ⟨rfl, h_2⟩
              refine ⟨_, rfl, ext_trans BD.out h_2, ?_⟩
              simp only [Act.put, List.setIfInBounds_toArray, List.set_cons_zero, List.set_cons_succ]
              have B_3 := Lib.hid (ext_trans BD.out h_2)
              clear BD
              clear h_2
              refine takeV (i := 11) (d := 29) (v := .bool true) rfl (by kernel_rfl) (by kernel_rfl) (by kernel_rfl) (fun _ _ _ h => h) rfl (fun _ _ => exMove (v := .bool true) rfl) B_3.out ?_
              simp only [Act.put, List.setIfInBounds_toArray, List.set_cons_zero, List.set_cons_succ]
              refine takeSkip (i := 12) (d := 30) rfl (by kernel_rfl) (by kernel_rfl) (by kernel_rfl) (fun _ _ _ h => h) rfl B_3.out ?_
              simp only [Act.put, List.setIfInBounds_toArray, List.set_cons_zero, List.set_cons_succ]
              refine takeSkip (i := 13) (d := 31) rfl (by kernel_rfl) (by kernel_rfl) (by kernel_rfl) (fun _ _ _ h => h) rfl B_3.out ?_
              simp only [Act.put, List.setIfInBounds_toArray, List.set_cons_zero, List.set_cons_succ]
              refine takeSkip (i := 14) (d := 32) rfl (by kernel_rfl) (by kernel_rfl) (by kernel_rfl) (fun _ _ _ h => h) rfl B_3.out ?_
              simp only [Act.put, List.setIfInBounds_toArray, List.set_cons_zero, List.set_cons_succ]
              refine takeSkip (i := 15) (d := 33) rfl (by kernel_rfl) (by kernel_rfl) (by kernel_rfl) (fun _ _ _ h => h) rfl B_3.out ?_
              simp only [Act.put, List.setIfInBounds_toArray, List.set_cons_zero, List.set_cons_succ]
              refine takeSkip (i := 16) (d := 34) rfl (by kernel_rfl) (by kernel_rfl) (by kernel_rfl) (fun _ _ _ h => h) rfl B_3.out ?_
              simp only [Act.put, List.setIfInBounds_toArray, List.set_cons_zero, List.set_cons_succ]
              refine takeSkip (i := 17) (d := 35) rfl (by kernel_rfl) (by kernel_rfl) (by kernel_rfl) (fun _ _ _ h => h) rfl B_3.out ?_
              simp only [Act.put, List.setIfInBounds_toArray, List.set_cons_zero, List.set_cons_succ]
              refine takeSkip (i := 18) (d := 36) rfl (by kernel_rfl) (by kernel_rfl) (by kernel_rfl) (fun _ _ _ h => h) rfl B_3.out ?_
              simp only [Act.put, List.setIfInBounds_toArray, List.set_cons_zero, List.set_cons_succ]
              refine takeSkip (i := 19) (d := 37) rfl (by kernel_rfl) (by kernel_rfl) (by kernel_rfl) (fun _ _ _ h => h) rfl B_3.out ?_
              simp only [Act.put, List.setIfInBounds_toArray, List.set_cons_zero, List.set_cons_succ]
              refine takeSkip (i := 20) (d := 38) rfl (by kernel_rfl) (by kernel_rfl) (by kernel_rfl) (fun _ _ _ h => h) rfl B_3.out ?_
              simp only [Act.put, List.setIfInBounds_toArray, List.set_cons_zero, List.set_cons_succ]
              refine takeSkip (i := 21) (d := 39) rfl (by kernel_rfl) (by kernel_rfl) (by kernel_rfl) (fun _ _ _ h => h) rfl B_3.out ?_
              simp only [Act.put, List.setIfInBounds_toArray, List.set_cons_zero, List.set_cons_succ]
              refine takeSkip (i := 22) (d := 40) rfl (by kernel_rfl) (by kernel_rfl) (by kernel_rfl) (fun _ _ _ h => h) rfl B_3.out ?_
              simp only [Act.put, List.setIfInBounds_toArray, List.set_cons_zero, List.set_cons_succ]
              refine takeSkip (i := 23) (d := 41) rfl (by kernel_rfl) (by kernel_rfl) (by kernel_rfl) (fun _ _ _ h => h) rfl B_3.out ?_
              simp only [Act.put, List.setIfInBounds_toArray, List.set_cons_zero, List.set_cons_succ]
              refine takeSkip (i := 24) (d := 42) rfl (by kernel_rfl) (by kernel_rfl) (by kernel_rfl) (fun _ _ _ h => h) rfl B_3.out ?_
              simp only [Act.put, List.setIfInBounds_toArray, List.set_cons_zero, List.set_cons_succ]
              refine takeSkip (i := 25) (d := 43) rfl (by kernel_rfl) (by kernel_rfl) (by kernel_rfl) (fun _ _ _ h => h) rfl B_3.out ?_
              simp only [Act.put, List.setIfInBounds_toArray, List.set_cons_zero, List.set_cons_succ]
              refine takeV (i := 26) (d := 44) (v := .bool true) rfl (by kernel_rfl) (by kernel_rfl) (by kernel_rfl) (fun _ _ _ h => h) rfl (fun _ _ => exPickT (v := .bool true) rfl rfl) B_3.out ?_
              simp only [Act.put, List.setIfInBounds_toArray, List.set_cons_zero, List.set_cons_succ]
              refine takeV (i := 27) (d := 45) (v := .bool false) rfl (by kernel_rfl) (by kernel_rfl) (by kernel_rfl) (fun _ _ _ h => h) rfl (fun _ _ => exNot (b := true) rfl) B_3.out ?_
              simp only [Act.put, List.setIfInBounds_toArray, List.set_cons_zero, List.set_cons_succ]
              refine takeV (i := 28) (d := 46) (v := .bool false) rfl (by kernel_rfl) (by kernel_rfl) (by kernel_rfl) (fun _ _ _ h => h) rfl (fun _ _ => exPickT (v := .bool false) rfl rfl) B_3.out ?_
              simp only [Act.put, List.setIfInBounds_toArray, List.set_cons_zero, List.set_cons_succ]
              refine takeV (i := 29) (d := 5) (v := .bool false) rfl (by kernel_rfl) (by kernel_rfl) (by kernel_rfl) (fun _ _ _ h => h) rfl (fun _ _ => exAssign (v := .bool false) rfl) B_3.out ?_
              simp only [Act.put, List.setIfInBounds_toArray, List.set_cons_zero, List.set_cons_succ]
              refine wpAnyH_done (by kernel_rfl) ?_ _
              have BE := Lib.hid (B.out.trans (B_3.out.mono B.out.size))
              clear B_3
              go_wp2_with fail
              go_roundw
              case rel => exact ⟨k + 1, by omega, by go_num, by rw [FN.out], BE.out⟩
              case measure => simp [intOf]; omega
        · have hkl : ¬ (k : Int) < (i : Int) := by omega
          obtain rfl : k = i := by omega
          have AD : Hid (cntU l (k + 1) = cntU l k + if firstK x l k = true then 1 else 0) := by
            rw [Hid, cntU, addI, HX.out]
          clear HX RX0 PX0 HIi
          generalize firstK x l k = f0 at *
          cases f0
          · have AE : Hid (cntU l (k + 1) = cntU l k) := AD.out
            go_wp2_with fail
            go_roundw
            case rel => exact ⟨k + 1, by omega, by go_num, by rw [AE.out], B.out⟩
            case measure => simp [intOf]; omega
          · have AE : Hid (cntU l (k + 1) = cntU l k + 1) := AD.out
            go_wp2_with fail
            go_roundw
            case rel => exact ⟨k + 1, by omega, by go_num, by rw [AE.out]; go_num, B.out⟩
            case measure => simp [intOf]; omega
    · have hlk : ¬ (i : Int) < (n : Int) := by omega
      obtain rfl : i = n := by omega
      go_wp2_with fail
      go_ret
      exact ⟨rfl, B0.out⟩
end Go.Proofs.YtihggkmjalofiaaDoor
