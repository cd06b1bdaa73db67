/- Texts of general use, one behind another. -/
import Derived.Test.YtdafiipedlglpaaGreatDoorRgab
import Derived.Test.YtdafiipedlglpaaGreatDoorGrjs
import Derived.Test.YtdafiipedlglpaaGreatDoorIdxn
import Derived.Test.YtdafiipedlglpaaGreatDoorVids
import Derived.Test.YtdafiipedlglpaaGreatDoorPaws
import Derived.Test.YtdafiipedlglpaaGreatDoorSgs

/- The document's graph: an error, the steps, the names: plain laws; no program in sight. -/
namespace Go.Proofs.YtdafiipedlglpaaGreatDoor
open Go.RowKit

theorem hasR20_vec {L : List PatV} (hG : GrOk L) (d : PidV) : hasR20 L d = hasP (vecL L) d := by
  rw [Bool.eq_iff_iff, hG.idx.has]
  unfold hasR20
  rw [List.any_eq_true]
  exact ⟨fun ⟨q, hq, e⟩ => ⟨q, hq, of_decide_eq_true e⟩, fun ⟨q, hq, e⟩ => ⟨q, hq, decide_eq_true e⟩⟩
def isR (A : List PatV) (v : VidV) (k : Nat) : Bool := (vertV A v).isSome && decide ((vertD A v).2.1.val = k)
theorem isR_eq (A : List PatV) (v : VidV) (k : Nat) : isR A v k = kindIs (rawV A) v k := by
  unfold isR vertD vertV kindIs
  cases rawV A v <;> rfl
theorem vertV_raw (A : List PatV) (v : VidV) : (vertV A v).isSome = (rawV A v).isSome := by
  unfold vertV
  cases rawV A v <;> rfl
theorem vertD_file (A : List PatV) (v : VidV) : (vertD A v).2.2.1 = fileF (rawV A) v := by
  unfold vertD vertV fileF
  cases rawV A v <;> rfl
/-- may an operation be, by the vertices that there are? -/
def opR (A : List PatV) (o : OpV) : Bool :=
  if o.1.val ≠ 1 ∧ (vertV A o.2.1).isSome = false then false
  else if (o.1.val = 2 ∨ o.1.val = 3) ∧ (vertD A o.2.1).2.1.val ≠ 1 then false
  else if o.1.val = 4 ∧ (isR A o.2.1 3 = false ∨ isR A o.2.2.1 3 = false ∨ (vertD A o.2.1).2.2.1 ≠ (vertD A o.2.2.1).2.2.1) then false
  else true
theorem opR_ref {A : List PatV} {o : OpV} (h : 1 ≤ o.1.val ∧ o.1.val ≤ 5) : opR A o = refB (rawV A) o := by
  unfold opR refB
  by_cases c2 : o.1.val = 2 ∨ o.1.val = 3
  · rw [if_pos c2, ← isR_eq]
    unfold isR
    cases hs : (vertV A o.2.1).isSome
    · rw [if_pos ⟨by omega, rfl⟩]; rfl
    · rw [if_neg (by simp)]
      by_cases hk : (vertD A o.2.1).2.1.val = 1
      · rw [if_neg (by simp [hk]), if_neg (by omega), decide_eq_true hk]; rfl
      · rw [if_pos ⟨c2, hk⟩, decide_eq_false hk]; rfl
  · rw [if_neg c2]
    by_cases c5 : o.1.val = 5
    · rw [if_pos c5, ← vertV_raw]
      cases hs : (vertV A o.2.1).isSome
      · rw [if_pos ⟨by omega, rfl⟩]
      · rw [if_neg (by simp), if_neg (fun c => c2 c.1), if_neg (by omega)]
    · rw [if_neg c5]
      by_cases c4 : o.1.val = 4
      · rw [if_pos c4, ← isR_eq, ← isR_eq, ← vertD_file, ← vertD_file]
        cases h3 : isR A o.2.1 3
        · by_cases hs : o.1.val ≠ 1 ∧ (vertV A o.2.1).isSome = false
          · rw [if_pos hs]; rfl
          · rw [if_neg hs, if_neg (fun c => c2 c.1), if_pos ⟨c4, .inl rfl⟩]; rfl
        · have hs : (vertV A o.2.1).isSome = true := by unfold isR at h3; rw [Bool.and_eq_true] at h3; exact h3.1
          rw [if_neg (by rw [hs]; simp), if_neg (fun c => c2 c.1)]
          cases h4 : isR A o.2.2.1 3
          · rw [if_pos ⟨c4, .inr (.inl rfl)⟩]; rfl
          · by_cases hf : (vertD A o.2.1).2.2.1 = (vertD A o.2.2.1).2.2.1
            · rw [if_neg (by simp [hf]), decide_eq_true hf]; rfl
            · rw [if_pos ⟨c4, .inr (.inr hf)⟩, decide_eq_false hf]; rfl
      · rw [if_neg c4, if_neg (by omega), if_neg (fun c => c2 c.1), if_neg (fun c => c4 c.1)]
/-- the document's error -/
def refK (L : List PatV) (p : PatV) : Nat :=
  if patB p = true then
    if hasR20 L p.1 = true then 7
    else if nextB (vecL L) p.1 = true then
      if p.2.1.all (hasR20 L) = true then
        if p.2.2.all (opR (L ++ [p])) = true then 0 else 10
      else 9
    else 9
  else 1
theorem refK_eq {L : List PatV} (hG : GrOk L) (p : PatV) : refK L p = grE L p := by
  unfold refK grE
  have e1 : hasR20 L = hasP (vecL L) := funext (hasR20_vec hG)
  rw [e1]
  cases hp : patB p
  · rfl
  · have e2 : p.2.2.all (opR (L ++ [p])) = p.2.2.all (refB (rawV (L ++ [p]))) := by
      rw [Bool.eq_iff_iff, List.all_eq_true, List.all_eq_true]
      have hk : ∀ o ∈ p.2.2, opR (L ++ [p]) o = refB (rawV (L ++ [p])) o := fun o ho => by
        obtain ⟨k, hk⟩ := List.mem_iff_getElem?.1 ho
        exact opR_ref (goodO_kind (oneR_parts ((patB_parts hp).2.2.2 k o hk)).1)
      exact ⟨fun h o ho => (hk o ho).symm.trans (h o ho), fun h o ho => (hk o ho).trans (h o ho)⟩
    rw [e2]
theorem refK_1 {L : List PatV} {p : PatV} (h : patB p = false) : refK L p = 1 := by unfold refK; rw [h]; rfl
theorem refK_7 {L : List PatV} {p : PatV} (h : patB p = true) (h2 : hasR20 L p.1 = true) : refK L p = 7 := by unfold refK; rw [if_pos h, if_pos h2]
theorem refK_9 {L : List PatV} {p : PatV} (h : patB p = true) (h2 : hasR20 L p.1 = false) (h3 : nextB (vecL L) p.1 = false) : refK L p = 9 := by unfold refK; rw [if_pos h, h2, h3]; rfl
theorem refK_9d {L : List PatV} {p : PatV} (h : patB p = true) (h2 : hasR20 L p.1 = false) (h3 : nextB (vecL L) p.1 = true) (h4 : p.2.1.all (hasR20 L) = false) : refK L p = 9 := by unfold refK; rw [if_pos h, h2, h3, h4]; rfl
theorem refK_10 {L : List PatV} {p : PatV} (h : patB p = true) (h2 : hasR20 L p.1 = false) (h3 : nextB (vecL L) p.1 = true) (h4 : p.2.1.all (hasR20 L) = true) (h5 : p.2.2.all (opR (L ++ [p])) = false) : refK L p = 10 := by unfold refK; rw [if_pos h, h2, h3, h4, h5]; rfl
theorem refK_0 {L : List PatV} {p : PatV} (h : patB p = true) (h2 : hasR20 L p.1 = false) (h3 : nextB (vecL L) p.1 = true) (h4 : p.2.1.all (hasR20 L) = true) (h5 : p.2.2.all (opR (L ++ [p])) = true) : refK L p = 0 := by unfold refK; rw [if_pos h, h2, h3, h4, h5]; rfl
section
variable {α : Type} (key : α → Int) [DecidableEq α]
variable {key}
end
end Go.Proofs.YtdafiipedlglpaaGreatDoor

/- The document's graph: is a vertex one of a kind; are two lists the same: walked. -/
namespace Go.Proofs.YtdafiipedlglpaaGreatDoor
open Go.RowKit

set_option maxRecDepth 100000 in
set_option maxHeartbeats 2000000 in
theorem ris20_any (L : List PatV) (w : World) (A : Option Addr) (n c : Nat) (hm : n ≤ maxLen) (h : PatsAt w A n L) (v : VidV) (kd : Nat) :
    Calls Tryz.prog 216 #[.agg #[.slice A n c], .agg (encV v).toArray, .int .u8 (kd : Int)] w (RetB w (.bool (isR L v kd))) := by
  have KG : Hid (Blk ((w.alloc (.cells #[.slice A n c] 182)).alloc (.cells (encV v).toArray 98)) w.heap.size 182 #[.slice A n c]) := (Blk.new _ _ _).alloc _
  have KV : Hid (Blk ((w.alloc (.cells #[.slice A n c] 182)).alloc (.cells (encV v).toArray 98)) (w.heap.size + 1) 98 (encV v).toArray) := Blk.newAt (by simp) _ _
  have B0 : Hid (Below w.heap.size w ((w.alloc (.cells #[.slice A n c] 182)).alloc (.cells (encV v).toArray 98))) := ((Below.refl _ _).alloc (Nat.le_refl _) _).alloc (by simp) _
  have HV := Lib.hid (rvert20_any L ((w.alloc (.cells #[.slice A n c] 182)).alloc (.cells (encV v).toArray 98)) A n c hm (h.ext B0.out) v)
  clear h hm
  go_enter Tryz.func216, Tryz.ntmps216
  go_upto_region 1 with fail
  generalize ((w.alloc (.cells #[.slice A n c] 182)).alloc (.cells (encV v).toArray 98)) = w2 at *
  obtain ⟨gv, hgv⟩ : ∃ g, g = w.heap.size + 1 := ⟨_, rfl⟩
  obtain ⟨gg, hgg⟩ : ∃ g, g = w.heap.size := ⟨_, rfl⟩
  rw [← hgv] at KV ⊢
  rw [← hgg] at KG ⊢
  replace hgv := Lib.hid hgv
  replace hgg := Lib.hid hgg
  have E : Hid (isR L v kd = ((vertV L v).isSome && decide ((vertD L v).2.1.val = kd))) := rfl
  generalize vertD L v = x at *
  generalize (vertV L v).isSome = ok at *
  go_wp2_with (first
    | (refine wpList_load_row rfl 182 _ (by rfl) gg (by rfl) _ _ _ _ KG.out underG20 rfl infoG20 ?_)
    | (refine wpList_load_row rfl 98 _ (by rfl) gv (by rfl) _ _ _ _ KV.out underVid rfl infoVid ?_))
  refine HV.out.mono ?_
  rintro e w3 ⟨rfl, b3⟩
  have KX : Hid (Blk ((w3.alloc (.cells zeroX 100)).setRow w3.heap.size (encX x).toArray) w3.heap.size 100 (encX x).toArray) := (Blk.new _ _ _).row _
  have BN : Hid (Below w3.heap.size w3 ((w3.alloc (.cells zeroX 100)).setRow w3.heap.size (encX x).toArray)) := below_setRow (below_new w3 _) (Nat.le_refl _) _
  have B3 := Lib.hid (B0.out.trans (b3.mono B0.out.size))
  have B4 := Lib.hid (B3.out.trans (BN.out.mono B3.out.size))
  clear b3 HV KV KG B0 BN B3
  go_upto_region 2 with (first
    | (refine wpList_alloced (allocVert _) ?_)
    | (refine wpList_store_row rfl 100 _ _ (by rfl) w3.heap.size (encX x).toArray (by rfl) (by rfl) _ _ (Blk.new _ _ _) infoVert rfl (encX_all _) ?_))
  generalize ((w3.alloc (.cells zeroX 100)).setRow w3.heap.size (encX x).toArray) = w4 at *
  generalize w3.heap.size = gx at *
  have y : w4.cell? ⟨gx, 3, none⟩ = some (.int .u8 ((x.2.1.val : Nat) : Int)) := KX.out.cell 3
  cases ok
  · rw [Bool.false_and] at E
    go_wp2_with fail
    go_ret
    exact ⟨ret_bool E.out.symm, B4.out⟩
  · rw [Bool.true_and] at E
    by_cases h : x.2.1.val = kd
    · have z : (((x.2.1.val : Nat) : Int) == (kd : Int)) = true := by rw [beq_iff_eq]; omega
      rw [decide_eq_true h] at E
      replace h := Lib.hid h
      go_wp2_with fail
      go_ret
      exact ⟨ret_bool E.out.symm, B4.out⟩
    · have z : (((x.2.1.val : Nat) : Int) == (kd : Int)) = false := by rw [beq_eq_false_iff_ne]; omega
      rw [decide_eq_false h] at E
      replace h := Lib.hid h
      go_wp2_with fail
      go_ret
      exact ⟨ret_bool E.out.symm, B4.out⟩
end Go.Proofs.YtdafiipedlglpaaGreatDoor

/- The document's graph: which patches there are: walked. -/
namespace Go.Proofs.YtdafiipedlglpaaGreatDoor
open Go.RowKit

theorem fieldG20 (g : Nat) (w : World) : (Instr.fieldAt 182 (.pointer (some ⟨g, 0, none⟩)) 0).run Tryz.prog w = .ok (.pointer (some ⟨g, 0, none⟩)) w := by simp [go_sem]
theorem loadPats20 (b o : Nat) (w : World) (A : Option Addr) (n c : Nat) (h : w.cell? ⟨b, o, none⟩ = some (.slice A n c)) : (Instr.loadAt 28 (.pointer (some ⟨b, o, none⟩))).run Tryz.prog w = .ok (.slice A n c) w := by simp [go_sem, h]
theorem indexPats20r (b o n c k : Nat) (hk : k < n) (w : World) : (Instr.indexAt 28 (.slice (some ⟨b, o, none⟩) n c) (.int .i64 ((k : Nat) : Int))).run Tryz.prog w = .ok (.pointer (some ⟨b, o + k * 4, none⟩)) w := by
  have h0 : (0 : Int) ≤ (k : Int) := by omega
  have h1 : (k : Int) < (n : Int) := by omega
  simp [go_sem, h0, h1]
theorem fieldPat20r (b o : Nat) (w : World) : (Instr.fieldAt 64 (.pointer (some ⟨b, o, none⟩)) 0).run Tryz.prog w = .ok (.pointer (some ⟨b, o, none⟩)) w := by simp [go_sem]
set_option maxRecDepth 100000 in
set_option maxHeartbeats 4000000 in
theorem rvec20_any (l : List PatV) (w : World) (A : Option Addr) (n c : Nat) (h : PatsAt w A n l) (hm : n ≤ maxLen) :
    Calls Tryz.prog 215 #[.agg #[.slice A n c]] w (RetB w (.agg (vecA (vecL l)))) := by
  unfold maxLen at hm
  have KG : Hid (Blk (((w.alloc (.cells #[.slice A n c] 182)).alloc (.cells (vecA vec0) 24)).alloc (.cells (vecA vec0) 24)) w.heap.size 182 #[.slice A n c]) := ((Blk.new _ _ _).alloc _).alloc _
  have KR : Hid (Blk (((w.alloc (.cells #[.slice A n c] 182)).alloc (.cells (vecA vec0) 24)).alloc (.cells (vecA vec0) 24)) (w.heap.size + 1) 24 (vecA vec0)) := (Blk.newAt (by simp) _ _).alloc _
  have KV : Hid (Blk (((w.alloc (.cells #[.slice A n c] 182)).alloc (.cells (vecA vec0) 24)).alloc (.cells (vecA vec0) 24)) (w.heap.size + 1 + 1) 24 (vecA (vecL (l.take 0)))) := by rw [List.take_zero]; exact Blk.newAt (by simp) _ _
  have B0 : Hid (Below w.heap.size w (((w.alloc (.cells #[.slice A n c] 182)).alloc (.cells (vecA vec0) 24)).alloc (.cells (vecA vec0) 24))) := (((Below.refl _ _).alloc (Nat.le_refl _) _).alloc (by simp) _).alloc (by simp; omega) _
  have H0 := Lib.hid h
  have hgv : Hid (w.heap.size ≤ w.heap.size + 1 + 1) := by rw [Hid]; omega
  have hgrw : Hid (w.heap.size ≤ w.heap.size + 1) := by rw [Hid]; omega
  have hne : Hid (w.heap.size + 1 ≠ w.heap.size + 1 + 1) := by show ¬ _; omega
  have hne2 : Hid (w.heap.size ≠ w.heap.size + 1 + 1) := by show ¬ _; omega
  have hsz0 : Hid ((vecA vec0).size = 64) := by rw [Hid, vecA_size]; exact vec0_ok.len
  have hcU : ∀ args u, (callFunc 243 args).run Tryz.prog u = .ok (.enter 243 args) u := enters_of Tryz.func243 (by kernel_rfl) rfl
  clear h
  go_enter Tryz.func215, Tryz.ntmps215
  go_upto_region 2 with (refine wpList_alloced (alloc64 _) ?_)
  rw [show ((w.alloc (.cells #[.slice A n c] 182)).alloc (.cells (vecA vec0) 24)).heap.size = w.heap.size + 1 + 1 by simp, show (w.alloc (.cells #[.slice A n c] 182)).heap.size = w.heap.size + 1 by simp]
  generalize (((w.alloc (.cells #[.slice A n c] 182)).alloc (.cells (vecA vec0) 24)).alloc (.cells (vecA vec0) 24)) = w2 at *
  obtain ⟨gv, hgv'⟩ : ∃ g, g = w.heap.size + 1 + 1 := ⟨_, rfl⟩
  obtain ⟨gr, hgr⟩ : ∃ g, g = w.heap.size + 1 := ⟨_, rfl⟩
  obtain ⟨gg, hgg⟩ : ∃ g, g = w.heap.size := ⟨_, rfl⟩
  rw [← hgv'] at KV hgv hne hne2 ⊢
  rw [← hgr] at KR hgrw hne ⊢
  rw [← hgg] at KG hne2 ⊢
  replace hgv' := Lib.hid hgv'
  replace hgr := Lib.hid hgr
  replace hgg := Lib.hid hgg
  go_wp2_with fail
  have BS := Lib.hid (Below.refl (w2.heap.size) w2)
  go_loopw [4] (fun i wr => ∃ k : Nat, k ≤ n ∧ i = .int .i64 k ∧ Hid (Blk wr gv 24 (vecA (vecL (l.take k)))) ∧ Hid (Blk wr gr 24 (vecA vec0)) ∧ Hid (Blk wr gg 182 #[.slice A n c]) ∧ Hid (Below w.heap.size w wr)) (fun i _ => n - (intOf i).toNat)
  case atStart => exact ⟨0, by omega, rfl, KV.out, KR.out, KG.out, B0.out⟩
  case round =>
    clear KV KR KG BS
    obtain ⟨k, hk, rfl, KV, KR, KG, B⟩ := hrel
    have yg : wr.cell? ⟨gg, 0, none⟩ = some (.slice A n c) := KG.out.cell 0
    have hk0 : (0 : Int) ≤ (k : Int) := by omega
    by_cases hlt : k < n
    · have hlk : (k : Int) < (n : Int) := by omega
      obtain ⟨b, o, p, r, rfl, hb, hp, pa, R⟩ := (H0.out.ext B.out).at_ hlt
      obtain ⟨⟨A3, c3, A4, c4, rfl, _, _⟩, _, _⟩ := pa
      have RP := Lib.hid (pid_range R)
      have hbl := Lib.hid hb
      have RV := Lib.hid (blk_vec KV.out)
      have gvl : Hid (gv < wr.heap.size) := KV.out.lt
      have N : Hid (vecL (l.take (k + 1)) = putW (vecL (l.take k)) p.1) := by rw [Hid, take_snoc' hp, vecL_snoc]
      have HVW : Hid (VecOk (putW (vecL (l.take k)) p.1)) := putV_ok (vecL_ok _) _ _
      have hsz1 : Hid ((vecA (putW (vecL (l.take k)) p.1)).size = 64) := by rw [Hid, vecA_size]; exact HVW.out.len
      have hszk : Hid ((vecA (vecL (l.take k))).size = 64) := by rw [Hid, vecA_size]; exact (vecL_ok _).len
      have hsz2 : Hid ((Tryz.prog.info? 24).map (·.size) = some (vecA (putW (vecL (l.take k)) p.1)).size) := by rw [Hid, hsz1.out]; exact info64
      have hone := Lib.hid (vecA_one (putW (vecL (l.take k)) p.1))
      have HP := Lib.hid (fun u => rput12_any (vecL (l.take k)) (vecL_ok _) p.1 u)
      have HIX : Hid (∀ u : World, (Instr.indexAt 28 (.slice (some ⟨b, o, none⟩) n c) (.int .i64 ((k : Nat) : Int))).run Tryz.prog u = .ok (.pointer (some ⟨b, o + k * 4, none⟩)) u) := fun u => indexPats20r b o n c k hlt u
      clear R hp
      go_upto_region 5 with fail
      clear yg
      go_cut [5] (fun pv wx => ∃ gn, pv = .pointer (some ⟨gn, 0, none⟩) ∧ Blk wx gn 24 (vecA (putW (vecL (l.take k)) p.1)) ∧ Below wr.heap.size wr wx)
      case first =>
        refine wp_region_held (S := fun w' => Below wr.heap.size wr w') mixedS ?_
        change wpAnyH _ _ _ _ _ _ _ _ wr.drew
        have B5 : Hid (Below wr.heap.size wr wr.drew) := (Below.refl _ _).drew
        generalize wr.drew = w5 at B5 ⊢
        simp only [List.size_toArray, List.length_cons, List.length_nil]
        refine takeV (i := 0) (d := 15) (v := .agg (vecA (vecL (l.take k)))) rfl (by kernel_rfl) (by kernel_rfl) (by kernel_rfl) (fun _ _ _ h => h) rfl (fun w' h => exMid rfl (rangeAt_below RV.out h gvl.out) under64 rfl (info64' (vecL_ok _))) B5.out ?_
        simp only [Act.put, List.setIfInBounds_toArray, List.set_cons_zero, List.set_cons_succ]
        refine takeV (i := 1) (d := 16) (v := .pointer (some ⟨gg, 0, none⟩)) rfl (by kernel_rfl) (by kernel_rfl) (by kernel_rfl) (fun _ _ _ h => h) rfl (fun w' _ => exField rfl (fieldG20 gg w')) B5.out ?_
        simp only [Act.put, List.setIfInBounds_toArray, List.set_cons_zero, List.set_cons_succ]
        refine takeV (i := 2) (d := 17) (v := .slice (some ⟨b, o, none⟩) n c) rfl (by kernel_rfl) (by kernel_rfl) (by kernel_rfl) (fun _ _ _ h => h) rfl (fun w' h => exLoad rfl (loadPats20 gg 0 w' _ _ _ ((KG.out.ext h).cell 0))) B5.out ?_
        simp only [Act.put, List.setIfInBounds_toArray, List.set_cons_zero, List.set_cons_succ]
        refine takeV (i := 3) (d := 18) (v := .int .i64 ((k : Nat) : Int)) rfl (by kernel_rfl) (by kernel_rfl) (by kernel_rfl) (fun _ _ _ h => h) rfl (fun _ _ => exMove (v := .int .i64 ((k : Nat) : Int)) rfl) B5.out ?_
        simp only [Act.put, List.setIfInBounds_toArray, List.set_cons_zero, List.set_cons_succ]
        refine takeV (i := 4) (d := 19) (v := .pointer (some ⟨b, o + k * 4, none⟩)) rfl (by kernel_rfl) (by kernel_rfl) (by kernel_rfl) (fun _ _ _ h => h) rfl (fun w' _ => exIndex rfl rfl (HIX.out w')) B5.out ?_
        simp only [Act.put, List.setIfInBounds_toArray, List.set_cons_zero, List.set_cons_succ]
        refine takeV (i := 5) (d := 20) (v := .pointer (some ⟨b, o + k * 4, none⟩)) rfl (by kernel_rfl) (by kernel_rfl) (by kernel_rfl) (fun _ _ _ h => h) rfl (fun w' _ => exField rfl (fieldPat20r b (o + k * 4) w')) B5.out ?_
        simp only [Act.put, List.setIfInBounds_toArray, List.set_cons_zero, List.set_cons_succ]
        refine takeV (i := 6) (d := 21) (v := .agg (encP p.1).toArray) rfl (by kernel_rfl) (by kernel_rfl) (by kernel_rfl) (fun _ _ _ h => h) rfl (fun w' h => exMid rfl (rangeAt_below RP.out h hbl.out) underPid rfl infoPid) B5.out ?_
        simp only [Act.put, List.setIfInBounds_toArray, List.set_cons_zero, List.set_cons_succ]
        refine wpAnyH_all (rs := [7, 11]) (by kernel_rfl) (by simp) ?_
        intro i hi
        simp only [List.mem_cons, List.not_mem_nil, or_false] at hi
        rcases hi with rfl | rfl
        · refine wpOp_of rfl rfl (wp_called (args := #[.agg (vecA (vecL (l.take k))), .agg (encP p.1).toArray]) hcU (by simp only [List.map_toArray, List.map_cons, List.map_nil]; rfl) (HP.out w5) ?_)
          rintro e w_1 ⟨rfl, h_2⟩
          refine ⟨_, rfl, ext_trans B5.out h_2, ?_⟩
          simp only [Act.put, List.setIfInBounds_toArray, List.set_cons_zero, List.set_cons_succ]
          have B_3 := Lib.hid (ext_trans B5.out h_2)
          clear B5
          clear h_2
          refine takeV (i := 8) (d := 14) (v := .tuple #[.agg (vecA (putW (vecL (l.take k)) p.1)), .bool (putB (vecL (l.take k)) p.1)]) rfl (by kernel_rfl) (by kernel_rfl) (by kernel_rfl) (fun _ _ _ h => h) rfl (fun _ _ => exMove (v := .tuple #[.agg (vecA (putW (vecL (l.take k)) p.1)), .bool (putB (vecL (l.take k)) p.1)]) rfl) B_3.out ?_
          simp only [Act.put, List.setIfInBounds_toArray, List.set_cons_zero, List.set_cons_succ]
          refine takeV (i := 9) (d := 23) (v := .agg (vecA (putW (vecL (l.take k)) p.1))) rfl (by kernel_rfl) (by kernel_rfl) (by kernel_rfl) (fun _ _ _ h => h) rfl (fun _ _ => exExtract (v := .agg (vecA (putW (vecL (l.take k)) p.1))) rfl rfl) B_3.out ?_
          simp only [Act.put, List.setIfInBounds_toArray, List.set_cons_zero, List.set_cons_succ]
          refine takeV (i := 10) (d := 24) (v := .bool (putB (vecL (l.take k)) p.1)) rfl (by kernel_rfl) (by kernel_rfl) (by kernel_rfl) (fun _ _ _ h => h) rfl (fun _ _ => exExtract (v := .bool (putB (vecL (l.take k)) p.1)) rfl rfl) B_3.out ?_
          simp only [Act.put, List.setIfInBounds_toArray, List.set_cons_zero, List.set_cons_succ]
          refine wpAnyH_all (rs := [11]) (by kernel_rfl) (by simp) ?_
          intro i hi
          simp only [List.mem_cons, List.not_mem_nil, or_false] at hi
          subst hi
          refine wpOp_of rfl rfl (wp_alloced (alloc64 _) ?_)
          refine ⟨ext_trans B_3.out (below_new _ _), ?_⟩
          simp only [Act.put, List.setIfInBounds_toArray, List.set_cons_zero, List.set_cons_succ]
          have K_4 : Hid (Blk (w_1.alloc (.cells (vecA vec0) 24)) w_1.heap.size 24 (vecA vec0)) := Blk.new _ _ _
          have h_5 : Below w_1.heap.size w_1 (w_1.alloc (.cells (vecA vec0) 24)) := below_new _ _
          have gz_7 : Hid (wr.heap.size ≤ w_1.heap.size) := B_3.out.size
          generalize (w_1.alloc (.cells (vecA vec0) 24)) = w_6 at *
          have B_9 := Lib.hid (ext_trans B_3.out h_5)
          clear B_3
          clear h_5
          generalize w_1.heap.size = g_8 at *
          refine wpAnyH_all (rs := [12]) (by kernel_rfl) (by simp) ?_
          intro i hi
          simp only [List.mem_cons, List.not_mem_nil, or_false] at hi
          subst hi
          refine wpOp_of rfl rfl (wp_stored (cs := (vecA (putW (vecL (l.take k)) p.1))) rfl rfl K_4.out hsz2.out (by rw [hsz0.out, hsz1.out]) hone.out ?_)
          refine ⟨below_setRow B_9.out gz_7.out _, ?_⟩
          have K_10 := Lib.hid (K_4.out.row (vecA (putW (vecL (l.take k)) p.1)))
          have B_11 := Lib.hid (below_setRow B_9.out gz_7.out (vecA (putW (vecL (l.take k)) p.1)))
          clear B_9 K_4
          refine takeV (i := 13) (d := 6) (v := .bool (putB (vecL (l.take k)) p.1)) rfl (by kernel_rfl) (by kernel_rfl) (by kernel_rfl) (fun _ _ _ h => h) rfl (fun _ _ => exAssign (v := .bool (putB (vecL (l.take k)) p.1)) rfl) B_11.out ?_
          simp only [Act.put, List.setIfInBounds_toArray, List.set_cons_zero, List.set_cons_succ]
          refine wpAnyH_done (by kernel_rfl) ?_ _
          go_wp2_with fail
          go_meet
          case rel => exact ⟨_, rfl, K_10.out, B_11.out⟩
        · refine wpOp_of rfl rfl (wp_alloced (alloc64 _) ?_)
          refine ⟨ext_trans B5.out (below_new _ _), ?_⟩
          simp only [Act.put, List.setIfInBounds_toArray, List.set_cons_zero, List.set_cons_succ]
          have K_13 : Hid (Blk (w5.alloc (.cells (vecA vec0) 24)) w5.heap.size 24 (vecA vec0)) := Blk.new _ _ _
          have h_14 : Below w5.heap.size w5 (w5.alloc (.cells (vecA vec0) 24)) := below_new _ _
          have gz_16 : Hid (wr.heap.size ≤ w5.heap.size) := B5.out.size
          generalize (w5.alloc (.cells (vecA vec0) 24)) = w_15 at *
          have B_18 := Lib.hid (ext_trans B5.out h_14)
          clear B5
          clear h_14
          generalize w5.heap.size = g_17 at *
          refine wpAnyH_all (rs := [7]) (by kernel_rfl) (by simp) ?_
          intro i hi
          simp only [List.mem_cons, List.not_mem_nil, or_false] at hi
          subst hi
          refine wpOp_of rfl rfl (wp_called (args := #[.agg (vecA (vecL (l.take k))), .agg (encP p.1).toArray]) hcU (by simp only [List.map_toArray, List.map_cons, List.map_nil]; rfl) (HP.out w_15) ?_)
          rintro e w_19 ⟨rfl, h_20⟩
          refine ⟨_, rfl, ext_trans B_18.out h_20, ?_⟩
          simp only [Act.put, List.setIfInBounds_toArray, List.set_cons_zero, List.set_cons_succ]
          have B_21 := Lib.hid (ext_trans B_18.out h_20)
          have F_22 := Lib.hid (K_13.out.ext h_20)
          clear B_18 K_13
          clear h_20
          refine takeV (i := 8) (d := 14) (v := .tuple #[.agg (vecA (putW (vecL (l.take k)) p.1)), .bool (putB (vecL (l.take k)) p.1)]) rfl (by kernel_rfl) (by kernel_rfl) (by kernel_rfl) (fun _ _ _ h => h) rfl (fun _ _ => exMove (v := .tuple #[.agg (vecA (putW (vecL (l.take k)) p.1)), .bool (putB (vecL (l.take k)) p.1)]) rfl) B_21.out ?_
          simp only [Act.put, List.setIfInBounds_toArray, List.set_cons_zero, List.set_cons_succ]
          refine takeV (i := 9) (d := 23) (v := .agg (vecA (putW (vecL (l.take k)) p.1))) rfl (by kernel_rfl) (by kernel_rfl) (by kernel_rfl) (fun _ _ _ h => h) rfl (fun _ _ => exExtract (v := .agg (vecA (putW (vecL (l.take k)) p.1))) rfl rfl) B_21.out ?_
          simp only [Act.put, List.setIfInBounds_toArray, List.set_cons_zero, List.set_cons_succ]
          refine takeV (i := 10) (d := 24) (v := .bool (putB (vecL (l.take k)) p.1)) rfl (by kernel_rfl) (by kernel_rfl) (by kernel_rfl) (fun _ _ _ h => h) rfl (fun _ _ => exExtract (v := .bool (putB (vecL (l.take k)) p.1)) rfl rfl) B_21.out ?_
          simp only [Act.put, List.setIfInBounds_toArray, List.set_cons_zero, List.set_cons_succ]
          refine wpAnyH_all (rs := [12]) (by kernel_rfl) (by simp) ?_
          intro i hi
          simp only [List.mem_cons, List.not_mem_nil, or_false] at hi
          subst hi
          refine wpOp_of rfl rfl (wp_stored (cs := (vecA (putW (vecL (l.take k)) p.1))) rfl rfl F_22.out hsz2.out (by rw [hsz0.out, hsz1.out]) hone.out ?_)
          refine ⟨below_setRow B_21.out gz_16.out _, ?_⟩
          have K_23 := Lib.hid (F_22.out.row (vecA (putW (vecL (l.take k)) p.1)))
          have B_24 := Lib.hid (below_setRow B_21.out gz_16.out (vecA (putW (vecL (l.take k)) p.1)))
          clear B_21 F_22
          refine takeV (i := 13) (d := 6) (v := .bool (putB (vecL (l.take k)) p.1)) rfl (by kernel_rfl) (by kernel_rfl) (by kernel_rfl) (fun _ _ _ h => h) rfl (fun _ _ => exAssign (v := .bool (putB (vecL (l.take k)) p.1)) rfl) B_24.out ?_
          simp only [Act.put, List.setIfInBounds_toArray, List.set_cons_zero, List.set_cons_succ]
          refine wpAnyH_done (by kernel_rfl) ?_ _
          go_wp2_with fail
          go_meet
          case rel => exact ⟨_, rfl, K_23.out, B_24.out⟩
      case rest =>
        obtain ⟨gn, rfl, kn, bx⟩ := hcut
        obtain ⟨wx, rfl⟩ : ∃ wx, wx = wc := ⟨_, rfl⟩
        have KN := Lib.hid kn
        have KV := Lib.hid (KV.out.ext bx)
        have KG := Lib.hid (KG.out.ext bx)
        have KR := Lib.hid (KR.out.ext bx)
        have B := Lib.hid (B.out.trans (bx.mono B.out.size))
        clear kn bx RV RP HP HIX
        go_wp2_with (first
          | (refine wpList_load_row rfl 24 _ (by rfl) gn (by rfl) _ _ _ _ KN.out under64 rfl (by rw [hsz1.out]; exact info64) ?_)
          | (refine wpList_store_row rfl 24 _ _ (by rfl) gv (vecA (putW (vecL (l.take k)) p.1)) (by rfl) (by rfl) _ _ KV.out hsz2.out (by rw [hszk.out, hsz1.out]) hone.out ?_))
        go_roundw
        case rel => exact ⟨k + 1, by omega, by go_num, by rw [N.out]; exact KV.out.row _, KR.out.rowFar hne.out _, KG.out.rowFar hne2.out _, below_setRow B.out hgv.out _⟩
        case measure => simp [intOf]; omega
    · have hk' : k = n := by omega
      subst hk'
      rw [List.take_of_length_le (Nat.le_of_eq H0.out.len)] at KV
      have hszk : Hid ((vecA (vecL l)).size = 64) := by rw [Hid, vecA_size]; exact (vecL_ok _).len
      have hone := Lib.hid (vecA_one (vecL l))
      go_wp2_with (first
        | (refine wpList_load_row rfl 24 _ (by rfl) gv (by rfl) _ _ _ _ KV.out under64 rfl (by rw [hszk.out]; exact info64) ?_)
        | (refine wpList_store_row rfl 24 _ _ (by rfl) gr (vecA (vecL l)) (by rfl) (by rfl) _ _ KR.out (by rw [hszk.out]; exact info64) (by rw [hszk.out, hsz0.out]) hone.out ?_))
      refine bodyPost_ret (results_cell_row rfl _ _ gr _ (vecA (vecL l)) _ _ rfl (KR.out.row _) under64 rfl (by rw [hszk.out]; exact info64)) rfl ?_
      exact ⟨rfl, below_setRow B.out hgrw.out _⟩
end Go.Proofs.YtdafiipedlglpaaGreatDoor

/- The document's graph: a step put into a list: walked. -/
namespace Go.Proofs.YtdafiipedlglpaaGreatDoor
open Go.RowKit

end Go.Proofs.YtdafiipedlglpaaGreatDoor

/- The document's graph: the names of all vertices; all steps: walked. -/
namespace Go.Proofs.YtdafiipedlglpaaGreatDoor
open Go.RowKit

/-- the names that a patch's first operations make -/
def idsK (p : PatV) (k : Nat) : List VidV := (List.range k).filterMap fun (i : Nat) => match p.2.2[i]? with | some o => if makesO o = true then some (vidOf p.1 ((i : Nat) : Int)) else none | none => none
theorem idsK_all (p : PatV) : idsK p p.2.2.length = idsP p := rfl
theorem idsK_yes {p : PatV} {k : Nat} {o : OpV} (h : p.2.2[k]? = some o) (hm : makesO o = true) : idsK p (k + 1) = idsK p k ++ [vidOf p.1 ((k : Nat) : Int)] := by
  unfold idsK
  rw [List.range_succ, List.filterMap_append]
  simp [h, hm]
theorem idsK_no {p : PatV} {k : Nat} {o : OpV} (h : p.2.2[k]? = some o) (hm : makesO o = false) : idsK p (k + 1) = idsK p k := by
  unfold idsK
  rw [List.range_succ, List.filterMap_append]
  simp [h, hm]
theorem idsK_len (p : PatV) (k : Nat) : (idsK p k).length ≤ k := by
  unfold idsK
  refine Nat.le_trans (List.length_filterMap_le _ _) ?_
  rw [List.length_range]
  exact Nat.le_refl _
theorem idsOf_take {L : List PatV} {k : Nat} {p : PatV} (h : L[k]? = some p) : idsOf (L.take (k + 1)) = idsOf (L.take k) ++ idsP p := by
  unfold idsOf
  rw [List.take_add_one, h, List.flatMap_append]
  simp
theorem idsOf_len (L : List PatV) {m : Nat} (h : ∀ p ∈ L, p.2.2.length ≤ m) : (idsOf L).length ≤ L.length * m := by
  induction L with
  | nil => simp [idsOf]
  | cons p L ih =>
    have h1 : (idsP p).length ≤ p.2.2.length := idsK_len p _
    have h2 := h p (List.mem_cons_self ..)
    have h3 := ih fun q hq => h q (List.mem_cons_of_mem _ hq)
    have e : (idsOf (p :: L)).length = (idsP p).length + (idsOf L).length := by unfold idsOf; rw [List.flatMap_cons, List.length_append]
    rw [e, List.length_cons, Nat.succ_mul]
    omega
theorem flat_snocV20 (mo : List VidV) (y : VidV) : (mo ++ [y]).flatMap encV = mo.flatMap encV ++ encV y := by simp
theorem len_take {L : List PatV} {m : Nat} (h : ∀ p ∈ L, p.2.2.length ≤ m) (k : Nat) : ∀ p ∈ L.take k, p.2.2.length ≤ m := fun p hp => h p (List.mem_of_mem_take hp)
theorem opv_kind20 {w : World} {b o : Nat} {x : OpV} (h : w.rangeAt b o (encO x)) : w.cell? ⟨b, o, none⟩ = some (.int .u8 ((x.1.val : Nat) : Int)) := h 0 _ rfl
set_option maxRecDepth 100000 in
set_option maxHeartbeats 8000000 in
theorem rids20_any (L : List PatV) (w : World) (A : Option Addr) (n c : Nat) (h : PatsAt w A n L) (hn : n ≤ 400) (h200 : ∀ p ∈ L, p.2.2.length ≤ 200) :
    Calls Tryz.prog 178 #[.agg #[.slice A n c]] w (OwnedRet w 98 3 (idsL L).length ((idsL L).flatMap encV)) := by
  have KG : Hid (Blk (w.alloc (.cells #[.slice A n c] 182)) w.heap.size 182 #[.slice A n c]) := Blk.new _ _ _
  have B0 : Hid (Below w.heap.size w (w.alloc (.cells #[.slice A n c] 182))) := below_new _ _
  have PT := Lib.hid (h.ext B0.out)
  have hln := Lib.hid h.len
  have h200 := Lib.hid h200
  clear h
  go_enter Tryz.func178, Tryz.ntmps178
  go_upto_region 1 with fail
  generalize (w.alloc (.cells #[.slice A n c] 182)) = w2 at *
  have hw2 : Hid (w.heap.size ≤ w2.heap.size) := B0.out.size
  obtain ⟨gg, hgg⟩ : ∃ g, g = w.heap.size := ⟨_, rfl⟩
  rw [← hgg] at KG ⊢
  replace hgg := Lib.hid hgg
  have BS := Lib.hid (Below.refl w2.heap.size w2)
  go_wp2_with fail
  go_loopw [4, 3] (fun i v wr => ∃ k : Nat, k ≤ n ∧ i = .int .i64 k ∧ Hid (wr.ownsRow w2.heap.size 98 3 v (idsOf (L.take k)).length ((idsOf (L.take k)).flatMap encV)) ∧ Hid (Below w2.heap.size w2 wr)) (fun i _ _ => n - (intOf i).toNat)
  case atStart => exact ⟨0, by omega, rfl, World.ownsRow_nil _ _ _ _, BS.out⟩
  case round =>
    clear BS
    obtain ⟨k, hk, rfl, OW, B⟩ := hrel
    obtain ⟨wi, rfl⟩ : ∃ wx, wx = wr := ⟨_, rfl⟩
    have hk0 : (0 : Int) ≤ (k : Int) := by omega
    have yg : wi.cell? ⟨gg, 0, none⟩ = some (.slice A n c) := (KG.out.ext B.out).cell 0
    by_cases hlt : k < n
    · have hlk : (k : Int) < (n : Int) := by omega
      obtain ⟨b, o, p, r, rfl, hb, hp, pa, hr⟩ := PT.out.at_ hlt
      obtain ⟨⟨A1, c1, A2, c2, rfl, _, O2⟩, _, hm2⟩ := pa
      have OP := Lib.hid O2
      have RP := Lib.hid hr
      have hb := Lib.hid hb
      have hpm := h200.out p (List.mem_of_getElem? hp)
      have hTK : (idsOf (L.take k)).length ≤ 80000 := by
        have h1 := idsOf_len (L.take k) (len_take h200.out k)
        rw [List.length_take, hln.out] at h1
        have h2 : min k n * 200 ≤ 400 * 200 := Nat.mul_le_mul_right _ (by omega)
        omega
      have hTK := Lib.hid hTK
      have hp := Lib.hid hp
      obtain ⟨m, hmm⟩ : ∃ m, m = p.2.2.length := ⟨_, rfl⟩
      rw [← hmm] at OP RP hm2 hpm
      replace hmm := Lib.hid hmm
      unfold maxLen at hm2
      clear hr O2
      go_wp2_with fail
      clear yg
      go_loopw [5, 3] (fun i v wr => ∃ j : Nat, j ≤ m ∧ i = .int .i64 j ∧ Hid (wr.ownsRow w2.heap.size 98 3 v (idsOf (L.take k) ++ idsK p j).length ((idsOf (L.take k) ++ idsK p j).flatMap encV)) ∧ Hid (Below w2.heap.size w2 wr)) (fun i _ _ => m - (intOf i).toNat)
      case atStart => exact ⟨0, by omega, rfl, by rw [Hid, show idsK p 0 = [] from rfl, List.append_nil]; exact OW.out, B.out⟩
      case round =>
        clear B OW
        obtain ⟨j, hj, rfl, OW, B⟩ := hrel
        obtain ⟨wj, rfl⟩ : ∃ wx, wx = wr := ⟨_, rfl⟩
        have hj0 : (0 : Int) ≤ (j : Int) := by omega
        have hbs := B.out.size
        have yg : wj.cell? ⟨gg, 0, none⟩ = some (.slice (some ⟨b, o, none⟩) n c) := (KG.out.ext B.out).cell 0
        have yo : wj.cell? ⟨b, o + k * 4 + 3, none⟩ = some (.slice A2 m c2) := rangeAt_below RP.out B.out hb.out 3 _ rfl
        by_cases hjt : j < m
        · have hlj : (j : Int) < (m : Int) := by omega
          obtain ⟨b2, o2, x, rfl, hb2, hx, hr2, _⟩ := OP.out.at_ hjt
          have RO := Lib.hid (rangeAt_below hr2 B.out hb2)
          have RI := Lib.hid (pid_range (rangeAt_below RP.out B.out hb.out))
          have HMk := Lib.hid (rmakes20_any ((x.1.val : Nat) : Int) wj ⟨by omega, by have := x.1.isLt; omega⟩)
          rw [makesO_eq] at HMk
          have yk : wj.cell? ⟨b2, o2 + j * 8, none⟩ = some (.int .u8 ((x.1.val : Nat) : Int)) := opv_kind20 RO.out
          have hKL := idsK_len p j
          have hl1 : (idsOf (L.take k) ++ idsK p j).length ≤ 80200 := by rw [List.length_append]; have := hTK.out; omega
          clear hr2 hb2
          by_cases mk : makesO x = true
          · rw [mk] at HMk
            have N : Hid (idsOf (L.take k) ++ idsK p (j + 1) = (idsOf (L.take k) ++ idsK p j) ++ [vidOf p.1 ((j : Nat) : Int)]) := by rw [Hid, idsK_yes hx mk, List.append_assoc]
            clear mk hx
            go_wp2_with fail
            refine HMk.out.mono ?_
            rintro e _ ⟨rfl, rfl⟩
            have HVd := Lib.hid (fun u => rvid18_any p.1 ((j : Nat) : Int) u)
            clear HMk yk
            go_wp2_with (refine wpList_load_mid rfl 60 _ (by rfl) b (o + k * 4) (by rfl) _ _ RI.out underPid rfl infoPid ?_)
            refine (HVd.out wj).mono ?_
            rintro e w5 ⟨rfl, b5⟩
            have O5 := Lib.hid (own_ext OW.out b5)
            have B5 := Lib.hid (B.out.trans (b5.mono B.out.size))
            have hb5 := B5.out.size
            clear b5 OW B HVd RI RO yg yo hbs
            generalize vidOf p.1 ((j : Nat) : Int) = v at *
            go_wp2_with (first
              | (refine wpList_lit1 vidSl (encV_len v) (by omega) (by rfl) ?_)
              | (at_builtin; refine wpList_push vidSl O5.out (encV v) rfl (encV_one v) hb5 (by omega) (by unfold maxLen; omega) (by rfl) (by rfl) (by rfl) ?_; intro v1 w6 own1 bel1))
            have O6 : Hid (w6.ownsRow w2.heap.size 98 3 v1 (idsOf (L.take k) ++ idsK p (j + 1)).length ((idsOf (L.take k) ++ idsK p (j + 1)).flatMap encV)) := by
              rw [Hid, N.out, List.length_append, flat_snocV20]; exact own1
            have B6 := Lib.hid (B5.out.trans bel1)
            clear own1 bel1 O5 B5 N
            go_roundw
            case rel => exact ⟨j + 1, by omega, by go_num, O6.out, B6.out⟩
            case measure => simp [intOf]; omega
          · rw [Bool.not_eq_true] at mk
            rw [mk] at HMk
            have N : Hid (idsK p (j + 1) = idsK p j) := idsK_no hx mk
            rw [← N.out] at OW
            clear mk hx RI
            go_wp2_with fail
            refine HMk.out.mono ?_
            rintro e _ ⟨rfl, rfl⟩
            clear HMk yk
            go_wp2_with fail
            go_roundw
            case rel => exact ⟨j + 1, by omega, by go_num, OW.out, B.out⟩
            case measure => simp [intOf]; omega
        · have hlj : ¬ (j : Int) < (m : Int) := by omega
          have N : Hid (idsOf (L.take k) ++ idsK p j = idsOf (L.take (k + 1))) := by
            rw [Hid, idsOf_take hp.out]
            rw [show j = p.2.2.length by have := hmm.out; omega, idsK_all]
          go_wp2_with fail
          go_roundw
          case rel => exact ⟨k + 1, by omega, by go_num, by rw [← N.out]; exact OW.out, B.out⟩
          case measure => simp [intOf]; omega
    · have hlk : ¬ (k : Int) < (n : Int) := by omega
      have hbs := B.out.size
      have BF := Lib.hid (B0.out.trans (B.out.mono B0.out.size))
      rw [List.take_of_length_le (by rw [hln.out]; omega)] at OW
      have hIL : Hid ((idsOf L).length ≤ 80000) := by have h1 := idsOf_len L h200.out; rw [hln.out] at h1; rw [Hid]; omega
      obtain ⟨A9, c9, rfl, _, s9⟩ := Sl.of_own OW.out
      have HS := Lib.hid (rsetV_own (idsOf L) wi A9 (idsOf L).length c9 ⟨rfl, s9⟩ (by have := hIL.out; omega))
      clear s9
      go_wp2_with fail
      refine HS.out.mono ?_
      rintro e w4 ⟨v4, rfl, o4, b4⟩
      have O4 := Lib.hid o4
      have BF := Lib.hid (BF.out.trans (b4.mono BF.out.size))
      have hww : Hid (w.heap.size ≤ wi.heap.size) := Nat.le_trans hw2.out hbs
      clear o4 b4 HS
      obtain ⟨A8, c8, rfl, _, _⟩ := Sl.of_own O4.out
      go_wp2_with fail
      go_ret
      exact ⟨_, rfl, own_mono' O4.out hww.out, BF.out⟩
end Go.Proofs.YtdafiipedlglpaaGreatDoor

/- The document's graph: all vertices, all files, what is of a kind, a file's steps: walked. -/
namespace Go.Proofs.YtdafiipedlglpaaGreatDoor
open Go.RowKit

theorem indexV20 (b o n c k : Nat) (hk : k < n) (w : World) : (Instr.indexAt 103 (.slice (some ⟨b, o, none⟩) n c) (.int .i64 ((k : Nat) : Int))).run Tryz.prog w = .ok (.pointer (some ⟨b, o + k * 3, none⟩)) w := by
  have h0 : (0 : Int) ≤ (k : Int) := by omega
  have h1 : (k : Int) < (n : Int) := by omega
  simp [go_sem, h0, h1]
theorem flat_snocX20 (mo : List VertV) (y : VertV) : (mo ++ [y]).flatMap encX = mo.flatMap encX ++ encX y := by simp
theorem take_more {α : Type} {l : List α} {k : Nat} {x : α} (h : l[k]? = some x) : l.take (k + 1) = l.take k ++ [x] := by
  rw [List.take_add_one, h]; rfl
theorem idsL_len (L : List PatV) {n : Nat} (hl : L.length = n) (hn : n ≤ 400) (h200 : ∀ p ∈ L, p.2.2.length ≤ 200) : (idsL L).length ≤ 80000 := by
  have h1 := setK_len (key := keyV) (idsOf L)
  have h2 := idsOf_len L h200
  have h3 : L.length * 200 ≤ 400 * 200 := Nat.mul_le_mul_right _ (by omega)
  unfold idsL
  omega
set_option maxRecDepth 100000 in
set_option maxHeartbeats 8000000 in
theorem rverts20_any (L : List PatV) (w : World) (A : Option Addr) (n c : Nat) (h : PatsAt w A n L) (hn : n ≤ 400) (h200 : ∀ p ∈ L, p.2.2.length ≤ 200) :
    Calls Tryz.prog 120 #[.agg #[.slice A n c]] w (OwnedRet w 100 9 (vertsL L).length ((vertsL L).flatMap encX)) := by
  have KG : Hid (Blk (w.alloc (.cells #[.slice A n c] 182)) w.heap.size 182 #[.slice A n c]) := Blk.new _ _ _
  have B0 : Hid (Below w.heap.size w (w.alloc (.cells #[.slice A n c] 182))) := below_new _ _
  have PT := Lib.hid (h.ext B0.out)
  have hil := idsL_len L h.len hn h200
  have hnm : Hid (n ≤ maxLen) := by rw [Hid]; unfold maxLen; omega
  have HI := Lib.hid (rids20_any L (w.alloc (.cells #[.slice A n c] 182)) A n c PT.out hn h200)
  have hcV : ∀ args u, (callFunc 179 args).run Tryz.prog u = .ok (.enter 179 args) u := enters_of Tryz.func179 (by kernel_rfl) rfl
  clear h h200
  have E : Hid (vertsL L = (idsL L).map (vertD L)) := rfl
  go_enter Tryz.func120, Tryz.ntmps120
  go_upto_region 1 with fail
  generalize (w.alloc (.cells #[.slice A n c] 182)) = w2 at *
  obtain ⟨gg, hgg⟩ : ∃ g, g = w.heap.size := ⟨_, rfl⟩
  rw [← hgg] at KG ⊢
  replace hgg := Lib.hid hgg
  generalize idsL L = l at *
  obtain ⟨m, hm⟩ : ∃ m, m = l.length := ⟨_, rfl⟩
  rw [← hm] at HI hil
  replace hm := Lib.hid hm
  go_wp2_with (refine wpList_load_row rfl 182 _ (by rfl) gg (by rfl) _ _ _ _ KG.out underG20 rfl infoG20 ?_)
  refine HI.out.mono ?_
  rintro e w3 ⟨v3, rfl, o3, b3⟩
  obtain ⟨Al, cl, rfl, _, s3⟩ := Sl.of_own o3
  have VA : Hid (VidsAt w3 Al m l) := ⟨hm.out.symm, s3⟩
  have B3 := Lib.hid (B0.out.trans (b3.mono B0.out.size))
  have KG3 := Lib.hid (KG.out.ext b3)
  have PT3 := Lib.hid (PT.out.ext b3)
  have hw3 : Hid (w.heap.size ≤ w3.heap.size) := B3.out.size
  have BS := Lib.hid (Below.refl w3.heap.size w3)
  clear o3 s3 b3 HI KG PT B0
  go_wp2_with fail
  go_loopw [5, 3] (fun i v wr => ∃ k : Nat, k ≤ m ∧ i = .int .i64 k ∧ Hid (wr.ownsRow w3.heap.size 100 9 v ((l.take k).map (vertD L)).length (((l.take k).map (vertD L)).flatMap encX)) ∧ Hid (Below w3.heap.size w3 wr)) (fun i _ _ => m - (intOf i).toNat)
  case atStart => exact ⟨0, by omega, rfl, World.ownsRow_nil _ _ _ _, BS.out⟩
  case round =>
    clear BS
    obtain ⟨k, hk, rfl, OW, B⟩ := hrel
    obtain ⟨wi, rfl⟩ : ∃ wx, wx = wr := ⟨_, rfl⟩
    have hk0 : (0 : Int) ≤ (k : Int) := by omega
    by_cases hlt : k < m
    · have hlk : (k : Int) < (m : Int) := by omega
      obtain ⟨b, o, v, rfl, hb, hv, R⟩ := (VA.out.ext B.out).at_ hlt
      have N : Hid ((l.take (k + 1)).map (vertD L) = (l.take k).map (vertD L) ++ [vertD L v]) := by rw [Hid, take_more hv, List.map_append]; rfl
      have hlen : Hid (((l.take k).map (vertD L)).length ≤ 80000) := by rw [Hid, List.length_map, List.length_take]; omega
      have RV := Lib.hid R
      have hbl := Lib.hid hb
      have KGi := Lib.hid (KG3.out.ext B.out)
      have HV := Lib.hid (fun (u : World) (hu : Below wi.heap.size wi u) => rvert20_any L u A n c hnm.out ((PT3.out.ext B.out).ext hu) v)
      have HIX := Lib.hid (fun u => indexV20 b o m cl k hlt u)
      clear hv R hb
      generalize vertD L v = x at *
      generalize (vertV L v).isSome = ok at *
      go_upto_region 6 with fail
      go_cut [6] (fun pv wx => ∃ gn, pv = .pointer (some ⟨gn, 0, none⟩) ∧ Blk wx gn 100 (encX x).toArray ∧ Below wi.heap.size wi wx)
      case first =>
        refine wp_region_held (S := fun w' => Below wi.heap.size wi w') mixedS ?_
        change wpAnyH _ _ _ _ _ _ _ _ wi.drew
        have B5 : Hid (Below wi.heap.size wi wi.drew) := (Below.refl _ _).drew
        generalize wi.drew = w5 at B5 ⊢
        simp only [List.size_toArray, List.length_cons, List.length_nil]
        refine takeV (i := 0) (d := 17) (v := .agg #[.slice A n c]) rfl (by kernel_rfl) (by kernel_rfl) (by kernel_rfl) (fun _ _ _ h => h) rfl (fun w' h => exMid rfl (blk_pat (cs := [.slice A n c]) (KGi.out.ext h)) underG20 rfl infoG20) B5.out ?_
        simp only [Act.put, List.setIfInBounds_toArray, List.set_cons_zero, List.set_cons_succ]
        refine takeV (i := 1) (d := 18) (v := .slice (some ⟨b, o, none⟩) m cl) rfl (by kernel_rfl) (by kernel_rfl) (by kernel_rfl) (fun _ _ _ h => h) rfl (fun _ _ => exMove (v := .slice (some ⟨b, o, none⟩) m cl) rfl) B5.out ?_
        simp only [Act.put, List.setIfInBounds_toArray, List.set_cons_zero, List.set_cons_succ]
        refine takeV (i := 2) (d := 19) (v := .int .i64 ((k : Nat) : Int)) rfl (by kernel_rfl) (by kernel_rfl) (by kernel_rfl) (fun _ _ _ h => h) rfl (fun _ _ => exMove (v := .int .i64 ((k : Nat) : Int)) rfl) B5.out ?_
        simp only [Act.put, List.setIfInBounds_toArray, List.set_cons_zero, List.set_cons_succ]
        refine takeV (i := 3) (d := 20) (v := .pointer (some ⟨b, o + k * 3, none⟩)) rfl (by kernel_rfl) (by kernel_rfl) (by kernel_rfl) (fun _ _ _ h => h) rfl (fun w' _ => exIndex rfl rfl (HIX.out w')) B5.out ?_
        simp only [Act.put, List.setIfInBounds_toArray, List.set_cons_zero, List.set_cons_succ]
        refine takeV (i := 4) (d := 21) (v := .agg (encV v).toArray) rfl (by kernel_rfl) (by kernel_rfl) (by kernel_rfl) (fun _ _ _ h => h) rfl (fun w' h => exMid rfl (rangeAt_below RV.out h hbl.out) underVid rfl infoVid) B5.out ?_
        simp only [Act.put, List.setIfInBounds_toArray, List.set_cons_zero, List.set_cons_succ]
        refine wpAnyH_all (rs := [5, 9]) (by kernel_rfl) (by simp) ?_
        intro i hi
        simp only [List.mem_cons, List.not_mem_nil, or_false] at hi
        rcases hi with rfl | rfl
        · refine wpOp_of rfl rfl (wp_called (args := #[.agg #[.slice A n c], .agg (encV v).toArray]) hcV (by simp only [List.map_toArray, List.map_cons, List.map_nil]; rfl) (HV.out w5 B5.out) ?_)
          rintro e w_1 ⟨rfl, h_2⟩
          refine ⟨_, rfl, ext_trans B5.out h_2, ?_⟩
          simp only [Act.put, List.setIfInBounds_toArray, List.set_cons_zero, List.set_cons_succ]
          have B_3 := Lib.hid (ext_trans B5.out h_2)
          clear B5
          clear h_2
          refine takeV (i := 6) (d := 16) (v := .tuple #[.agg (encX x).toArray, .bool ok]) rfl (by kernel_rfl) (by kernel_rfl) (by kernel_rfl) (fun _ _ _ h => h) rfl (fun _ _ => exMove (v := .tuple #[.agg (encX x).toArray, .bool ok]) rfl) B_3.out ?_
          simp only [Act.put, List.setIfInBounds_toArray, List.set_cons_zero, List.set_cons_succ]
          refine takeV (i := 7) (d := 23) (v := .agg (encX x).toArray) rfl (by kernel_rfl) (by kernel_rfl) (by kernel_rfl) (fun _ _ _ h => h) rfl (fun _ _ => exExtract (v := .agg (encX x).toArray) rfl rfl) B_3.out ?_
          simp only [Act.put, List.setIfInBounds_toArray, List.set_cons_zero, List.set_cons_succ]
          refine takeV (i := 8) (d := 24) (v := .bool ok) rfl (by kernel_rfl) (by kernel_rfl) (by kernel_rfl) (fun _ _ _ h => h) rfl (fun _ _ => exExtract (v := .bool ok) rfl rfl) B_3.out ?_
          simp only [Act.put, List.setIfInBounds_toArray, List.set_cons_zero, List.set_cons_succ]
          refine wpAnyH_all (rs := [9]) (by kernel_rfl) (by simp) ?_
          intro i hi
          simp only [List.mem_cons, List.not_mem_nil, or_false] at hi
          subst hi
          refine wpOp_of rfl rfl (wp_alloced (allocVert _) ?_)
          refine ⟨ext_trans B_3.out (below_new _ _), ?_⟩
          simp only [Act.put, List.setIfInBounds_toArray, List.set_cons_zero, List.set_cons_succ]
          have K_4 : Hid (Blk (w_1.alloc (.cells zeroX 100)) w_1.heap.size 100 zeroX) := Blk.new _ _ _
          have h_5 : Below w_1.heap.size w_1 (w_1.alloc (.cells zeroX 100)) := below_new _ _
          have gz_7 : Hid (wi.heap.size ≤ w_1.heap.size) := B_3.out.size
          generalize (w_1.alloc (.cells zeroX 100)) = w_6 at *
          have B_9 := Lib.hid (ext_trans B_3.out h_5)
          clear B_3
          clear h_5
          generalize w_1.heap.size = g_8 at *
          refine wpAnyH_all (rs := [10]) (by kernel_rfl) (by simp) ?_
          intro i hi
          simp only [List.mem_cons, List.not_mem_nil, or_false] at hi
          subst hi
          refine wpOp_of rfl rfl (wp_stored (cs := (encX x).toArray) rfl rfl K_4.out infoVert rfl (encX_all x) ?_)
          refine ⟨below_setRow B_9.out gz_7.out _, ?_⟩
          have K_10 := Lib.hid (K_4.out.row (encX x).toArray)
          have B_11 := Lib.hid (below_setRow B_9.out gz_7.out (encX x).toArray)
          clear B_9 K_4
          refine takeV (i := 11) (d := 7) (v := .bool ok) rfl (by kernel_rfl) (by kernel_rfl) (by kernel_rfl) (fun _ _ _ h => h) rfl (fun _ _ => exAssign (v := .bool ok) rfl) B_11.out ?_
          simp only [Act.put, List.setIfInBounds_toArray, List.set_cons_zero, List.set_cons_succ]
          refine wpAnyH_done (by kernel_rfl) ?_ _
          go_wp2_with fail
          go_meet
          case rel => exact ⟨_, rfl, K_10.out, B_11.out⟩
        · refine wpOp_of rfl rfl (wp_alloced (allocVert _) ?_)
          refine ⟨ext_trans B5.out (below_new _ _), ?_⟩
          simp only [Act.put, List.setIfInBounds_toArray, List.set_cons_zero, List.set_cons_succ]
          have K_13 : Hid (Blk (w5.alloc (.cells zeroX 100)) w5.heap.size 100 zeroX) := Blk.new _ _ _
          have h_14 : Below w5.heap.size w5 (w5.alloc (.cells zeroX 100)) := below_new _ _
          have gz_16 : Hid (wi.heap.size ≤ w5.heap.size) := B5.out.size
          generalize (w5.alloc (.cells zeroX 100)) = w_15 at *
          have B_18 := Lib.hid (ext_trans B5.out h_14)
          clear B5
          clear h_14
          generalize w5.heap.size = g_17 at *
          refine wpAnyH_all (rs := [5]) (by kernel_rfl) (by simp) ?_
          intro i hi
          simp only [List.mem_cons, List.not_mem_nil, or_false] at hi
          subst hi
          refine wpOp_of rfl rfl (wp_called (args := #[.agg #[.slice A n c], .agg (encV v).toArray]) hcV (by simp only [List.map_toArray, List.map_cons, List.map_nil]; rfl) (HV.out w_15 B_18.out) ?_)
          rintro e w_19 ⟨rfl, h_20⟩
          refine ⟨_, rfl, ext_trans B_18.out h_20, ?_⟩
          simp only [Act.put, List.setIfInBounds_toArray, List.set_cons_zero, List.set_cons_succ]
          have B_21 := Lib.hid (ext_trans B_18.out h_20)
          have F_22 := Lib.hid (K_13.out.ext h_20)
          clear B_18 K_13
          clear h_20
          refine takeV (i := 6) (d := 16) (v := .tuple #[.agg (encX x).toArray, .bool ok]) rfl (by kernel_rfl) (by kernel_rfl) (by kernel_rfl) (fun _ _ _ h => h) rfl (fun _ _ => exMove (v := .tuple #[.agg (encX x).toArray, .bool ok]) rfl) B_21.out ?_
          simp only [Act.put, List.setIfInBounds_toArray, List.set_cons_zero, List.set_cons_succ]
          refine takeV (i := 7) (d := 23) (v := .agg (encX x).toArray) rfl (by kernel_rfl) (by kernel_rfl) (by kernel_rfl) (fun _ _ _ h => h) rfl (fun _ _ => exExtract (v := .agg (encX x).toArray) rfl rfl) B_21.out ?_
          simp only [Act.put, List.setIfInBounds_toArray, List.set_cons_zero, List.set_cons_succ]
          refine takeV (i := 8) (d := 24) (v := .bool ok) rfl (by kernel_rfl) (by kernel_rfl) (by kernel_rfl) (fun _ _ _ h => h) rfl (fun _ _ => exExtract (v := .bool ok) rfl rfl) B_21.out ?_
          simp only [Act.put, List.setIfInBounds_toArray, List.set_cons_zero, List.set_cons_succ]
          refine wpAnyH_all (rs := [10]) (by kernel_rfl) (by simp) ?_
          intro i hi
          simp only [List.mem_cons, List.not_mem_nil, or_false] at hi
          subst hi
          refine wpOp_of rfl rfl (wp_stored (cs := (encX x).toArray) rfl rfl F_22.out infoVert rfl (encX_all x) ?_)
          refine ⟨below_setRow B_21.out gz_16.out _, ?_⟩
          have K_23 := Lib.hid (F_22.out.row (encX x).toArray)
          have B_24 := Lib.hid (below_setRow B_21.out gz_16.out (encX x).toArray)
          clear B_21 F_22
          refine takeV (i := 11) (d := 7) (v := .bool ok) rfl (by kernel_rfl) (by kernel_rfl) (by kernel_rfl) (fun _ _ _ h => h) rfl (fun _ _ => exAssign (v := .bool ok) rfl) B_24.out ?_
          simp only [Act.put, List.setIfInBounds_toArray, List.set_cons_zero, List.set_cons_succ]
          refine wpAnyH_done (by kernel_rfl) ?_ _
          go_wp2_with fail
          go_meet
          case rel => exact ⟨_, rfl, K_23.out, B_24.out⟩
      case rest =>
        obtain ⟨gn, rfl, kn, bx⟩ := hcut
        obtain ⟨wx, rfl⟩ : ∃ wx, wx = wc := ⟨_, rfl⟩
        have KN := Lib.hid kn
        have OX := Lib.hid (own_ext OW.out bx)
        have BX := Lib.hid (B.out.trans (bx.mono B.out.size))
        have hbs := BX.out.size
        have hl2 := hlen.out
        clear kn bx OW B HV HIX RV KGi
        go_wp2_with (first
          | (refine wpList_load_row rfl 100 _ (by rfl) gn (by rfl) _ _ _ _ KN.out underVert rfl infoVert ?_)
          | (refine wpList_lit1 vertSl (encX_len x) (by omega) (by rfl) ?_)
          | (at_builtin; refine wpList_push vertSl OX.out (encX x) rfl (encX_one x) hbs (by omega) (by unfold maxLen; omega) (by rfl) (by rfl) (by rfl) ?_; intro vn w9 own1 bel1))
        have O9 : Hid (w9.ownsRow w3.heap.size 100 9 vn ((l.take (k + 1)).map (vertD L)).length (((l.take (k + 1)).map (vertD L)).flatMap encX)) := by
          rw [Hid, N.out, List.length_append, flat_snocX20]; exact own1
        have B9 := Lib.hid (BX.out.trans bel1)
        clear own1 bel1 OX BX
        go_roundw
        case rel => exact ⟨k + 1, by omega, by go_num, O9.out, B9.out⟩
        case measure => simp [intOf]; omega
    · have hlk : ¬ (k : Int) < (m : Int) := by omega
      rw [List.take_of_length_le (by rw [← hm.out]; omega), ← E.out] at OW
      have BF := Lib.hid (B3.out.trans (B.out.mono B3.out.size))
      obtain ⟨A9, c9, rfl, _, _⟩ := Sl.of_own OW.out
      go_wp2_with fail
      go_ret
      exact ⟨_, rfl, own_mono' OW.out hw3.out, BF.out⟩
end Go.Proofs.YtdafiipedlglpaaGreatDoor

/- The document's graph: what is of a kind, a file's steps: walked. -/
namespace Go.Proofs.YtdafiipedlglpaaGreatDoor
open Go.RowKit

end Go.Proofs.YtdafiipedlglpaaGreatDoor

/- The document's graph, and the program's, of the same patches, are the same: walked. -/
namespace Go.Proofs.YtdafiipedlglpaaGreatDoor
open Go.RowKit

theorem VidsAtS.of_own {w : World} {base n : Nat} {v : Value} {l : List VidV} (h : w.ownsRow base 98 3 v n (l.flatMap encV)) (hn : l.length = n) : ∃ A c, v = .slice A n c ∧ n ≤ c ∧ VidsAt w A n l := by
  obtain ⟨A, c, rfl, hc, hs⟩ := Sl.of_own h
  exact ⟨A, c, rfl, hc, hn, hs⟩
end Go.Proofs.YtdafiipedlglpaaGreatDoor
