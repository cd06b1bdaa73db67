/- Texts of general use, one behind another. -/
import Derived.Test.YtfnhmbflmifhcaaGreatRga
import Derived.Test.YtfnhmbflmifhcaaGreatRgb
import Derived.Test.YtfnhmbflmifhcaaGreatGrm
import Derived.Test.YtfnhmbflmifhcaaGreatIdxn
import Derived.Test.YtfnhmbflmifhcaaGreatVids
import Derived.Test.YtfnhmbflmifhcaaGreatPaws
import Derived.Test.YtfnhmbflmifhcaaGreatSetgV

/- The document's graph: an error, the steps, the names: plain laws; no program in sight. -/
namespace Go.Proofs.YtfnhmbflmifhcaaGreat
open Go.RowKit

theorem hasR20_vec {L : List PatV} (hG : GrOk L) (d : PidV) : hasR20 L d = hasP (vecL L) d := by
  rw [Bool.eq_iff_iff, hG.idx.has]
  unfold hasR20
  rw [List.any_eq_true]
  exact ⟨fun ⟨q, hq, e⟩ => ⟨q, hq, of_decide_eq_true e⟩, fun ⟨q, hq, e⟩ => ⟨q, hq, decide_eq_true e⟩⟩
def isR (A : List PatV) (v : VidV) (k : Nat) : Bool := (vertV A v).isSome && decide ((vertD A v).2.1.val = k)
theorem isR_eq (A : List PatV) (v : VidV) (k : Nat) : isR A v k = kindIs (rawV A) v k := by
  unfold isR vertD vertV kindIs
  cases rawV A v <;> rfl
theorem vertV_raw (A : List PatV) (v : VidV) : (vertV A v).isSome = (rawV A v).isSome := by
  unfold vertV
  cases rawV A v <;> rfl
theorem vertD_file (A : List PatV) (v : VidV) : (vertD A v).2.2.1 = fileF (rawV A) v := by
  unfold vertD vertV fileF
  cases rawV A v <;> rfl
/-- may an operation be, by the vertices that there are? -/
def opR (A : List PatV) (o : OpV) : Bool :=
  if o.1.val ≠ 1 ∧ (vertV A o.2.1).isSome = false then false
  else if (o.1.val = 2 ∨ o.1.val = 3) ∧ (vertD A o.2.1).2.1.val ≠ 1 then false
  else if o.1.val = 4 ∧ (isR A o.2.1 3 = false ∨ isR A o.2.2.1 3 = false ∨ (vertD A o.2.1).2.2.1 ≠ (vertD A o.2.2.1).2.2.1) then false
  else true
theorem opR_ref {A : List PatV} {o : OpV} (h : 1 ≤ o.1.val ∧ o.1.val ≤ 5) : opR A o = refB (rawV A) o := by
  unfold opR refB
  by_cases c2 : o.1.val = 2 ∨ o.1.val = 3
  · rw [if_pos c2, ← isR_eq]
    unfold isR
    cases hs : (vertV A o.2.1).isSome
    · rw [if_pos ⟨by omega, rfl⟩]; rfl
    · rw [if_neg (by simp)]
      by_cases hk : (vertD A o.2.1).2.1.val = 1
      · rw [if_neg (by simp [hk]), if_neg (by omega), decide_eq_true hk]; rfl
      · rw [if_pos ⟨c2, hk⟩, decide_eq_false hk]; rfl
  · rw [if_neg c2]
    by_cases c5 : o.1.val = 5
    · rw [if_pos c5, ← vertV_raw]
      cases hs : (vertV A o.2.1).isSome
      · rw [if_pos ⟨by omega, rfl⟩]
      · rw [if_neg (by simp), if_neg (fun c => c2 c.1), if_neg (by omega)]
    · rw [if_neg c5]
      by_cases c4 : o.1.val = 4
      · rw [if_pos c4, ← isR_eq, ← isR_eq, ← vertD_file, ← vertD_file]
        cases h3 : isR A o.2.1 3
        · by_cases hs : o.1.val ≠ 1 ∧ (vertV A o.2.1).isSome = false
          · rw [if_pos hs]; rfl
          · rw [if_neg hs, if_neg (fun c => c2 c.1), if_pos ⟨c4, .inl rfl⟩]; rfl
        · have hs : (vertV A o.2.1).isSome = true := by unfold isR at h3; rw [Bool.and_eq_true] at h3; exact h3.1
          rw [if_neg (by rw [hs]; simp), if_neg (fun c => c2 c.1)]
          cases h4 : isR A o.2.2.1 3
          · rw [if_pos ⟨c4, .inr (.inl rfl)⟩]; rfl
          · by_cases hf : (vertD A o.2.1).2.2.1 = (vertD A o.2.2.1).2.2.1
            · rw [if_neg (by simp [hf]), decide_eq_true hf]; rfl
            · rw [if_pos ⟨c4, .inr (.inr hf)⟩, decide_eq_false hf]; rfl
      · rw [if_neg c4, if_neg (by omega), if_neg (fun c => c2 c.1), if_neg (fun c => c4 c.1)]
/-- the document's error -/
def refK (L : List PatV) (p : PatV) : Nat :=
  if patB p = true then
    if hasR20 L p.1 = true then 7
    else if nextB (vecL L) p.1 = true then
      if p.2.1.all (hasR20 L) = true then
        if p.2.2.all (opR (L ++ [p])) = true then 0 else 10
      else 9
    else 9
  else 1
theorem refK_eq {L : List PatV} (hG : GrOk L) (p : PatV) : refK L p = grE L p := by
  unfold refK grE
  have e1 : hasR20 L = hasP (vecL L) := funext (hasR20_vec hG)
  rw [e1]
  cases hp : patB p
  · rfl
  · have e2 : p.2.2.all (opR (L ++ [p])) = p.2.2.all (refB (rawV (L ++ [p]))) := by
      rw [Bool.eq_iff_iff, List.all_eq_true, List.all_eq_true]
      have hk : ∀ o ∈ p.2.2, opR (L ++ [p]) o = refB (rawV (L ++ [p])) o := fun o ho => by
        obtain ⟨k, hk⟩ := List.mem_iff_getElem?.1 ho
        exact opR_ref (goodO_kind (oneR_parts ((patB_parts hp).2.2.2 k o hk)).1)
      exact ⟨fun h o ho => (hk o ho).symm.trans (h o ho), fun h o ho => (hk o ho).trans (h o ho)⟩
    rw [e2]
theorem refK_1 {L : List PatV} {p : PatV} (h : patB p = false) : refK L p = 1 := by unfold refK; rw [h]; rfl
theorem refK_7 {L : List PatV} {p : PatV} (h : patB p = true) (h2 : hasR20 L p.1 = true) : refK L p = 7 := by unfold refK; rw [if_pos h, if_pos h2]
theorem refK_9 {L : List PatV} {p : PatV} (h : patB p = true) (h2 : hasR20 L p.1 = false) (h3 : nextB (vecL L) p.1 = false) : refK L p = 9 := by unfold refK; rw [if_pos h, h2, h3]; rfl
theorem refK_9d {L : List PatV} {p : PatV} (h : patB p = true) (h2 : hasR20 L p.1 = false) (h3 : nextB (vecL L) p.1 = true) (h4 : p.2.1.all (hasR20 L) = false) : refK L p = 9 := by unfold refK; rw [if_pos h, h2, h3, h4]; rfl
theorem refK_10 {L : List PatV} {p : PatV} (h : patB p = true) (h2 : hasR20 L p.1 = false) (h3 : nextB (vecL L) p.1 = true) (h4 : p.2.1.all (hasR20 L) = true) (h5 : p.2.2.all (opR (L ++ [p])) = false) : refK L p = 10 := by unfold refK; rw [if_pos h, h2, h3, h4, h5]; rfl
theorem refK_0 {L : List PatV} {p : PatV} (h : patB p = true) (h2 : hasR20 L p.1 = false) (h3 : nextB (vecL L) p.1 = true) (h4 : p.2.1.all (hasR20 L) = true) (h5 : p.2.2.all (opR (L ++ [p])) = true) : refK L p = 0 := by unfold refK; rw [if_pos h, h2, h3, h4, h5]; rfl
section
variable {α : Type} (key : α → Int) [DecidableEq α]
/-- one round of the document's put -/
def putStep (x : α) (s : List α × Bool) (y : α) : List α × Bool :=
  let t := !s.2 && (decide (y = x) || decide (key x < key y))
  let l := if t then s.1 ++ [x] else s.1
  (if y = x then l else l ++ [y], s.2 || t)
variable {key}
theorem putStep_true (x : α) (ys : List α) : ∀ acc : List α, (∀ y ∈ ys, y ≠ x) → ys.foldl (putStep key x) (acc, true) = (acc ++ ys, true) := by
  induction ys with
  | nil => intro acc _; simp
  | cons y ys ih =>
    intro acc h
    rw [List.foldl_cons]
    have e : putStep key x (acc, true) y = (acc ++ [y], true) := by
      unfold putStep
      simp [h y (List.mem_cons_self ..)]
    rw [e, ih _ fun z hz => h z (List.mem_cons_of_mem _ hz)]; simp
theorem putK_foldl (inj : ∀ x y : α, key x = key y → x = y) (x : α) (ys : List α) : ∀ acc : List α, RiseK key ys → endK x (ys.foldl (putStep key x) (acc, false)) = acc ++ insK key x ys := by
  induction ys with
  | nil => intro acc _; simp [endK, insK]
  | cons y ys ih =>
    intro acc hr
    have hy := List.pairwise_cons.1 hr
    rw [List.foldl_cons]
    unfold insK
    by_cases h1 : key x < key y
    · have hne : y ≠ x := fun e => by rw [e] at h1; omega
      have e : putStep key x (acc, false) y = (acc ++ [x] ++ [y], true) := by unfold putStep; simp [h1, hne]
      rw [e, putStep_true x ys _ (fun z hz c => by have := hy.1 z hz; rw [c] at this; omega), if_pos h1]
      simp [endK]
    · by_cases h2 : key x = key y
      · have he : y = x := (inj _ _ h2).symm
        subst he
        have e : putStep key y (acc, false) y = (acc ++ [y], true) := by unfold putStep; simp
        rw [e, putStep_true y ys _ (fun z hz c => by have := hy.1 z hz; rw [c] at this; omega), if_neg h1, if_pos rfl]
        simp [endK]
      · have hne : y ≠ x := fun e => h2 (by rw [e])
        have e : putStep key x (acc, false) y = (acc ++ [y], false) := by unfold putStep; simp [h1, hne]
        rw [e, ih _ hy.2, if_neg h1, if_neg h2]
        simp
theorem putStep_len (x : α) (ys : List α) : ∀ s : List α × Bool, (ys.foldl (putStep key x) s).1.length ≤ s.1.length + 2 * ys.length := by
  induction ys with
  | nil => intro s; simp
  | cons y ys ih =>
    intro s
    rw [List.foldl_cons, List.length_cons]
    have h := ih (putStep key x s y)
    have h1 : (putStep key x s y).1.length ≤ s.1.length + 2 := by
      unfold putStep
      simp only
      split <;> split <;> simp
    omega
omit [DecidableEq α] in
theorem setK_snoc20 (l : List α) (x : α) : setK key (l ++ [x]) = insK key x (setK key l) := by unfold setK; rw [List.foldl_append]; rfl
end
end Go.Proofs.YtfnhmbflmifhcaaGreat

/- The document's graph: is a vertex one of a kind; are two lists the same: walked. -/
namespace Go.Proofs.YtfnhmbflmifhcaaGreat
open Go.RowKit

set_option maxRecDepth 100000 in
set_option maxHeartbeats 2000000 in
theorem ris20_any (L : List PatV) (w : World) (A : Option Addr) (n c : Nat) (hm : n ≤ maxLen) (h : PatsAt w A n L) (v : VidV) (kd : Nat) :
    Calls Tryz.prog 137 #[.agg #[.slice A n c], .agg (encV v).toArray, .int .u8 (kd : Int)] w (RetB w (.bool (isR L v kd))) := by
  have KG : Hid (Blk ((w.alloc (.cells #[.slice A n c] 28)).alloc (.cells (encV v).toArray 43)) w.heap.size 28 #[.slice A n c]) := (Blk.new _ _ _).alloc _
  have KV : Hid (Blk ((w.alloc (.cells #[.slice A n c] 28)).alloc (.cells (encV v).toArray 43)) (w.heap.size + 1) 43 (encV v).toArray) := Blk.newAt (by simp) _ _
  have B0 : Hid (Below w.heap.size w ((w.alloc (.cells #[.slice A n c] 28)).alloc (.cells (encV v).toArray 43))) := ((Below.refl _ _).alloc (Nat.le_refl _) _).alloc (by simp) _
  have HV := Lib.hid (rvert20_any L ((w.alloc (.cells #[.slice A n c] 28)).alloc (.cells (encV v).toArray 43)) A n c hm (h.ext B0.out) v)
  clear h hm
  go_enter Tryz.func137, Tryz.ntmps137
  go_upto_region 1 with fail
  generalize ((w.alloc (.cells #[.slice A n c] 28)).alloc (.cells (encV v).toArray 43)) = w2 at *
  obtain ⟨gv, hgv⟩ : ∃ g, g = w.heap.size + 1 := ⟨_, rfl⟩
  obtain ⟨gg, hgg⟩ : ∃ g, g = w.heap.size := ⟨_, rfl⟩
  rw [← hgv] at KV ⊢
  rw [← hgg] at KG ⊢
  replace hgv := Lib.hid hgv
  replace hgg := Lib.hid hgg
  have E : Hid (isR L v kd = ((vertV L v).isSome && decide ((vertD L v).2.1.val = kd))) := rfl
  generalize vertD L v = x at *
  generalize (vertV L v).isSome = ok at *
  go_wp2_with (first
    | (refine wpList_load_row rfl 28 _ (by rfl) gg (by rfl) _ _ _ _ KG.out underG20 rfl infoG20 ?_)
    | (refine wpList_load_row rfl 43 _ (by rfl) gv (by rfl) _ _ _ _ KV.out underVid rfl infoVid ?_))
  refine HV.out.mono ?_
  rintro e w3 ⟨rfl, b3⟩
  have KX : Hid (Blk ((w3.alloc (.cells zeroX 46)).setRow w3.heap.size (encX x).toArray) w3.heap.size 46 (encX x).toArray) := (Blk.new _ _ _).row _
  have BN : Hid (Below w3.heap.size w3 ((w3.alloc (.cells zeroX 46)).setRow w3.heap.size (encX x).toArray)) := below_setRow (below_new w3 _) (Nat.le_refl _) _
  have B3 := Lib.hid (B0.out.trans (b3.mono B0.out.size))
  have B4 := Lib.hid (B3.out.trans (BN.out.mono B3.out.size))
  clear b3 HV KV KG B0 BN B3
  go_upto_region 2 with (first
    | (refine wpList_alloced (allocVert _) ?_)
    | (refine wpList_store_row rfl 46 _ _ (by rfl) w3.heap.size (encX x).toArray (by rfl) (by rfl) _ _ (Blk.new _ _ _) infoVert rfl (encX_all _) ?_))
  generalize ((w3.alloc (.cells zeroX 46)).setRow w3.heap.size (encX x).toArray) = w4 at *
  generalize w3.heap.size = gx at *
  have y : w4.cell? ⟨gx, 3, none⟩ = some (.int .u8 ((x.2.1.val : Nat) : Int)) := KX.out.cell 3
  cases ok
  · rw [Bool.false_and] at E
    go_wp2_with fail
    go_ret
    exact ⟨ret_bool E.out.symm, B4.out⟩
  · rw [Bool.true_and] at E
    by_cases h : x.2.1.val = kd
    · have z : (((x.2.1.val : Nat) : Int) == (kd : Int)) = true := by rw [beq_iff_eq]; omega
      rw [decide_eq_true h] at E
      replace h := Lib.hid h
      go_wp2_with fail
      go_ret
      exact ⟨ret_bool E.out.symm, B4.out⟩
    · have z : (((x.2.1.val : Nat) : Int) == (kd : Int)) = false := by rw [beq_eq_false_iff_ne]; omega
      rw [decide_eq_false h] at E
      replace h := Lib.hid h
      go_wp2_with fail
      go_ret
      exact ⟨ret_bool E.out.symm, B4.out⟩
set_option maxRecDepth 100000 in
set_option maxHeartbeats 1000000 in
theorem sameX (l : List VertV) (w : World) (A A' : Option Addr) (n c c' : Nat) (h : VertsAt w A n l) (h' : VertsAt w A' n l) (hm : n ≤ maxLen) :
    Calls Tryz.prog 22 #[.slice A n c, .slice A' n c'] w (RetD w (.bool true)) := by
  unfold maxLen at hm
  have H := Lib.hid h
  have H' := Lib.hid h'
  clear h h'
  go_enter Tryz.func22, Tryz.ntmps22
  go_wp2_with fail
  go_loopw [5] (fun i wr => ∃ k : Nat, k ≤ n ∧ i = .int .i64 k ∧ ∃ q, wr = w.drewN q) (fun i _ => n - (intOf i).toNat)
  case atStart => exact ⟨0, by omega, rfl, 0, rfl⟩
  case round =>
    obtain ⟨k, hk, rfl, q, rfl⟩ := hrel
    by_cases hlt : k < n
    · obtain ⟨b, o, x, rfl, hb, hx, R1⟩ := H.out.at_ hlt
      obtain ⟨b', o', y, rfl, hb', hy, R2⟩ := H'.out.at_ hlt
      obtain rfl : x = y := Option.some.inj (hx.symm.trans hy)
      have R1 := Lib.hid R1
      have R2 := Lib.hid R2
      have hlk : (k : Int) < (n : Int) := by omega
      have hk0 : (0 : Int) ≤ (k : Int) := by omega
      have NE' := fun u => neqX_self x u
      clear hx hy
      go_wp2_with fail
      refine wp_region_quiet_lit (by kernel_rfl) (by kernel_rfl) ?_
      repeat (first | (refine wpQuiet_load_mid (rangeAt_drewN2 R1.out) underVert rfl infoVert rfl rfl ?_; simp only [List.set_cons_succ, List.set_cons_zero]) | (refine wpQuiet_load_mid (rangeAt_drewN2 R2.out) underVert rfl infoVert rfl rfl ?_; simp only [List.set_cons_succ, List.set_cons_zero]) | go_big_quiet_step (fail))
      refine wpQuiet_nil ?_
      rintro _ ⟨nq, rfl⟩
      go_wp2_with fail
      go_roundw
      case rel => exact ⟨k + 1, by omega, by go_num, ⟨_, rfl⟩⟩
      case measure => simp [intOf]; omega
    · go_wp2
      go_ret
      exact ⟨rfl, q, rfl⟩
set_option maxRecDepth 100000 in
set_option maxHeartbeats 1000000 in
theorem sameE (l : List EdgeV) (w : World) (A A' : Option Addr) (n c c' : Nat) (h : EdgesAt w A n l) (h' : EdgesAt w A' n l) (hm : n ≤ maxLen) :
    Calls Tryz.prog 25 #[.slice A n c, .slice A' n c'] w (RetD w (.bool true)) := by
  unfold maxLen at hm
  have H := Lib.hid h
  have H' := Lib.hid h'
  clear h h'
  go_enter Tryz.func25, Tryz.ntmps25
  go_wp2_with fail
  go_loopw [5] (fun i wr => ∃ k : Nat, k ≤ n ∧ i = .int .i64 k ∧ ∃ q, wr = w.drewN q) (fun i _ => n - (intOf i).toNat)
  case atStart => exact ⟨0, by omega, rfl, 0, rfl⟩
  case round =>
    obtain ⟨k, hk, rfl, q, rfl⟩ := hrel
    by_cases hlt : k < n
    · obtain ⟨b, o, x, rfl, hb, hx, R1⟩ := H.out.at_ hlt
      obtain ⟨b', o', y, rfl, hb', hy, R2⟩ := H'.out.at_ hlt
      obtain rfl : x = y := Option.some.inj (hx.symm.trans hy)
      have R1 := Lib.hid R1
      have R2 := Lib.hid R2
      have hlk : (k : Int) < (n : Int) := by omega
      have hk0 : (0 : Int) ≤ (k : Int) := by omega
      have NE' := fun u => neqE_self x u
      clear hx hy
      go_wp2_with fail
      refine wp_region_quiet_lit (by kernel_rfl) (by kernel_rfl) ?_
      repeat (first | (refine wpQuiet_load_mid (rangeAt_drewN2 R1.out) underEdge rfl infoEdge rfl rfl ?_; simp only [List.set_cons_succ, List.set_cons_zero]) | (refine wpQuiet_load_mid (rangeAt_drewN2 R2.out) underEdge rfl infoEdge rfl rfl ?_; simp only [List.set_cons_succ, List.set_cons_zero]) | go_big_quiet_step (fail))
      refine wpQuiet_nil ?_
      rintro _ ⟨nq, rfl⟩
      go_wp2_with fail
      go_roundw
      case rel => exact ⟨k + 1, by omega, by go_num, ⟨_, rfl⟩⟩
      case measure => simp [intOf]; omega
    · go_wp2
      go_ret
      exact ⟨rfl, q, rfl⟩
end Go.Proofs.YtfnhmbflmifhcaaGreat

/- The document's graph: which patches there are: walked. -/
namespace Go.Proofs.YtfnhmbflmifhcaaGreat
open Go.RowKit

theorem fieldG20 (g : Nat) (w : World) : (Instr.fieldAt 28 (.pointer (some ⟨g, 0, none⟩)) 0).run Tryz.prog w = .ok (.pointer (some ⟨g, 0, none⟩)) w := by simp [go_sem]
theorem loadPats20 (b o : Nat) (w : World) (A : Option Addr) (n c : Nat) (h : w.cell? ⟨b, o, none⟩ = some (.slice A n c)) : (Instr.loadAt 22 (.pointer (some ⟨b, o, none⟩))).run Tryz.prog w = .ok (.slice A n c) w := by simp [go_sem, h]
theorem indexPats20r (b o n c k : Nat) (hk : k < n) (w : World) : (Instr.indexAt 22 (.slice (some ⟨b, o, none⟩) n c) (.int .i64 ((k : Nat) : Int))).run Tryz.prog w = .ok (.pointer (some ⟨b, o + k * 4, none⟩)) w := by
  have h0 : (0 : Int) ≤ (k : Int) := by omega
  have h1 : (k : Int) < (n : Int) := by omega
  simp [go_sem, h0, h1]
theorem fieldPat20r (b o : Nat) (w : World) : (Instr.fieldAt 37 (.pointer (some ⟨b, o, none⟩)) 0).run Tryz.prog w = .ok (.pointer (some ⟨b, o, none⟩)) w := by simp [go_sem]
set_option maxRecDepth 100000 in
set_option maxHeartbeats 4000000 in
theorem rvec20_any (l : List PatV) (w : World) (A : Option Addr) (n c : Nat) (h : PatsAt w A n l) (hm : n ≤ maxLen) :
    Calls Tryz.prog 71 #[.agg #[.slice A n c]] w (RetB w (.agg (vecA (vecL l)))) := by
  unfold maxLen at hm
  have KG : Hid (Blk (((w.alloc (.cells #[.slice A n c] 28)).alloc (.cells (vecA vec0) 67)).alloc (.cells (vecA vec0) 67)) w.heap.size 28 #[.slice A n c]) := ((Blk.new _ _ _).alloc _).alloc _
  have KR : Hid (Blk (((w.alloc (.cells #[.slice A n c] 28)).alloc (.cells (vecA vec0) 67)).alloc (.cells (vecA vec0) 67)) (w.heap.size + 1) 67 (vecA vec0)) := (Blk.newAt (by simp) _ _).alloc _
  have KV : Hid (Blk (((w.alloc (.cells #[.slice A n c] 28)).alloc (.cells (vecA vec0) 67)).alloc (.cells (vecA vec0) 67)) (w.heap.size + 1 + 1) 67 (vecA (vecL (l.take 0)))) := by rw [List.take_zero]; exact Blk.newAt (by simp) _ _
  have B0 : Hid (Below w.heap.size w (((w.alloc (.cells #[.slice A n c] 28)).alloc (.cells (vecA vec0) 67)).alloc (.cells (vecA vec0) 67))) := (((Below.refl _ _).alloc (Nat.le_refl _) _).alloc (by simp) _).alloc (by simp; omega) _
  have H0 := Lib.hid h
  have hgv : Hid (w.heap.size ≤ w.heap.size + 1 + 1) := by rw [Hid]; omega
  have hgrw : Hid (w.heap.size ≤ w.heap.size + 1) := by rw [Hid]; omega
  have hne : Hid (w.heap.size + 1 ≠ w.heap.size + 1 + 1) := by show ¬ _; omega
  have hne2 : Hid (w.heap.size ≠ w.heap.size + 1 + 1) := by show ¬ _; omega
  have hsz0 : Hid ((vecA vec0).size = 64) := by rw [Hid, vecA_size]; exact vec0_ok.len
  have hcU : ∀ args u, (callFunc 144 args).run Tryz.prog u = .ok (.enter 144 args) u := enters_of Tryz.func144 (by kernel_rfl) rfl
  clear h
  go_enter Tryz.func71, Tryz.ntmps71
  go_upto_region 2 with (refine wpList_alloced (alloc64 _) ?_)
  rw [show ((w.alloc (.cells #[.slice A n c] 28)).alloc (.cells (vecA vec0) 67)).heap.size = w.heap.size + 1 + 1 by simp, show (w.alloc (.cells #[.slice A n c] 28)).heap.size = w.heap.size + 1 by simp]
  generalize (((w.alloc (.cells #[.slice A n c] 28)).alloc (.cells (vecA vec0) 67)).alloc (.cells (vecA vec0) 67)) = w2 at *
  obtain ⟨gv, hgv'⟩ : ∃ g, g = w.heap.size + 1 + 1 := ⟨_, rfl⟩
  obtain ⟨gr, hgr⟩ : ∃ g, g = w.heap.size + 1 := ⟨_, rfl⟩
  obtain ⟨gg, hgg⟩ : ∃ g, g = w.heap.size := ⟨_, rfl⟩
  rw [← hgv'] at KV hgv hne hne2 ⊢
  rw [← hgr] at KR hgrw hne ⊢
  rw [← hgg] at KG hne2 ⊢
  replace hgv' := Lib.hid hgv'
  replace hgr := Lib.hid hgr
  replace hgg := Lib.hid hgg
  go_wp2_with fail
  have BS := Lib.hid (Below.refl (w2.heap.size) w2)
  go_loopw [4] (fun i wr => ∃ k : Nat, k ≤ n ∧ i = .int .i64 k ∧ Hid (Blk wr gv 67 (vecA (vecL (l.take k)))) ∧ Hid (Blk wr gr 67 (vecA vec0)) ∧ Hid (Blk wr gg 28 #[.slice A n c]) ∧ Hid (Below w.heap.size w wr)) (fun i _ => n - (intOf i).toNat)
  case atStart => exact ⟨0, by omega, rfl, KV.out, KR.out, KG.out, B0.out⟩
  case round =>
    clear KV KR KG BS
    obtain ⟨k, hk, rfl, KV, KR, KG, B⟩ := hrel
    have yg : wr.cell? ⟨gg, 0, none⟩ = some (.slice A n c) := KG.out.cell 0
    have hk0 : (0 : Int) ≤ (k : Int) := by omega
    by_cases hlt : k < n
    · have hlk : (k : Int) < (n : Int) := by omega
      obtain ⟨b, o, p, r, rfl, hb, hp, pa, R⟩ := (H0.out.ext B.out).at_ hlt
      obtain ⟨⟨A3, c3, A4, c4, rfl, _, _⟩, _, _⟩ := pa
      have RP := Lib.hid (pid_range R)
      have hbl := Lib.hid hb
      have RV := Lib.hid (blk_vec KV.out)
      have gvl : Hid (gv < wr.heap.size) := KV.out.lt
      have N : Hid (vecL (l.take (k + 1)) = putW (vecL (l.take k)) p.1) := by rw [Hid, take_snoc' hp, vecL_snoc]
      have HVW : Hid (VecOk (putW (vecL (l.take k)) p.1)) := putV_ok (vecL_ok _) _ _
      have hsz1 : Hid ((vecA (putW (vecL (l.take k)) p.1)).size = 64) := by rw [Hid, vecA_size]; exact HVW.out.len
      have hszk : Hid ((vecA (vecL (l.take k))).size = 64) := by rw [Hid, vecA_size]; exact (vecL_ok _).len
      have hsz2 : Hid ((Tryz.prog.info? 67).map (·.size) = some (vecA (putW (vecL (l.take k)) p.1)).size) := by rw [Hid, hsz1.out]; exact info64
      have hone := Lib.hid (vecA_one (putW (vecL (l.take k)) p.1))
      have HP := Lib.hid (fun u => rput12_any (vecL (l.take k)) (vecL_ok _) p.1 u)
      have HIX : Hid (∀ u : World, (Instr.indexAt 22 (.slice (some ⟨b, o, none⟩) n c) (.int .i64 ((k : Nat) : Int))).run Tryz.prog u = .ok (.pointer (some ⟨b, o + k * 4, none⟩)) u) := fun u => indexPats20r b o n c k hlt u
      clear R hp
      go_upto_region 5 with fail
      clear yg
      go_cut [5] (fun pv wx => ∃ gn, pv = .pointer (some ⟨gn, 0, none⟩) ∧ Blk wx gn 67 (vecA (putW (vecL (l.take k)) p.1)) ∧ Below wr.heap.size wr wx)
      case first =>
        refine wp_region_held (S := fun w' => Below wr.heap.size wr w') mixedS ?_
        change wpAnyH _ _ _ _ _ _ _ _ wr.drew
        have B5 : Hid (Below wr.heap.size wr wr.drew) := (Below.refl _ _).drew
        generalize wr.drew = w5 at B5 ⊢
        simp only [List.size_toArray, List.length_cons, List.length_nil]
        refine takeV (i := 0) (d := 15) (v := .agg (vecA (vecL (l.take k)))) rfl (by kernel_rfl) (by kernel_rfl) (by kernel_rfl) (fun _ _ _ h => h) rfl (fun w' h => exMid rfl (rangeAt_below RV.out h gvl.out) under64 rfl (info64' (vecL_ok _))) B5.out ?_
        simp only [Act.put, List.setIfInBounds_toArray, List.set_cons_zero, List.set_cons_succ]
        refine takeV (i := 1) (d := 16) (v := .pointer (some ⟨gg, 0, none⟩)) rfl (by kernel_rfl) (by kernel_rfl) (by kernel_rfl) (fun _ _ _ h => h) rfl (fun w' _ => exField rfl (fieldG20 gg w')) B5.out ?_
        simp only [Act.put, List.setIfInBounds_toArray, List.set_cons_zero, List.set_cons_succ]
        refine takeV (i := 2) (d := 17) (v := .slice (some ⟨b, o, none⟩) n c) rfl (by kernel_rfl) (by kernel_rfl) (by kernel_rfl) (fun _ _ _ h => h) rfl (fun w' h => exLoad rfl (loadPats20 gg 0 w' _ _ _ ((KG.out.ext h).cell 0))) B5.out ?_
        simp only [Act.put, List.setIfInBounds_toArray, List.set_cons_zero, List.set_cons_succ]
        refine takeV (i := 3) (d := 18) (v := .int .i64 ((k : Nat) : Int)) rfl (by kernel_rfl) (by kernel_rfl) (by kernel_rfl) (fun _ _ _ h => h) rfl (fun _ _ => exMove (v := .int .i64 ((k : Nat) : Int)) rfl) B5.out ?_
        simp only [Act.put, List.setIfInBounds_toArray, List.set_cons_zero, List.set_cons_succ]
        refine takeV (i := 4) (d := 19) (v := .pointer (some ⟨b, o + k * 4, none⟩)) rfl (by kernel_rfl) (by kernel_rfl) (by kernel_rfl) (fun _ _ _ h => h) rfl (fun w' _ => exIndex rfl rfl (HIX.out w')) B5.out ?_
        simp only [Act.put, List.setIfInBounds_toArray, List.set_cons_zero, List.set_cons_succ]
        refine takeV (i := 5) (d := 20) (v := .pointer (some ⟨b, o + k * 4, none⟩)) rfl (by kernel_rfl) (by kernel_rfl) (by kernel_rfl) (fun _ _ _ h => h) rfl (fun w' _ => exField rfl (fieldPat20r b (o + k * 4) w')) B5.out ?_
        simp only [Act.put, List.setIfInBounds_toArray, List.set_cons_zero, List.set_cons_succ]
        refine takeV (i := 6) (d := 21) (v := .agg (encP p.1).toArray) rfl (by kernel_rfl) (by kernel_rfl) (by kernel_rfl) (fun _ _ _ h => h) rfl (fun w' h => exMid rfl (rangeAt_below RP.out h hbl.out) underPid rfl infoPid) B5.out ?_
        simp only [Act.put, List.setIfInBounds_toArray, List.set_cons_zero, List.set_cons_succ]
        refine wpAnyH_all (rs := [7, 11]) (by kernel_rfl) (by simp) ?_
        intro i hi
        simp only [List.mem_cons, List.not_mem_nil, or_false] at hi
        rcases hi with rfl | rfl
        · refine wpOp_of rfl rfl (wp_called (args := #[.agg (vecA (vecL (l.take k))), .agg (encP p.1).toArray]) hcU (by simp only [List.map_toArray, List.map_cons, List.map_nil]; rfl) (HP.out w5) ?_)
          rintro e w_1 ⟨rfl, h_2⟩
          refine ⟨_, rfl, ext_trans B5.out h_2, ?_⟩
          simp only [Act.put, List.setIfInBounds_toArray, List.set_cons_zero, List.set_cons_succ]
          have B_3 := Lib.hid (ext_trans B5.out h_2)
          clear B5
          clear h_2
          refine takeV (i := 8) (d := 14) (v := .tuple #[.agg (vecA (putW (vecL (l.take k)) p.1)), .bool (putB (vecL (l.take k)) p.1)]) rfl (by kernel_rfl) (by kernel_rfl) (by kernel_rfl) (fun _ _ _ h => h) rfl (fun _ _ => exMove (v := .tuple #[.agg (vecA (putW (vecL (l.take k)) p.1)), .bool (putB (vecL (l.take k)) p.1)]) rfl) B_3.out ?_
          simp only [Act.put, List.setIfInBounds_toArray, List.set_cons_zero, List.set_cons_succ]
          refine takeV (i := 9) (d := 23) (v := .agg (vecA (putW (vecL (l.take k)) p.1))) rfl (by kernel_rfl) (by kernel_rfl) (by kernel_rfl) (fun _ _ _ h => h) rfl (fun _ _ => exExtract (v := .agg (vecA (putW (vecL (l.take k)) p.1))) rfl rfl) B_3.out ?_
          simp only [Act.put, List.setIfInBounds_toArray, List.set_cons_zero, List.set_cons_succ]
          refine takeV (i := 10) (d := 24) (v := .bool (putB (vecL (l.take k)) p.1)) rfl (by kernel_rfl) (by kernel_rfl) (by kernel_rfl) (fun _ _ _ h => h) rfl (fun _ _ => exExtract (v := .bool (putB (vecL (l.take k)) p.1)) rfl rfl) B_3.out ?_
          simp only [Act.put, List.setIfInBounds_toArray, List.set_cons_zero, List.set_cons_succ]
          refine wpAnyH_all (rs := [11]) (by kernel_rfl) (by simp) ?_
          intro i hi
          simp only [List.mem_cons, List.not_mem_nil, or_false] at hi
          subst hi
          refine wpOp_of rfl rfl (wp_alloced (alloc64 _) ?_)
          refine ⟨ext_trans B_3.out (below_new _ _), ?_⟩
          simp only [Act.put, List.setIfInBounds_toArray, List.set_cons_zero, List.set_cons_succ]
          have K_4 : Hid (Blk (w_1.alloc (.cells (vecA vec0) 67)) w_1.heap.size 67 (vecA vec0)) := Blk.new _ _ _
          have h_5 : Below w_1.heap.size w_1 (w_1.alloc (.cells (vecA vec0) 67)) := below_new _ _
          have gz_7 : Hid (wr.heap.size ≤ w_1.heap.size) := B_3.out.size
          generalize (w_1.alloc (.cells (vecA vec0) 67)) = w_6 at *
          have B_9 := Lib.hid (ext_trans B_3.out h_5)
          clear B_3
          clear h_5
          generalize w_1.heap.size = g_8 at *
          refine wpAnyH_all (rs := [12]) (by kernel_rfl) (by simp) ?_
          intro i hi
          simp only [List.mem_cons, List.not_mem_nil, or_false] at hi
          subst hi
          refine wpOp_of rfl rfl (wp_stored (cs := (vecA (putW (vecL (l.take k)) p.1))) rfl rfl K_4.out hsz2.out (by rw [hsz0.out, hsz1.out]) hone.out ?_)
          refine ⟨below_setRow B_9.out gz_7.out _, ?_⟩
          have K_10 := Lib.hid (K_4.out.row (vecA (putW (vecL (l.take k)) p.1)))
          have B_11 := Lib.hid (below_setRow B_9.out gz_7.out (vecA (putW (vecL (l.take k)) p.1)))
          clear B_9 K_4
          refine takeV (i := 13) (d := 6) (v := .bool (putB (vecL (l.take k)) p.1)) rfl (by kernel_rfl) (by kernel_rfl) (by kernel_rfl) (fun _ _ _ h => h) rfl (fun _ _ => exAssign (v := .bool (putB (vecL (l.take k)) p.1)) rfl) B_11.out ?_
          simp only [Act.put, List.setIfInBounds_toArray, List.set_cons_zero, List.set_cons_succ]
          refine wpAnyH_done (by kernel_rfl) ?_ _
          go_wp2_with fail
          go_meet
          case rel => exact ⟨_, rfl, K_10.out, B_11.out⟩
        · refine wpOp_of rfl rfl (wp_alloced (alloc64 _) ?_)
          refine ⟨ext_trans B5.out (below_new _ _), ?_⟩
          simp only [Act.put, List.setIfInBounds_toArray, List.set_cons_zero, List.set_cons_succ]
          have K_13 : Hid (Blk (w5.alloc (.cells (vecA vec0) 67)) w5.heap.size 67 (vecA vec0)) := Blk.new _ _ _
          have h_14 : Below w5.heap.size w5 (w5.alloc (.cells (vecA vec0) 67)) := below_new _ _
          have gz_16 : Hid (wr.heap.size ≤ w5.heap.size) := B5.out.size
          generalize (w5.alloc (.cells (vecA vec0) 67)) = w_15 at *
          have B_18 := Lib.hid (ext_trans B5.out h_14)
          clear B5
          clear h_14
          generalize w5.heap.size = g_17 at *
          refine wpAnyH_all (rs := [7]) (by kernel_rfl) (by simp) ?_
          intro i hi
          simp only [List.mem_cons, List.not_mem_nil, or_false] at hi
          subst hi
          refine wpOp_of rfl rfl (wp_called (args := #[.agg (vecA (vecL (l.take k))), .agg (encP p.1).toArray]) hcU (by simp only [List.map_toArray, List.map_cons, List.map_nil]; rfl) (HP.out w_15) ?_)
          rintro e w_19 ⟨rfl, h_20⟩
          refine ⟨_, rfl, ext_trans B_18.out h_20, ?_⟩
          simp only [Act.put, List.setIfInBounds_toArray, List.set_cons_zero, List.set_cons_succ]
          have B_21 := Lib.hid (ext_trans B_18.out h_20)
          have F_22 := Lib.hid (K_13.out.ext h_20)
          clear B_18 K_13
          clear h_20
          refine takeV (i := 8) (d := 14) (v := .tuple #[.agg (vecA (putW (vecL (l.take k)) p.1)), .bool (putB (vecL (l.take k)) p.1)]) rfl (by kernel_rfl) (by kernel_rfl) (by kernel_rfl) (fun _ _ _ h => h) rfl (fun _ _ => exMove (v := .tuple #[.agg (vecA (putW (vecL (l.take k)) p.1)), .bool (putB (vecL (l.take k)) p.1)]) rfl) B_21.out ?_
          simp only [Act.put, List.setIfInBounds_toArray, List.set_cons_zero, List.set_cons_succ]
          refine takeV (i := 9) (d := 23) (v := .agg (vecA (putW (vecL (l.take k)) p.1))) rfl (by kernel_rfl) (by kernel_rfl) (by kernel_rfl) (fun _ _ _ h => h) rfl (fun _ _ => exExtract (v := .agg (vecA (putW (vecL (l.take k)) p.1))) rfl rfl) B_21.out ?_
          simp only [Act.put, List.setIfInBounds_toArray, List.set_cons_zero, List.set_cons_succ]
          refine takeV (i := 10) (d := 24) (v := .bool (putB (vecL (l.take k)) p.1)) rfl (by kernel_rfl) (by kernel_rfl) (by kernel_rfl) (fun _ _ _ h => h) rfl (fun _ _ => exExtract (v := .bool (putB (vecL (l.take k)) p.1)) rfl rfl) B_21.out ?_
          simp only [Act.put, List.setIfInBounds_toArray, List.set_cons_zero, List.set_cons_succ]
          refine wpAnyH_all (rs := [12]) (by kernel_rfl) (by simp) ?_
          intro i hi
          simp only [List.mem_cons, List.not_mem_nil, or_false] at hi
          subst hi
          refine wpOp_of rfl rfl (wp_stored (cs := (vecA (putW (vecL (l.take k)) p.1))) rfl rfl F_22.out hsz2.out (by rw [hsz0.out, hsz1.out]) hone.out ?_)
          refine ⟨below_setRow B_21.out gz_16.out _, ?_⟩
          have K_23 := Lib.hid (F_22.out.row (vecA (putW (vecL (l.take k)) p.1)))
          have B_24 := Lib.hid (below_setRow B_21.out gz_16.out (vecA (putW (vecL (l.take k)) p.1)))
          clear B_21 F_22
          refine takeV (i := 13) (d := 6) (v := .bool (putB (vecL (l.take k)) p.1)) rfl (by kernel_rfl) (by kernel_rfl) (by kernel_rfl) (fun _ _ _ h => h) rfl (fun _ _ => exAssign (v := .bool (putB (vecL (l.take k)) p.1)) rfl) B_24.out ?_
          simp only [Act.put, List.setIfInBounds_toArray, List.set_cons_zero, List.set_cons_succ]
          refine wpAnyH_done (by kernel_rfl) ?_ _
          go_wp2_with fail
          go_meet
          case rel => exact ⟨_, rfl, K_23.out, B_24.out⟩
      case rest =>
        obtain ⟨gn, rfl, kn, bx⟩ := hcut
        obtain ⟨wx, rfl⟩ : ∃ wx, wx = wc := ⟨_, rfl⟩
        have KN := Lib.hid kn
        have KV := Lib.hid (KV.out.ext bx)
        have KG := Lib.hid (KG.out.ext bx)
        have KR := Lib.hid (KR.out.ext bx)
        have B := Lib.hid (B.out.trans (bx.mono B.out.size))
        clear kn bx RV RP HP HIX
        go_wp2_with (first
          | (refine wpList_load_row rfl 67 _ (by rfl) gn (by rfl) _ _ _ _ KN.out under64 rfl (by rw [hsz1.out]; exact info64) ?_)
          | (refine wpList_store_row rfl 67 _ _ (by rfl) gv (vecA (putW (vecL (l.take k)) p.1)) (by rfl) (by rfl) _ _ KV.out hsz2.out (by rw [hszk.out, hsz1.out]) hone.out ?_))
        go_roundw
        case rel => exact ⟨k + 1, by omega, by go_num, by rw [N.out]; exact KV.out.row _, KR.out.rowFar hne.out _, KG.out.rowFar hne2.out _, below_setRow B.out hgv.out _⟩
        case measure => simp [intOf]; omega
    · have hk' : k = n := by omega
      subst hk'
      rw [List.take_of_length_le (Nat.le_of_eq H0.out.len)] at KV
      have hszk : Hid ((vecA (vecL l)).size = 64) := by rw [Hid, vecA_size]; exact (vecL_ok _).len
      have hone := Lib.hid (vecA_one (vecL l))
      go_wp2_with (first
        | (refine wpList_load_row rfl 67 _ (by rfl) gv (by rfl) _ _ _ _ KV.out under64 rfl (by rw [hszk.out]; exact info64) ?_)
        | (refine wpList_store_row rfl 67 _ _ (by rfl) gr (vecA (vecL l)) (by rfl) (by rfl) _ _ KR.out (by rw [hszk.out]; exact info64) (by rw [hszk.out, hsz0.out]) hone.out ?_))
      refine bodyPost_ret (results_cell_row rfl _ _ gr _ (vecA (vecL l)) _ _ rfl (KR.out.row _) under64 rfl (by rw [hszk.out]; exact info64)) rfl ?_
      exact ⟨rfl, below_setRow B.out hgrw.out _⟩
end Go.Proofs.YtfnhmbflmifhcaaGreat

/- The document's graph: a step put into a list: walked. -/
namespace Go.Proofs.YtfnhmbflmifhcaaGreat
open Go.RowKit

theorem equalE20 (x y : EdgeV) (w : World) : (Op.equal 64 (.agg (encE x).toArray) (.agg (encE y).toArray)).run Tryz.prog w = .ok (decide (x = y)) w := by
  obtain ⟨kx, hkx⟩ := kKeyE x
  obtain ⟨ky, hky⟩ := kKeyE y
  obtain ⟨r, hr, hiff⟩ := run_equal_deep (P := Tryz.prog) w (m := 4) (by omega) (k := 64) (by kernel_rfl) (by kernel_rfl) hkx hky
  have hd : r = decide (x = y) := by
    rw [Bool.eq_iff_iff, hiff, decide_eq_true_eq]
    constructor
    · intro e
      subst e
      exact encEa_inj (kLawE.inj hkx hky)
    · rintro rfl
      rw [hkx] at hky
      exact Option.some.inj hky
  rw [← hd]
  exact hr
theorem eqlE20 (x y : EdgeV) (w : World) : (binOp .eql 64 (.agg (encE x).toArray) (.agg (encE y).toArray)).run Tryz.prog w = .ok (.bool (decide (x = y))) w := by
  have hr : (Op.equalIn 10000 64 (.agg (encE x).toArray) (.agg (encE y).toArray)).run Tryz.prog w = .ok (decide (x = y)) w := equalE20 x y w
  generalize (encE x).toArray = E at *
  generalize (encE y).toArray = E' at *
  simp [go_sem, hr]
theorem neqE20 (x y : EdgeV) (w : World) : (binOp .neq 64 (.agg (encE x).toArray) (.agg (encE y).toArray)).run Tryz.prog w = .ok (.bool (!decide (x = y))) w := by
  have hr : (Op.equalIn 10000 64 (.agg (encE x).toArray) (.agg (encE y).toArray)).run Tryz.prog w = .ok (decide (x = y)) w := equalE20 x y w
  generalize (encE x).toArray = E at *
  generalize (encE y).toArray = E' at *
  simp [go_sem, hr]
theorem e_fst {w : World} {b o : Nat} {x : EdgeV} (h : w.rangeAt b o (encE x)) : w.rangeAt b o (encV x.1) := fun j v hj =>
  match j, hj with
  | 0, hj => h 0 v hj
  | 1, hj => h 1 v hj
  | 2, hj => h 2 v hj
  | j + 3, hj => by simp [encV] at hj
theorem e_snd {w : World} {b o : Nat} {x : EdgeV} (h : w.rangeAt b o (encE x)) : w.rangeAt b (o + 3) (encV x.2) := fun j v hj =>
  match j, hj with
  | 0, hj => h 3 v hj
  | 1, hj => h 4 v hj
  | 2, hj => h 5 v hj
  | j + 3, hj => by simp [encV] at hj
theorem eqlVt {x y : VidV} (h : x = y) (u : World) : (binOp .neq 43 (.agg (encV x).toArray) (.agg (encV y).toArray)).run Tryz.prog u = .ok (.bool false) u := by rw [neqV, decide_eq_true h]; rfl
theorem eqlVf {x y : VidV} (h : ¬ x = y) (u : World) : (binOp .neq 43 (.agg (encV x).toArray) (.agg (encV y).toArray)).run Tryz.prog u = .ok (.bool true) u := by rw [neqV, decide_eq_false h]; rfl
theorem signV_low (a b : Int) : decide (signV a b < 0) = decide (a < b) := by
  rcases Int.lt_trichotomy a b with h | h | h
  · rw [signV_lt h, decide_eq_true h]; rfl
  · rw [signV_eq h, decide_eq_false (show ¬ a < b by omega)]; rfl
  · rw [signV_gt h, decide_eq_false (show ¬ a < b by omega)]; rfl
set_option maxRecDepth 100000 in
set_option maxHeartbeats 2000000 in
theorem rahead_any (x y : EdgeV) (w : World) : Calls Tryz.prog 190 #[.agg (encE x).toArray, .agg (encE y).toArray] w (RetB w (.bool (decide (keyE x < keyE y)))) := by
  have K1 : Hid (Blk ((w.alloc (.cells (encE x).toArray 64)).alloc (.cells (encE y).toArray 64)) w.heap.size 64 (encE x).toArray) := (Blk.new _ _ _).alloc _
  have K2 : Hid (Blk ((w.alloc (.cells (encE x).toArray 64)).alloc (.cells (encE y).toArray 64)) (w.heap.size + 1) 64 (encE y).toArray) := Blk.newAt (by simp) _ _
  have B0 : Hid (Below w.heap.size w ((w.alloc (.cells (encE x).toArray 64)).alloc (.cells (encE y).toArray 64))) := ((Below.refl _ _).alloc (Nat.le_refl _) _).alloc (by simp) _
  go_enter Tryz.func190, Tryz.ntmps190
  go_upto_region 1 with fail
  generalize ((w.alloc (.cells (encE x).toArray 64)).alloc (.cells (encE y).toArray 64)) = w2 at *
  obtain ⟨g2, hg2⟩ : ∃ g, g = w.heap.size + 1 := ⟨_, rfl⟩
  obtain ⟨g1, hg1⟩ : ∃ g, g = w.heap.size := ⟨_, rfl⟩
  rw [← hg2] at K2 ⊢
  rw [← hg1] at K1 ⊢
  replace hg1 := Lib.hid hg1
  replace hg2 := Lib.hid hg2
  have R1 := Lib.hid (e_fst (blk_pat K1.out))
  have R2 := Lib.hid (e_fst (blk_pat K2.out))
  have S1 := Lib.hid (e_snd (blk_pat K1.out))
  have S2 := Lib.hid (e_snd (blk_pat K2.out))
  have b1 := keyV_bd x.2
  have b2 := keyV_bd y.2
  by_cases h : x.1 = y.1
  · have NE := eqlVt h
    have E : Hid (decide (keyE x < keyE y) = decide (signV (keyV x.2) (keyV y.2) < 0)) := by
      rw [Hid, signV_low]
      unfold keyE
      rw [h, Bool.eq_iff_iff, decide_eq_true_eq, decide_eq_true_eq]
      omega
    have HC := Lib.hid (rcmpV x.2 y.2 w2)
    generalize signV (keyV x.2) (keyV y.2) = s at *
    clear h b1 b2
    go_wp2_with (first
      | (refine wpList_load_mid rfl 43 _ (by rfl) g1 0 (by rfl) _ _ R1.out underVid rfl infoVid ?_)
      | (refine wpList_load_mid rfl 43 _ (by rfl) g2 0 (by rfl) _ _ R2.out underVid rfl infoVid ?_)
      | (refine wpList_load_mid rfl 43 _ (by rfl) g1 (0 + 3) (by rfl) _ _ S1.out underVid rfl infoVid ?_)
      | (refine wpList_load_mid rfl 43 _ (by rfl) g2 (0 + 3) (by rfl) _ _ S2.out underVid rfl infoVid ?_))
    refine HC.out.mono ?_
    rintro e w3 ⟨rfl, b3⟩
    have B3 := Lib.hid (B0.out.trans (b3.mono B0.out.size))
    clear b3 HC NE
    go_wp2_with fail
    go_ret
    exact ⟨ret_bool E.out.symm, B3.out⟩
  · have NE := eqlVf h
    have E : Hid (decide (keyE x < keyE y) = decide (signV (keyV x.1) (keyV y.1) < 0)) := by
      rw [Hid, signV_low]
      have hk : keyV x.1 ≠ keyV y.1 := fun e => h (keyV_inj _ _ e)
      unfold keyE
      rw [Bool.eq_iff_iff, decide_eq_true_eq, decide_eq_true_eq]
      omega
    have HC := Lib.hid (rcmpV x.1 y.1 w2)
    generalize signV (keyV x.1) (keyV y.1) = s at *
    clear h b1 b2
    go_wp2_with (first
      | (refine wpList_load_mid rfl 43 _ (by rfl) g1 0 (by rfl) _ _ R1.out underVid rfl infoVid ?_)
      | (refine wpList_load_mid rfl 43 _ (by rfl) g2 0 (by rfl) _ _ R2.out underVid rfl infoVid ?_))
    refine HC.out.mono ?_
    rintro e w3 ⟨rfl, b3⟩
    have B3 := Lib.hid (B0.out.trans (b3.mono B0.out.size))
    clear b3 HC NE
    go_wp2_with fail
    go_ret
    exact ⟨ret_bool E.out.symm, B3.out⟩
theorem put_yes (key : EdgeV → Int) {x y : EdgeV} {s : List EdgeV × Bool} (h : s.2 = true) (hne : y ≠ x) : putStep key x s y = (s.1 ++ [y], true) := by unfold putStep; simp [h, hne]
theorem put_drop (key : EdgeV → Int) {x y : EdgeV} {s : List EdgeV × Bool} (h : s.2 = true) (he : y = x) : putStep key x s y = (s.1, true) := by unfold putStep; simp [h, he]
theorem put_here (key : EdgeV → Int) {x y : EdgeV} {s : List EdgeV × Bool} (h : s.2 = false) (he : y = x) : putStep key x s y = (s.1 ++ [x], true) := by unfold putStep; simp [h, he]
theorem put_ahead (key : EdgeV → Int) {x y : EdgeV} {s : List EdgeV × Bool} (h : s.2 = false) (hne : y ≠ x) (hl : key x < key y) : putStep key x s y = (s.1 ++ [x] ++ [y], true) := by unfold putStep; simp [h, hne, hl]
theorem put_later (key : EdgeV → Int) {x y : EdgeV} {s : List EdgeV × Bool} (h : s.2 = false) (hne : y ≠ x) (hl : ¬ key x < key y) : putStep key x s y = (s.1 ++ [y], false) := by unfold putStep; simp [h, hne, hl]
theorem eqE_t {x y : EdgeV} (h : x = y) (u : World) : (binOp .eql 64 (.agg (encE x).toArray) (.agg (encE y).toArray)).run Tryz.prog u = .ok (.bool true) u := by rw [eqlE20, decide_eq_true h]
theorem eqE_f {x y : EdgeV} (h : ¬ x = y) (u : World) : (binOp .eql 64 (.agg (encE x).toArray) (.agg (encE y).toArray)).run Tryz.prog u = .ok (.bool false) u := by rw [eqlE20, decide_eq_false h]
theorem neE_t {x y : EdgeV} (h : ¬ x = y) (u : World) : (binOp .neq 64 (.agg (encE x).toArray) (.agg (encE y).toArray)).run Tryz.prog u = .ok (.bool true) u := by rw [neqE20, decide_eq_false h]; rfl
theorem neE_f {x y : EdgeV} (h : x = y) (u : World) : (binOp .neq 64 (.agg (encE x).toArray) (.agg (encE y).toArray)).run Tryz.prog u = .ok (.bool false) u := by rw [neqE20, decide_eq_true h]; rfl
theorem flat_snocE (mo : List EdgeV) (y : EdgeV) : (mo ++ [y]).flatMap encE = mo.flatMap encE ++ encE y := by simp
set_option maxRecDepth 100000 in
set_option maxHeartbeats 8000000 in
theorem rput20_any (l : List EdgeV) (x : EdgeV) (hl : RiseK keyE l) (w : World) (A : Option Addr) (n c : Nat) (h : EdgesAt w A n l) (hm : n ≤ 100000) :
    Calls Tryz.prog 146 #[.slice A n c, .agg (encE x).toArray] w (OwnedRet w 64 6 (insK keyE x l).length ((insK keyE x l).flatMap encE)) := by
  have E : Hid (endK x (l.foldl (putStep keyE x) ([], false)) = insK keyE x l) := by rw [Hid, putK_foldl keyE_inj x l [] hl, List.nil_append]
  have hln := Lib.hid h.len
  have B0 : Hid (Below w.heap.size w (w.alloc (.cells (encE x).toArray 64))) := below_new _ _
  have KE : Hid (Blk (w.alloc (.cells (encE x).toArray 64)) w.heap.size 64 (encE x).toArray) := Blk.new _ _ _
  have H2 := Lib.hid (h.ext B0.out)
  have hlen : Hid (∀ k, ((l.take k).foldl (putStep keyE x) ([], false)).1.length ≤ 200000) := fun k => by
    have h1 := putStep_len (key := keyE) x (l.take k) ([], false)
    have h2 : (l.take k).length ≤ 100000 := by rw [List.length_take, hln.out]; omega
    simp only [List.length_nil] at h1
    omega
  clear h hl
  go_enter Tryz.func146, Tryz.ntmps146
  go_upto_region 1 with fail
  generalize (w.alloc (.cells (encE x).toArray 64)) = w2 at *
  have hw2 : Hid (w.heap.size ≤ w2.heap.size) := B0.out.size
  obtain ⟨ge, hge⟩ : ∃ g, g = w.heap.size := ⟨_, rfl⟩
  rw [← hge] at KE ⊢
  replace hge := Lib.hid hge
  have BS := Lib.hid (Below.refl w2.heap.size w2)
  go_wp2_with fail
  go_loopw [7, 5, 6] (fun i v t wr => ∃ (k : Nat) (S : List EdgeV × Bool), k ≤ n ∧ i = .int .i64 k ∧ Hid (S = (l.take k).foldl (putStep keyE x) ([], false)) ∧ t = .bool S.2 ∧ Hid (wr.ownsRow w2.heap.size 64 6 v S.1.length (S.1.flatMap encE)) ∧ Hid (Below w2.heap.size w2 wr)) (fun i _ _ _ => n - (intOf i).toNat)
  case atStart => exact ⟨0, ([], false), by omega, rfl, rfl, rfl, World.ownsRow_nil _ _ _ _, BS.out⟩
  case round =>
    clear BS
    obtain ⟨k, S, hk, rfl, hS, rfl, OW, B⟩ := hrel
    obtain ⟨wi, rfl⟩ : ∃ wx, wx = wr := ⟨_, rfl⟩
    have hk0 : (0 : Int) ≤ (k : Int) := by omega
    have hSl : Hid (S.1.length ≤ 200000) := by rw [Hid, hS.out]; exact hlen.out k
    by_cases hlt : k < n
    · have hlk : (k : Int) < (n : Int) := by omega
      obtain ⟨b, o, y, rfl, hb, hy, R⟩ := H2.out.at_ hlt
      have hN : Hid (putStep keyE x S y = (l.take (k + 1)).foldl (putStep keyE x) ([], false)) := by
        rw [Hid, List.take_add_one, hy, List.foldl_append, ← hS.out]; rfl
      have R0 := Lib.hid R
      have hb0 := Lib.hid hb
      clear R hb hy
      obtain ⟨S1, S2⟩ := S
      replace OW : Hid (wi.ownsRow w2.heap.size 64 6 _ S1.length (S1.flatMap encE)) := OW
      replace hSl : Hid (S1.length ≤ 200000) := hSl
      go_upto_region 6 with fail
      cases S2
      · by_cases he : y = x
        · have hP := Lib.hid (hN.out.symm.trans (put_here keyE rfl he))
          have EQ := eqE_t he
          have NE := neE_f he
          clear hN hS
          replace he := Lib.hid he
          have KEs := Lib.hid (KE.out.ext B.out)
          have RE := Lib.hid (blk_pat KEs.out)
          have hel : Hid (ge < wi.heap.size) := KEs.out.lt
          have RX := Lib.hid (rangeAt_below R0.out B.out hb0.out)
          have hbl : Hid (b < wi.heap.size) := Nat.lt_of_lt_of_le hb0.out B.out.size
          refine wp_region_ext mixedS (by kernel_rfl) ?_
          repeat (first
            | go_big_quiet_skip
            | (refine wpQuiet_load_mid (rangeAt_ext RX.out hbl.out) underEdge rfl infoEdge rfl rfl ?_; simp only [List.set_cons_succ, List.set_cons_zero])
            | (refine wpQuiet_load_mid (rangeAt_ext RE.out hel.out) underEdge rfl infoEdge rfl rfl ?_; simp only [List.set_cons_succ, List.set_cons_zero])
            | go_big_quiet_step (fail))
          refine wpQuiet_nil ?_
          rintro _ ⟨z, rfl⟩
          have B6 := Lib.hid (B.out.trans (z.h.mono B.out.size))
          have OW6 := Lib.hid (own_ext OW.out z.h)
          generalize z.w = w6 at *
          clear OW B RX RE hel hbl KEs
          have KE6 := Lib.hid (KE.out.ext B6.out)
          have hbs := B6.out.size
          have hll : (S1).length ≤ 200001 := by have := hSl.out; omega
          go_upto_region 9 with (first
            | (refine wpList_load_row rfl 64 _ (by rfl) ge (by rfl) _ _ _ _ KE6.out underEdge rfl infoEdge ?_)
            | (refine wpList_lit1 edgeSl (encE_len x) (by omega) (by rfl) ?_)
            | (at_builtin; refine wpList_push edgeSl OW6.out (encE x) rfl (encE_one x) hbs (by omega) (by unfold maxLen; omega) (by rfl) (by rfl) (by rfl) ?_; intro vn w7 own1 bel1))
          have OW7 : Hid (w7.ownsRow w2.heap.size 64 6 vn (S1 ++ [x]).length ((S1 ++ [x]).flatMap encE)) := by
            rw [Hid, List.length_append, flat_snocE]; exact own1
          have B7 := Lib.hid (B6.out.trans bel1)
          clear own1 bel1 OW6 B6 hbs hll
          clear KE6
          have KEs := Lib.hid (KE.out.ext B7.out)
          have RE := Lib.hid (blk_pat KEs.out)
          have hel : Hid (ge < w7.heap.size) := KEs.out.lt
          have RX := Lib.hid (rangeAt_below R0.out B7.out hb0.out)
          have hbl : Hid (b < w7.heap.size) := Nat.lt_of_lt_of_le hb0.out B7.out.size
          refine wp_region_ext mixedS (by kernel_rfl) ?_
          repeat (first
            | go_big_quiet_skip
            | (refine wpQuiet_load_mid (rangeAt_ext RX.out hbl.out) underEdge rfl infoEdge rfl rfl ?_; simp only [List.set_cons_succ, List.set_cons_zero])
            | (refine wpQuiet_load_mid (rangeAt_ext RE.out hel.out) underEdge rfl infoEdge rfl rfl ?_; simp only [List.set_cons_succ, List.set_cons_zero])
            | go_big_quiet_step (fail))
          refine wpQuiet_nil ?_
          rintro _ ⟨z, rfl⟩
          have B8 := Lib.hid (B7.out.trans (z.h.mono B7.out.size))
          have OW8 := Lib.hid (own_ext OW7.out z.h)
          generalize z.w = w8 at *
          clear OW7 B7 RX RE hel hbl KEs
          go_wp2_with fail
          go_roundw
          case rel => exact ⟨k + 1, _, by omega, by go_num, hP.out.symm, rfl, OW8.out, B8.out⟩
          case measure => simp [intOf]; omega
        · by_cases hl : keyE x < keyE y
          · have hP := Lib.hid (hN.out.symm.trans (put_ahead keyE rfl he hl))
            have EQ := eqE_f he
            have NE := neE_t he
            have HA : Hid (∀ u, Calls Tryz.prog 190 #[.agg (encE x).toArray, .agg (encE y).toArray] u (RetB u (.bool true))) := fun u => by rw [← decide_eq_true hl]; exact rahead_any x y u
            clear hN hS
            replace he := Lib.hid he
            replace hl := Lib.hid hl
            have KEs := Lib.hid (KE.out.ext B.out)
            have RE := Lib.hid (blk_pat KEs.out)
            have hel : Hid (ge < wi.heap.size) := KEs.out.lt
            have RX := Lib.hid (rangeAt_below R0.out B.out hb0.out)
            have hbl : Hid (b < wi.heap.size) := Nat.lt_of_lt_of_le hb0.out B.out.size
            refine wp_region_ext mixedS (by kernel_rfl) ?_
            repeat (first
              | go_big_quiet_skip
              | (refine wpQuiet_load_mid (rangeAt_ext RX.out hbl.out) underEdge rfl infoEdge rfl rfl ?_; simp only [List.set_cons_succ, List.set_cons_zero])
              | (refine wpQuiet_load_mid (rangeAt_ext RE.out hel.out) underEdge rfl infoEdge rfl rfl ?_; simp only [List.set_cons_succ, List.set_cons_zero])
              | go_big_quiet_step ((go_at_call 190; exact ext_call (HA.out _))))
            refine wpQuiet_nil ?_
            rintro _ ⟨z, rfl⟩
            have B6 := Lib.hid (B.out.trans (z.h.mono B.out.size))
            have OW6 := Lib.hid (own_ext OW.out z.h)
            generalize z.w = w6 at *
            clear OW B RX RE hel hbl KEs
            have KE6 := Lib.hid (KE.out.ext B6.out)
            have hbs := B6.out.size
            have hll : (S1).length ≤ 200001 := by have := hSl.out; omega
            go_upto_region 9 with (first
              | (refine wpList_load_row rfl 64 _ (by rfl) ge (by rfl) _ _ _ _ KE6.out underEdge rfl infoEdge ?_)
              | (refine wpList_lit1 edgeSl (encE_len x) (by omega) (by rfl) ?_)
              | (at_builtin; refine wpList_push edgeSl OW6.out (encE x) rfl (encE_one x) hbs (by omega) (by unfold maxLen; omega) (by rfl) (by rfl) (by rfl) ?_; intro vn w7 own1 bel1))
            have OW7 : Hid (w7.ownsRow w2.heap.size 64 6 vn (S1 ++ [x]).length ((S1 ++ [x]).flatMap encE)) := by
              rw [Hid, List.length_append, flat_snocE]; exact own1
            have B7 := Lib.hid (B6.out.trans bel1)
            clear own1 bel1 OW6 B6 hbs hll
            clear KE6
            have KEs := Lib.hid (KE.out.ext B7.out)
            have RE := Lib.hid (blk_pat KEs.out)
            have hel : Hid (ge < w7.heap.size) := KEs.out.lt
            have RX := Lib.hid (rangeAt_below R0.out B7.out hb0.out)
            have hbl : Hid (b < w7.heap.size) := Nat.lt_of_lt_of_le hb0.out B7.out.size
            refine wp_region_ext mixedS (by kernel_rfl) ?_
            repeat (first
              | go_big_quiet_skip
              | (refine wpQuiet_load_mid (rangeAt_ext RX.out hbl.out) underEdge rfl infoEdge rfl rfl ?_; simp only [List.set_cons_succ, List.set_cons_zero])
              | (refine wpQuiet_load_mid (rangeAt_ext RE.out hel.out) underEdge rfl infoEdge rfl rfl ?_; simp only [List.set_cons_succ, List.set_cons_zero])
              | go_big_quiet_step (fail))
            refine wpQuiet_nil ?_
            rintro _ ⟨z, rfl⟩
            have B8 := Lib.hid (B7.out.trans (z.h.mono B7.out.size))
            have OW8 := Lib.hid (own_ext OW7.out z.h)
            generalize z.w = w8 at *
            clear OW7 B7 RX RE hel hbl KEs
            have RX := Lib.hid (rangeAt_below R0.out B8.out hb0.out)
            have hbs := B8.out.size
            have hll : ((S1 ++ [x])).length ≤ 200001 := by rw [List.length_append, List.length_singleton]; have := hSl.out; omega
            go_wp2_with (first
              | (refine wpList_load_mid rfl 64 _ (by rfl) b (o + k * 6) (by rfl) _ _ RX.out underEdge rfl infoEdge ?_)
              | (refine wpList_lit1 edgeSl (encE_len y) (by omega) (by rfl) ?_)
              | (at_builtin; refine wpList_push edgeSl OW8.out (encE y) rfl (encE_one y) hbs (by omega) (by unfold maxLen; omega) (by rfl) (by rfl) (by rfl) ?_; intro vn w9 own1 bel1))
            have OW9 : Hid (w9.ownsRow w2.heap.size 64 6 vn ((S1 ++ [x]) ++ [y]).length (((S1 ++ [x]) ++ [y]).flatMap encE)) := by
              rw [Hid, List.length_append, flat_snocE]; exact own1
            have B9 := Lib.hid (B8.out.trans bel1)
            clear own1 bel1 OW8 B8 hbs hll
            go_roundw
            case rel => exact ⟨k + 1, _, by omega, by go_num, hP.out.symm, rfl, OW9.out, B9.out⟩
            case measure => simp [intOf]; omega
          · have hP := Lib.hid (hN.out.symm.trans (put_later keyE rfl he hl))
            have EQ := eqE_f he
            have NE := neE_t he
            have HA : Hid (∀ u, Calls Tryz.prog 190 #[.agg (encE x).toArray, .agg (encE y).toArray] u (RetB u (.bool false))) := fun u => by rw [← decide_eq_false hl]; exact rahead_any x y u
            clear hN hS
            replace he := Lib.hid he
            replace hl := Lib.hid hl
            have KEs := Lib.hid (KE.out.ext B.out)
            have RE := Lib.hid (blk_pat KEs.out)
            have hel : Hid (ge < wi.heap.size) := KEs.out.lt
            have RX := Lib.hid (rangeAt_below R0.out B.out hb0.out)
            have hbl : Hid (b < wi.heap.size) := Nat.lt_of_lt_of_le hb0.out B.out.size
            refine wp_region_ext mixedS (by kernel_rfl) ?_
            repeat (first
              | go_big_quiet_skip
              | (refine wpQuiet_load_mid (rangeAt_ext RX.out hbl.out) underEdge rfl infoEdge rfl rfl ?_; simp only [List.set_cons_succ, List.set_cons_zero])
              | (refine wpQuiet_load_mid (rangeAt_ext RE.out hel.out) underEdge rfl infoEdge rfl rfl ?_; simp only [List.set_cons_succ, List.set_cons_zero])
              | go_big_quiet_step ((go_at_call 190; exact ext_call (HA.out _))))
            refine wpQuiet_nil ?_
            rintro _ ⟨z, rfl⟩
            have B6 := Lib.hid (B.out.trans (z.h.mono B.out.size))
            have OW6 := Lib.hid (own_ext OW.out z.h)
            generalize z.w = w6 at *
            clear OW B RX RE hel hbl KEs
            go_upto_region 9 with fail
            obtain ⟨w7, rfl⟩ : ∃ wx, wx = w6 := ⟨_, rfl⟩
            have B7 := B6
            have OW7 := OW6
            clear B6 OW6
            have KEs := Lib.hid (KE.out.ext B7.out)
            have RE := Lib.hid (blk_pat KEs.out)
            have hel : Hid (ge < w7.heap.size) := KEs.out.lt
            have RX := Lib.hid (rangeAt_below R0.out B7.out hb0.out)
            have hbl : Hid (b < w7.heap.size) := Nat.lt_of_lt_of_le hb0.out B7.out.size
            refine wp_region_ext mixedS (by kernel_rfl) ?_
            repeat (first
              | go_big_quiet_skip
              | (refine wpQuiet_load_mid (rangeAt_ext RX.out hbl.out) underEdge rfl infoEdge rfl rfl ?_; simp only [List.set_cons_succ, List.set_cons_zero])
              | (refine wpQuiet_load_mid (rangeAt_ext RE.out hel.out) underEdge rfl infoEdge rfl rfl ?_; simp only [List.set_cons_succ, List.set_cons_zero])
              | go_big_quiet_step (fail))
            refine wpQuiet_nil ?_
            rintro _ ⟨z, rfl⟩
            have B8 := Lib.hid (B7.out.trans (z.h.mono B7.out.size))
            have OW8 := Lib.hid (own_ext OW7.out z.h)
            generalize z.w = w8 at *
            clear OW7 B7 RX RE hel hbl KEs
            have RX := Lib.hid (rangeAt_below R0.out B8.out hb0.out)
            have hbs := B8.out.size
            have hll : (S1).length ≤ 200001 := by have := hSl.out; omega
            go_wp2_with (first
              | (refine wpList_load_mid rfl 64 _ (by rfl) b (o + k * 6) (by rfl) _ _ RX.out underEdge rfl infoEdge ?_)
              | (refine wpList_lit1 edgeSl (encE_len y) (by omega) (by rfl) ?_)
              | (at_builtin; refine wpList_push edgeSl OW8.out (encE y) rfl (encE_one y) hbs (by omega) (by unfold maxLen; omega) (by rfl) (by rfl) (by rfl) ?_; intro vn w9 own1 bel1))
            have OW9 : Hid (w9.ownsRow w2.heap.size 64 6 vn (S1 ++ [y]).length ((S1 ++ [y]).flatMap encE)) := by
              rw [Hid, List.length_append, flat_snocE]; exact own1
            have B9 := Lib.hid (B8.out.trans bel1)
            clear own1 bel1 OW8 B8 hbs hll
            go_roundw
            case rel => exact ⟨k + 1, _, by omega, by go_num, hP.out.symm, rfl, OW9.out, B9.out⟩
            case measure => simp [intOf]; omega
      · by_cases he : y = x
        · have hP := Lib.hid (hN.out.symm.trans (put_drop keyE rfl he))
          have NE := neE_f he
          clear hN hS
          replace he := Lib.hid he
          have KEs := Lib.hid (KE.out.ext B.out)
          have RE := Lib.hid (blk_pat KEs.out)
          have hel : Hid (ge < wi.heap.size) := KEs.out.lt
          have RX := Lib.hid (rangeAt_below R0.out B.out hb0.out)
          have hbl : Hid (b < wi.heap.size) := Nat.lt_of_lt_of_le hb0.out B.out.size
          refine wp_region_ext mixedS (by kernel_rfl) ?_
          repeat (first
            | go_big_quiet_skip
            | (refine wpQuiet_load_mid (rangeAt_ext RX.out hbl.out) underEdge rfl infoEdge rfl rfl ?_; simp only [List.set_cons_succ, List.set_cons_zero])
            | (refine wpQuiet_load_mid (rangeAt_ext RE.out hel.out) underEdge rfl infoEdge rfl rfl ?_; simp only [List.set_cons_succ, List.set_cons_zero])
            | go_big_quiet_step (fail))
          refine wpQuiet_nil ?_
          rintro _ ⟨z, rfl⟩
          have B6 := Lib.hid (B.out.trans (z.h.mono B.out.size))
          have OW6 := Lib.hid (own_ext OW.out z.h)
          generalize z.w = w6 at *
          clear OW B RX RE hel hbl KEs
          go_upto_region 9 with fail
          obtain ⟨w7, rfl⟩ : ∃ wx, wx = w6 := ⟨_, rfl⟩
          have B7 := B6
          have OW7 := OW6
          clear B6 OW6
          have KEs := Lib.hid (KE.out.ext B7.out)
          have RE := Lib.hid (blk_pat KEs.out)
          have hel : Hid (ge < w7.heap.size) := KEs.out.lt
          have RX := Lib.hid (rangeAt_below R0.out B7.out hb0.out)
          have hbl : Hid (b < w7.heap.size) := Nat.lt_of_lt_of_le hb0.out B7.out.size
          refine wp_region_ext mixedS (by kernel_rfl) ?_
          repeat (first
            | go_big_quiet_skip
            | (refine wpQuiet_load_mid (rangeAt_ext RX.out hbl.out) underEdge rfl infoEdge rfl rfl ?_; simp only [List.set_cons_succ, List.set_cons_zero])
            | (refine wpQuiet_load_mid (rangeAt_ext RE.out hel.out) underEdge rfl infoEdge rfl rfl ?_; simp only [List.set_cons_succ, List.set_cons_zero])
            | go_big_quiet_step (fail))
          refine wpQuiet_nil ?_
          rintro _ ⟨z, rfl⟩
          have B8 := Lib.hid (B7.out.trans (z.h.mono B7.out.size))
          have OW8 := Lib.hid (own_ext OW7.out z.h)
          generalize z.w = w8 at *
          clear OW7 B7 RX RE hel hbl KEs
          go_wp2_with fail
          go_roundw
          case rel => exact ⟨k + 1, _, by omega, by go_num, hP.out.symm, rfl, OW8.out, B8.out⟩
          case measure => simp [intOf]; omega
        · have hP := Lib.hid (hN.out.symm.trans (put_yes keyE rfl he))
          have NE := neE_t he
          clear hN hS
          replace he := Lib.hid he
          have KEs := Lib.hid (KE.out.ext B.out)
          have RE := Lib.hid (blk_pat KEs.out)
          have hel : Hid (ge < wi.heap.size) := KEs.out.lt
          have RX := Lib.hid (rangeAt_below R0.out B.out hb0.out)
          have hbl : Hid (b < wi.heap.size) := Nat.lt_of_lt_of_le hb0.out B.out.size
          refine wp_region_ext mixedS (by kernel_rfl) ?_
          repeat (first
            | go_big_quiet_skip
            | (refine wpQuiet_load_mid (rangeAt_ext RX.out hbl.out) underEdge rfl infoEdge rfl rfl ?_; simp only [List.set_cons_succ, List.set_cons_zero])
            | (refine wpQuiet_load_mid (rangeAt_ext RE.out hel.out) underEdge rfl infoEdge rfl rfl ?_; simp only [List.set_cons_succ, List.set_cons_zero])
            | go_big_quiet_step (fail))
          refine wpQuiet_nil ?_
          rintro _ ⟨z, rfl⟩
          have B6 := Lib.hid (B.out.trans (z.h.mono B.out.size))
          have OW6 := Lib.hid (own_ext OW.out z.h)
          generalize z.w = w6 at *
          clear OW B RX RE hel hbl KEs
          go_upto_region 9 with fail
          obtain ⟨w7, rfl⟩ : ∃ wx, wx = w6 := ⟨_, rfl⟩
          have B7 := B6
          have OW7 := OW6
          clear B6 OW6
          have KEs := Lib.hid (KE.out.ext B7.out)
          have RE := Lib.hid (blk_pat KEs.out)
          have hel : Hid (ge < w7.heap.size) := KEs.out.lt
          have RX := Lib.hid (rangeAt_below R0.out B7.out hb0.out)
          have hbl : Hid (b < w7.heap.size) := Nat.lt_of_lt_of_le hb0.out B7.out.size
          refine wp_region_ext mixedS (by kernel_rfl) ?_
          repeat (first
            | go_big_quiet_skip
            | (refine wpQuiet_load_mid (rangeAt_ext RX.out hbl.out) underEdge rfl infoEdge rfl rfl ?_; simp only [List.set_cons_succ, List.set_cons_zero])
            | (refine wpQuiet_load_mid (rangeAt_ext RE.out hel.out) underEdge rfl infoEdge rfl rfl ?_; simp only [List.set_cons_succ, List.set_cons_zero])
            | go_big_quiet_step (fail))
          refine wpQuiet_nil ?_
          rintro _ ⟨z, rfl⟩
          have B8 := Lib.hid (B7.out.trans (z.h.mono B7.out.size))
          have OW8 := Lib.hid (own_ext OW7.out z.h)
          generalize z.w = w8 at *
          clear OW7 B7 RX RE hel hbl KEs
          have RX := Lib.hid (rangeAt_below R0.out B8.out hb0.out)
          have hbs := B8.out.size
          have hll : (S1).length ≤ 200001 := by have := hSl.out; omega
          go_wp2_with (first
            | (refine wpList_load_mid rfl 64 _ (by rfl) b (o + k * 6) (by rfl) _ _ RX.out underEdge rfl infoEdge ?_)
            | (refine wpList_lit1 edgeSl (encE_len y) (by omega) (by rfl) ?_)
            | (at_builtin; refine wpList_push edgeSl OW8.out (encE y) rfl (encE_one y) hbs (by omega) (by unfold maxLen; omega) (by rfl) (by rfl) (by rfl) ?_; intro vn w9 own1 bel1))
          have OW9 : Hid (w9.ownsRow w2.heap.size 64 6 vn (S1 ++ [y]).length ((S1 ++ [y]).flatMap encE)) := by
            rw [Hid, List.length_append, flat_snocE]; exact own1
          have B9 := Lib.hid (B8.out.trans bel1)
          clear own1 bel1 OW8 B8 hbs hll
          go_roundw
          case rel => exact ⟨k + 1, _, by omega, by go_num, hP.out.symm, rfl, OW9.out, B9.out⟩
          case measure => simp [intOf]; omega
    · have hlk : ¬ (k : Int) < (n : Int) := by omega
      have hF : Hid (endK x S = insK keyE x l) := by
        have h1 := hS.out
        rw [List.take_of_length_le (by rw [hln.out]; omega)] at h1
        rw [Hid, h1]; exact E.out
      have hbs := B.out.size
      have hl2 := hSl.out
      have KE5 := Lib.hid (KE.out.ext B.out)
      have BF := Lib.hid (B0.out.trans (B.out.mono B0.out.size))
      clear hS E B
      obtain ⟨S1, S2⟩ := S
      replace OW : Hid (wi.ownsRow w2.heap.size 64 6 _ S1.length (S1.flatMap encE)) := OW
      replace hl2 : S1.length ≤ 200000 := hl2
      cases S2
      · go_wp2_with (first
          | (refine wpList_load_row rfl 64 _ (by rfl) ge (by rfl) _ _ _ _ KE5.out underEdge rfl infoEdge ?_)
          | (refine wpList_lit1 edgeSl (encE_len x) (by omega) (by rfl) ?_)
          | (at_builtin; refine wpList_push edgeSl OW.out (encE x) rfl (encE_one x) hbs (by omega) (by unfold maxLen; omega) (by rfl) (by rfl) (by rfl) ?_; intro v1 w6 own1 bel1))
        have BF := Lib.hid (BF.out.trans (bel1.mono hw2.out))
        have own1 := Lib.hid own1
        obtain ⟨A9, c9, rfl, _, _⟩ := Sl.of_own own1.out
        clear bel1 OW
        go_wp2
        go_ret
        have hF2 : insK keyE x l = S1 ++ [x] := hF.out.symm
        rw [hF2]
        refine ⟨_, rfl, ?_, BF.out⟩
        rw [List.length_append, flat_snocE]
        exact own_mono' own1.out hw2.out
      · obtain ⟨A9, c9, rfl, _, _⟩ := Sl.of_own OW.out
        go_wp2
        go_ret
        have hF2 : insK keyE x l = S1 := hF.out.symm
        rw [hF2]
        exact ⟨_, rfl, own_mono' OW.out hw2.out, BF.out⟩
end Go.Proofs.YtfnhmbflmifhcaaGreat

/- The document's graph: the names of all vertices; all steps: walked. -/
namespace Go.Proofs.YtfnhmbflmifhcaaGreat
open Go.RowKit

/-- the names that a patch's first operations make -/
def idsK (p : PatV) (k : Nat) : List VidV := (List.range k).filterMap fun (i : Nat) => match p.2.2[i]? with | some o => if makesO o = true then some (vidOf p.1 ((i : Nat) : Int)) else none | none => none
theorem idsK_all (p : PatV) : idsK p p.2.2.length = idsP p := rfl
theorem idsK_yes {p : PatV} {k : Nat} {o : OpV} (h : p.2.2[k]? = some o) (hm : makesO o = true) : idsK p (k + 1) = idsK p k ++ [vidOf p.1 ((k : Nat) : Int)] := by
  unfold idsK
  rw [List.range_succ, List.filterMap_append]
  simp [h, hm]
theorem idsK_no {p : PatV} {k : Nat} {o : OpV} (h : p.2.2[k]? = some o) (hm : makesO o = false) : idsK p (k + 1) = idsK p k := by
  unfold idsK
  rw [List.range_succ, List.filterMap_append]
  simp [h, hm]
theorem idsK_len (p : PatV) (k : Nat) : (idsK p k).length ≤ k := by
  unfold idsK
  refine Nat.le_trans (List.length_filterMap_le _ _) ?_
  rw [List.length_range]
  exact Nat.le_refl _
theorem idsOf_take {L : List PatV} {k : Nat} {p : PatV} (h : L[k]? = some p) : idsOf (L.take (k + 1)) = idsOf (L.take k) ++ idsP p := by
  unfold idsOf
  rw [List.take_add_one, h, List.flatMap_append]
  simp
theorem idsOf_len (L : List PatV) {m : Nat} (h : ∀ p ∈ L, p.2.2.length ≤ m) : (idsOf L).length ≤ L.length * m := by
  induction L with
  | nil => simp [idsOf]
  | cons p L ih =>
    have h1 : (idsP p).length ≤ p.2.2.length := idsK_len p _
    have h2 := h p (List.mem_cons_self ..)
    have h3 := ih fun q hq => h q (List.mem_cons_of_mem _ hq)
    have e : (idsOf (p :: L)).length = (idsP p).length + (idsOf L).length := by unfold idsOf; rw [List.flatMap_cons, List.length_append]
    rw [e, List.length_cons, Nat.succ_mul]
    omega
theorem flat_snocV20 (mo : List VidV) (y : VidV) : (mo ++ [y]).flatMap encV = mo.flatMap encV ++ encV y := by simp
/-- the steps that a patch's first operations make -/
def stepsK (p : PatV) (k : Nat) : List EdgeV := (p.2.2.take k).filterMap edgeO
theorem stepsK_all {p : PatV} {k : Nat} (h : p.2.2.length ≤ k) : stepsK p k = edgesP p := by unfold stepsK edgesP; rw [List.take_of_length_le h]
theorem stepsK_yes {p : PatV} {k : Nat} {o : OpV} (h : p.2.2[k]? = some o) (hm : o.1.val = 4) : stepsK p (k + 1) = stepsK p k ++ [(o.2.1, o.2.2.1)] := by
  unfold stepsK
  rw [List.take_add_one, h, List.filterMap_append]
  simp [edgeO, hm]
theorem stepsK_no {p : PatV} {k : Nat} {o : OpV} (h : p.2.2[k]? = some o) (hm : o.1.val ≠ 4) : stepsK p (k + 1) = stepsK p k := by
  unfold stepsK
  rw [List.take_add_one, h, List.filterMap_append]
  simp [edgeO, hm]
theorem stepsK_len (p : PatV) (k : Nat) : (stepsK p k).length ≤ p.2.2.length := by
  unfold stepsK
  refine Nat.le_trans (List.length_filterMap_le _ _) ?_
  rw [List.length_take]; omega
theorem edgesOf_take {L : List PatV} {k : Nat} {p : PatV} (h : L[k]? = some p) : edgesOf (L.take (k + 1)) = edgesOf (L.take k) ++ edgesP p := by
  unfold edgesOf
  rw [List.take_add_one, h, List.flatMap_append]
  simp
theorem edgesOf_len (L : List PatV) {m : Nat} (h : ∀ p ∈ L, p.2.2.length ≤ m) : (edgesOf L).length ≤ L.length * m := by
  induction L with
  | nil => simp [edgesOf]
  | cons p L ih =>
    have h1 : (edgesP p).length ≤ p.2.2.length := List.length_filterMap_le _ _
    have h2 := h p (List.mem_cons_self ..)
    have h3 := ih fun q hq => h q (List.mem_cons_of_mem _ hq)
    have e : (edgesOf (p :: L)).length = (edgesP p).length + (edgesOf L).length := by unfold edgesOf; rw [List.flatMap_cons, List.length_append]
    rw [e, List.length_cons, Nat.succ_mul]
    omega
theorem len_take {L : List PatV} {m : Nat} (h : ∀ p ∈ L, p.2.2.length ≤ m) (k : Nat) : ∀ p ∈ L.take k, p.2.2.length ≤ m := fun p hp => h p (List.mem_of_mem_take hp)
theorem wpList_built2 {P : Program} {ops : Array Oper} {rest : List Oper} {d : Option Tmp} {ty : TypeId} {pos : String} {after : Array Edge} {a : Act} {w : World} {Q : Exit → Act → World → Prop} {t : TypeId} {i1 i2 : Nat} {x1 x2 : Operand} {v1 v2 v : Value}
    (h1 : a.eval x1 = v1) (h2 : a.eval x2 = v2) (hr : (Instr.build t #[(i1, v1), (i2, v2)]).run P w = .ok v w) (h : wpList P ops Q rest (a.put d v) w) : wpList P ops Q (⟨d, .build t #[(i1, x1), (i2, x2)], ty, pos, after, none⟩ :: rest) a w :=
  wpList_built hr (by simp [h1, h2]) h
theorem opv_kind20 {w : World} {b o : Nat} {x : OpV} (h : w.rangeAt b o (encO x)) : w.cell? ⟨b, o, none⟩ = some (.int .u8 ((x.1.val : Nat) : Int)) := h 0 _ rfl
set_option maxRecDepth 100000 in
set_option maxHeartbeats 8000000 in
theorem rids20_any (L : List PatV) (w : World) (A : Option Addr) (n c : Nat) (h : PatsAt w A n L) (hn : n ≤ 400) (h200 : ∀ p ∈ L, p.2.2.length ≤ 200) :
    Calls Tryz.prog 145 #[.agg #[.slice A n c]] w (OwnedRet w 43 3 (idsL L).length ((idsL L).flatMap encV)) := by
  have KG : Hid (Blk (w.alloc (.cells #[.slice A n c] 28)) w.heap.size 28 #[.slice A n c]) := Blk.new _ _ _
  have B0 : Hid (Below w.heap.size w (w.alloc (.cells #[.slice A n c] 28))) := below_new _ _
  have PT := Lib.hid (h.ext B0.out)
  have hln := Lib.hid h.len
  have h200 := Lib.hid h200
  clear h
  go_enter Tryz.func145, Tryz.ntmps145
  go_upto_region 1 with fail
  generalize (w.alloc (.cells #[.slice A n c] 28)) = w2 at *
  have hw2 : Hid (w.heap.size ≤ w2.heap.size) := B0.out.size
  obtain ⟨gg, hgg⟩ : ∃ g, g = w.heap.size := ⟨_, rfl⟩
  rw [← hgg] at KG ⊢
  replace hgg := Lib.hid hgg
  have BS := Lib.hid (Below.refl w2.heap.size w2)
  go_wp2_with fail
  go_loopw [4, 3] (fun i v wr => ∃ k : Nat, k ≤ n ∧ i = .int .i64 k ∧ Hid (wr.ownsRow w2.heap.size 43 3 v (idsOf (L.take k)).length ((idsOf (L.take k)).flatMap encV)) ∧ Hid (Below w2.heap.size w2 wr)) (fun i _ _ => n - (intOf i).toNat)
  case atStart => exact ⟨0, by omega, rfl, World.ownsRow_nil _ _ _ _, BS.out⟩
  case round =>
    clear BS
    obtain ⟨k, hk, rfl, OW, B⟩ := hrel
    obtain ⟨wi, rfl⟩ : ∃ wx, wx = wr := ⟨_, rfl⟩
    have hk0 : (0 : Int) ≤ (k : Int) := by omega
    have yg : wi.cell? ⟨gg, 0, none⟩ = some (.slice A n c) := (KG.out.ext B.out).cell 0
    by_cases hlt : k < n
    · have hlk : (k : Int) < (n : Int) := by omega
      obtain ⟨b, o, p, r, rfl, hb, hp, pa, hr⟩ := PT.out.at_ hlt
      obtain ⟨⟨A1, c1, A2, c2, rfl, _, O2⟩, _, hm2⟩ := pa
      have OP := Lib.hid O2
      have RP := Lib.hid hr
      have hb := Lib.hid hb
      have hpm := h200.out p (List.mem_of_getElem? hp)
      have hTK : (idsOf (L.take k)).length ≤ 80000 := by
        have h1 := idsOf_len (L.take k) (len_take h200.out k)
        rw [List.length_take, hln.out] at h1
        have h2 : min k n * 200 ≤ 400 * 200 := Nat.mul_le_mul_right _ (by omega)
        omega
      have hTK := Lib.hid hTK
      have hp := Lib.hid hp
      obtain ⟨m, hmm⟩ : ∃ m, m = p.2.2.length := ⟨_, rfl⟩
      rw [← hmm] at OP RP hm2 hpm
      replace hmm := Lib.hid hmm
      unfold maxLen at hm2
      clear hr O2
      go_wp2_with fail
      clear yg
      go_loopw [5, 3] (fun i v wr => ∃ j : Nat, j ≤ m ∧ i = .int .i64 j ∧ Hid (wr.ownsRow w2.heap.size 43 3 v (idsOf (L.take k) ++ idsK p j).length ((idsOf (L.take k) ++ idsK p j).flatMap encV)) ∧ Hid (Below w2.heap.size w2 wr)) (fun i _ _ => m - (intOf i).toNat)
      case atStart => exact ⟨0, by omega, rfl, by rw [Hid, show idsK p 0 = [] from rfl, List.append_nil]; exact OW.out, B.out⟩
      case round =>
        clear B OW
        obtain ⟨j, hj, rfl, OW, B⟩ := hrel
        obtain ⟨wj, rfl⟩ : ∃ wx, wx = wr := ⟨_, rfl⟩
        have hj0 : (0 : Int) ≤ (j : Int) := by omega
        have hbs := B.out.size
        have yg : wj.cell? ⟨gg, 0, none⟩ = some (.slice (some ⟨b, o, none⟩) n c) := (KG.out.ext B.out).cell 0
        have yo : wj.cell? ⟨b, o + k * 4 + 3, none⟩ = some (.slice A2 m c2) := rangeAt_below RP.out B.out hb.out 3 _ rfl
        by_cases hjt : j < m
        · have hlj : (j : Int) < (m : Int) := by omega
          obtain ⟨b2, o2, x, rfl, hb2, hx, hr2, _⟩ := OP.out.at_ hjt
          have RO := Lib.hid (rangeAt_below hr2 B.out hb2)
          have RI := Lib.hid (pid_range (rangeAt_below RP.out B.out hb.out))
          have HMk := Lib.hid (rmakes20_any ((x.1.val : Nat) : Int) wj ⟨by omega, by have := x.1.isLt; omega⟩)
          rw [makesO_eq] at HMk
          have yk : wj.cell? ⟨b2, o2 + j * 8, none⟩ = some (.int .u8 ((x.1.val : Nat) : Int)) := opv_kind20 RO.out
          have hKL := idsK_len p j
          have hl1 : (idsOf (L.take k) ++ idsK p j).length ≤ 80200 := by rw [List.length_append]; have := hTK.out; omega
          clear hr2 hb2
          by_cases mk : makesO x = true
          · rw [mk] at HMk
            have N : Hid (idsOf (L.take k) ++ idsK p (j + 1) = (idsOf (L.take k) ++ idsK p j) ++ [vidOf p.1 ((j : Nat) : Int)]) := by rw [Hid, idsK_yes hx mk, List.append_assoc]
            clear mk hx
            go_wp2_with fail
            refine HMk.out.mono ?_
            rintro e _ ⟨rfl, rfl⟩
            have HVd := Lib.hid (fun u => rvid18_any p.1 ((j : Nat) : Int) u)
            clear HMk yk
            go_wp2_with (refine wpList_load_mid rfl 33 _ (by rfl) b (o + k * 4) (by rfl) _ _ RI.out underPid rfl infoPid ?_)
            refine (HVd.out wj).mono ?_
            rintro e w5 ⟨rfl, b5⟩
            have O5 := Lib.hid (own_ext OW.out b5)
            have B5 := Lib.hid (B.out.trans (b5.mono B.out.size))
            have hb5 := B5.out.size
            clear b5 OW B HVd RI RO yg yo hbs
            generalize vidOf p.1 ((j : Nat) : Int) = v at *
            go_wp2_with (first
              | (refine wpList_lit1 vidSl (encV_len v) (by omega) (by rfl) ?_)
              | (at_builtin; refine wpList_push vidSl O5.out (encV v) rfl (encV_one v) hb5 (by omega) (by unfold maxLen; omega) (by rfl) (by rfl) (by rfl) ?_; intro v1 w6 own1 bel1))
            have O6 : Hid (w6.ownsRow w2.heap.size 43 3 v1 (idsOf (L.take k) ++ idsK p (j + 1)).length ((idsOf (L.take k) ++ idsK p (j + 1)).flatMap encV)) := by
              rw [Hid, N.out, List.length_append, flat_snocV20]; exact own1
            have B6 := Lib.hid (B5.out.trans bel1)
            clear own1 bel1 O5 B5 N
            go_roundw
            case rel => exact ⟨j + 1, by omega, by go_num, O6.out, B6.out⟩
            case measure => simp [intOf]; omega
          · rw [Bool.not_eq_true] at mk
            rw [mk] at HMk
            have N : Hid (idsK p (j + 1) = idsK p j) := idsK_no hx mk
            rw [← N.out] at OW
            clear mk hx RI
            go_wp2_with fail
            refine HMk.out.mono ?_
            rintro e _ ⟨rfl, rfl⟩
            clear HMk yk
            go_wp2_with fail
            go_roundw
            case rel => exact ⟨j + 1, by omega, by go_num, OW.out, B.out⟩
            case measure => simp [intOf]; omega
        · have hlj : ¬ (j : Int) < (m : Int) := by omega
          have N : Hid (idsOf (L.take k) ++ idsK p j = idsOf (L.take (k + 1))) := by
            rw [Hid, idsOf_take hp.out]
            rw [show j = p.2.2.length by have := hmm.out; omega, idsK_all]
          go_wp2_with fail
          go_roundw
          case rel => exact ⟨k + 1, by omega, by go_num, by rw [← N.out]; exact OW.out, B.out⟩
          case measure => simp [intOf]; omega
    · have hlk : ¬ (k : Int) < (n : Int) := by omega
      have hbs := B.out.size
      have BF := Lib.hid (B0.out.trans (B.out.mono B0.out.size))
      rw [List.take_of_length_le (by rw [hln.out]; omega)] at OW
      have hIL : Hid ((idsOf L).length ≤ 80000) := by have h1 := idsOf_len L h200.out; rw [hln.out] at h1; rw [Hid]; omega
      obtain ⟨A9, c9, rfl, _, s9⟩ := Sl.of_own OW.out
      have HS := Lib.hid (rsetV_own (idsOf L) wi A9 (idsOf L).length c9 ⟨rfl, s9⟩ (by have := hIL.out; omega))
      clear s9
      go_wp2_with fail
      refine HS.out.mono ?_
      rintro e w4 ⟨v4, rfl, o4, b4⟩
      have O4 := Lib.hid o4
      have BF := Lib.hid (BF.out.trans (b4.mono BF.out.size))
      have hww : Hid (w.heap.size ≤ wi.heap.size) := Nat.le_trans hw2.out hbs
      clear o4 b4 HS
      obtain ⟨A8, c8, rfl, _, _⟩ := Sl.of_own O4.out
      go_wp2_with fail
      go_ret
      exact ⟨_, rfl, own_mono' O4.out hww.out, BF.out⟩
set_option maxRecDepth 100000 in
set_option maxHeartbeats 8000000 in
theorem redges20_any (L : List PatV) (w : World) (A : Option Addr) (n c : Nat) (h : PatsAt w A n L) (hn : n ≤ 400) (h200 : ∀ p ∈ L, p.2.2.length ≤ 200) :
    Calls Tryz.prog 73 #[.agg #[.slice A n c]] w (OwnedRet w 64 6 (edgesL L).length ((edgesL L).flatMap encE)) := by
  have KG : Hid (Blk (w.alloc (.cells #[.slice A n c] 28)) w.heap.size 28 #[.slice A n c]) := Blk.new _ _ _
  have B0 : Hid (Below w.heap.size w (w.alloc (.cells #[.slice A n c] 28))) := below_new _ _
  have PT := Lib.hid (h.ext B0.out)
  have hln := Lib.hid h.len
  have h200 := Lib.hid h200
  clear h
  go_enter Tryz.func73, Tryz.ntmps73
  go_upto_region 1 with fail
  generalize (w.alloc (.cells #[.slice A n c] 28)) = w2 at *
  have hw2 : Hid (w.heap.size ≤ w2.heap.size) := B0.out.size
  obtain ⟨gg, hgg⟩ : ∃ g, g = w.heap.size := ⟨_, rfl⟩
  rw [← hgg] at KG ⊢
  replace hgg := Lib.hid hgg
  have BS := Lib.hid (Below.refl w2.heap.size w2)
  go_wp2_with fail
  go_loopw [4, 3] (fun i v wr => ∃ k : Nat, k ≤ n ∧ i = .int .i64 k ∧ Hid (wr.ownsRow w2.heap.size 64 6 v (setK keyE (edgesOf (L.take k))).length ((setK keyE (edgesOf (L.take k))).flatMap encE)) ∧ Hid (Below w2.heap.size w2 wr)) (fun i _ _ => n - (intOf i).toNat)
  case atStart => exact ⟨0, by omega, rfl, World.ownsRow_nil _ _ _ _, BS.out⟩
  case round =>
    clear BS
    obtain ⟨k, hk, rfl, OW, B⟩ := hrel
    obtain ⟨wi, rfl⟩ : ∃ wx, wx = wr := ⟨_, rfl⟩
    have hk0 : (0 : Int) ≤ (k : Int) := by omega
    have yg : wi.cell? ⟨gg, 0, none⟩ = some (.slice A n c) := (KG.out.ext B.out).cell 0
    by_cases hlt : k < n
    · have hlk : (k : Int) < (n : Int) := by omega
      obtain ⟨b, o, p, r, rfl, hb, hp, pa, hr⟩ := PT.out.at_ hlt
      obtain ⟨⟨A1, c1, A2, c2, rfl, _, O2⟩, _, hm2⟩ := pa
      have OP := Lib.hid O2
      have RP := Lib.hid hr
      have hb := Lib.hid hb
      have hpm := h200.out p (List.mem_of_getElem? hp)
      have hTK : (edgesOf (L.take k)).length ≤ 80000 := by
        have h1 := edgesOf_len (L.take k) (len_take h200.out k)
        rw [List.length_take, hln.out] at h1
        have h2 : min k n * 200 ≤ 400 * 200 := Nat.mul_le_mul_right _ (by omega)
        omega
      have hTK := Lib.hid hTK
      have hp := Lib.hid hp
      obtain ⟨m, hmm⟩ : ∃ m, m = p.2.2.length := ⟨_, rfl⟩
      rw [← hmm] at OP RP hm2 hpm
      replace hmm := Lib.hid hmm
      unfold maxLen at hm2
      clear hr O2
      go_wp2_with fail
      clear yg
      go_loopw [5, 3] (fun i v wr => ∃ j : Nat, j ≤ m ∧ i = .int .i64 j ∧ Hid (wr.ownsRow w2.heap.size 64 6 v (setK keyE (edgesOf (L.take k) ++ stepsK p j)).length ((setK keyE (edgesOf (L.take k) ++ stepsK p j)).flatMap encE)) ∧ Hid (Below w2.heap.size w2 wr)) (fun i _ _ => m - (intOf i).toNat)
      case atStart => exact ⟨0, by omega, rfl, by rw [Hid, show stepsK p 0 = [] from rfl, List.append_nil]; exact OW.out, B.out⟩
      case round =>
        clear B OW
        obtain ⟨j, hj, rfl, OW, B⟩ := hrel
        obtain ⟨wj, rfl⟩ : ∃ wx, wx = wr := ⟨_, rfl⟩
        have hj0 : (0 : Int) ≤ (j : Int) := by omega
        have hbs := B.out.size
        have yg : wj.cell? ⟨gg, 0, none⟩ = some (.slice (some ⟨b, o, none⟩) n c) := (KG.out.ext B.out).cell 0
        have yo : wj.cell? ⟨b, o + k * 4 + 3, none⟩ = some (.slice A2 m c2) := rangeAt_below RP.out B.out hb.out 3 _ rfl
        by_cases hjt : j < m
        · have hlj : (j : Int) < (m : Int) := by omega
          obtain ⟨b2, o2, x, rfl, hb2, hx, hr2, _⟩ := OP.out.at_ hjt
          have RO := Lib.hid (rangeAt_below hr2 B.out hb2)
          have RI := Lib.hid (pid_range (rangeAt_below RP.out B.out hb.out))
          have KO : Hid (Blk ((wj.alloc (.cells #[.int .u8 0, .int .u8 0, .int .u16 0, .int .u8 0, .int .u8 0, .int .u16 0, .int .u8 0, .string ByteArray.empty] 110)).setRow wj.heap.size (encO x).toArray) wj.heap.size 110 (encO x).toArray) := (Blk.new _ _ _).row _
          have BA : Hid (Below wj.heap.size wj ((wj.alloc (.cells #[.int .u8 0, .int .u8 0, .int .u16 0, .int .u8 0, .int .u8 0, .int .u16 0, .int .u8 0, .string ByteArray.empty] 110)).setRow wj.heap.size (encO x).toArray)) := below_setRow ((Below.refl _ _).alloc (Nat.le_refl _) _) (Nat.le_refl _) _
          clear hr2 hb2 RI
          go_upto_region 9 with (first
            | (refine wpList_load_mid rfl 110 _ (by rfl) b2 (o2 + j * 8) (by rfl) _ _ RO.out underOp rfl infoOp ?_)
            | (refine wpList_alloced (allocOp20 _) ?_)
            | (refine wpList_store_row rfl 110 _ _ (by rfl) wj.heap.size (encO x).toArray (by rfl) (by rfl) _ _ (Blk.new _ _ _) infoOp rfl (encO_all _) ?_))
          have B8 := Lib.hid (B.out.trans (BA.out.mono B.out.size))
          have OW8 := Lib.hid (own_ext OW.out BA.out)
          clear BA B OW yg yo RO hbs
          generalize ((wj.alloc (.cells #[.int .u8 0, .int .u8 0, .int .u16 0, .int .u8 0, .int .u8 0, .int .u16 0, .int .u8 0, .string ByteArray.empty] 110)).setRow wj.heap.size (encO x).toArray) = w8 at *
          generalize wj.heap.size = go at *
          have yk : w8.cell? ⟨go, 0, none⟩ = some (.int .u8 ((x.1.val : Nat) : Int)) := KO.out.cell 0
          have hbs := B8.out.size
          by_cases h4 : x.1.val = 4
          · have z4 : (((x.1.val : Nat) : Int) == 4) = true := by rw [beq_iff_eq]; omega
            have N : Hid (setK keyE (edgesOf (L.take k) ++ stepsK p (j + 1)) = insK keyE (x.2.1, x.2.2.1) (setK keyE (edgesOf (L.take k) ++ stepsK p j))) := by rw [Hid, stepsK_yes hx h4, ← List.append_assoc, setK_snoc20]
            have RA := Lib.hid (opv_at (blk_pat KO.out))
            have RT := Lib.hid (opv_to (blk_pat KO.out))
            have hRS : Hid (RiseK keyE (setK keyE (edgesOf (L.take k) ++ stepsK p j))) := setK_rise keyE_inj _
            have hSL : Hid ((setK keyE (edgesOf (L.take k) ++ stepsK p j)).length ≤ 80200) := by
              have h1 := setK_len (key := keyE) (edgesOf (L.take k) ++ stepsK p j)
              have h2 := stepsK_len p j
              rw [List.length_append] at h1
              have := hTK.out
              have := hmm.out
              rw [Hid]; omega
            generalize setK keyE (edgesOf (L.take k) ++ stepsK p j) = l0 at *
            obtain ⟨A7, c7, rfl, _, s7⟩ := Sl.of_own OW8.out
            have HP := Lib.hid (rput20_any l0 (x.2.1, x.2.2.1) hRS.out w8 A7 l0.length c7 ⟨rfl, s7⟩ (by have := hSL.out; omega))
            replace h4 := Lib.hid h4
            clear s7 hx
            go_wp2_with (first
              | (refine wpList_load_mid rfl 43 _ (by rfl) go (0 + 1) (by rfl) _ _ RA.out underVid rfl infoVid ?_)
              | (refine wpList_load_mid rfl 43 _ (by rfl) go (0 + 4) (by rfl) _ _ RT.out underVid rfl infoVid ?_)
              | (refine wpList_built2 (v1 := .agg (encV x.2.1).toArray) (v2 := .agg (encV x.2.2.1).toArray) rfl rfl (buildEdge x.2.1 x.2.2.1 _) ?_))
            refine HP.out.mono ?_
            rintro e w9 ⟨v9, rfl, o9, b9⟩
            have O9 : Hid (w9.ownsRow w2.heap.size 64 6 v9 (setK keyE (edgesOf (L.take k) ++ stepsK p (j + 1))).length ((setK keyE (edgesOf (L.take k) ++ stepsK p (j + 1))).flatMap encE)) := by
              rw [Hid, N.out]; exact own_mono' o9 hbs
            have B9 := Lib.hid (B8.out.trans (b9.mono B8.out.size))
            clear o9 b9 HP OW8 B8 N yk
            go_wp2_with fail
            go_roundw
            case rel => exact ⟨j + 1, by omega, by go_num, O9.out, B9.out⟩
            case measure => simp [intOf]; omega
          · have z4 : (((x.1.val : Nat) : Int) == 4) = false := by rw [beq_eq_false_iff_ne]; omega
            have N : Hid (stepsK p (j + 1) = stepsK p j) := stepsK_no hx h4
            rw [← N.out] at OW8
            replace h4 := Lib.hid h4
            clear hx
            go_wp2_with fail
            go_roundw
            case rel => exact ⟨j + 1, by omega, by go_num, OW8.out, B8.out⟩
            case measure => simp [intOf]; omega
        · have hlj : ¬ (j : Int) < (m : Int) := by omega
          have N : Hid (setK keyE (edgesOf (L.take k) ++ stepsK p j) = setK keyE (edgesOf (L.take (k + 1)))) := by
            rw [Hid, edgesOf_take hp.out]
            rw [stepsK_all (by have := hmm.out; omega)]
          go_wp2_with fail
          go_roundw
          case rel => exact ⟨k + 1, by omega, by go_num, by rw [← N.out]; exact OW.out, B.out⟩
          case measure => simp [intOf]; omega
    · have hlk : ¬ (k : Int) < (n : Int) := by omega
      have hbs := B.out.size
      have BF := Lib.hid (B0.out.trans (B.out.mono B0.out.size))
      rw [List.take_of_length_le (by rw [hln.out]; omega)] at OW
      obtain ⟨A9, c9, rfl, _, _⟩ := Sl.of_own OW.out
      go_wp2_with fail
      go_ret
      exact ⟨_, rfl, own_mono' OW.out hw2.out, BF.out⟩
end Go.Proofs.YtfnhmbflmifhcaaGreat

/- The document's graph: all vertices, all files, what is of a kind, a file's steps: walked. -/
namespace Go.Proofs.YtfnhmbflmifhcaaGreat
open Go.RowKit

theorem indexV20 (b o n c k : Nat) (hk : k < n) (w : World) : (Instr.indexAt 50 (.slice (some ⟨b, o, none⟩) n c) (.int .i64 ((k : Nat) : Int))).run Tryz.prog w = .ok (.pointer (some ⟨b, o + k * 3, none⟩)) w := by
  have h0 : (0 : Int) ≤ (k : Int) := by omega
  have h1 : (k : Int) < (n : Int) := by omega
  simp [go_sem, h0, h1]
theorem indexE20 (b o n c k : Nat) (hk : k < n) (w : World) : (Instr.indexAt 57 (.slice (some ⟨b, o, none⟩) n c) (.int .i64 ((k : Nat) : Int))).run Tryz.prog w = .ok (.pointer (some ⟨b, o + k * 6, none⟩)) w := by
  have h0 : (0 : Int) ≤ (k : Int) := by omega
  have h1 : (k : Int) < (n : Int) := by omega
  simp [go_sem, h0, h1]
theorem index0E20 (b o : Nat) (w : World) : (Instr.indexAt 64 (.pointer (some ⟨b, o, none⟩)) (.int .i64 0)).run Tryz.prog w = .ok (.pointer (some ⟨b, o, none⟩)) w := by simp [go_sem]
theorem flat_snocX20 (mo : List VertV) (y : VertV) : (mo ++ [y]).flatMap encX = mo.flatMap encX ++ encX y := by simp
theorem take_more {α : Type} {l : List α} {k : Nat} {x : α} (h : l[k]? = some x) : l.take (k + 1) = l.take k ++ [x] := by
  rw [List.take_add_one, h]; rfl
theorem filt_t {α : Type} {q : α → Bool} {l : List α} {k : Nat} {x : α} (h : l[k]? = some x) (hq : q x = true) : (l.take (k + 1)).filter q = (l.take k).filter q ++ [x] := by
  rw [take_more h, List.filter_append]; simp [hq]
theorem filt_f {α : Type} {q : α → Bool} {l : List α} {k : Nat} {x : α} (h : l[k]? = some x) (hq : q x = false) : (l.take (k + 1)).filter q = (l.take k).filter q := by
  rw [take_more h, List.filter_append]; simp [hq]
theorem filt_le {α : Type} (q : α → Bool) (l : List α) (k : Nat) {m : Nat} (h : l.length ≤ m) : ((l.take k).filter q).length ≤ m := by
  refine Nat.le_trans (List.length_filter_le _ _) ?_
  rw [List.length_take]; omega
theorem x_vid20 {w : World} {b o : Nat} {x : VertV} (h : w.rangeAt b o (encX x)) : w.rangeAt b o (encV x.1) := fun j v hj =>
  match j, hj with
  | 0, hj => h 0 v hj
  | 1, hj => h 1 v hj
  | 2, hj => h 2 v hj
  | j + 3, hj => by simp [encV] at hj
theorem x_file20 {w : World} {b o : Nat} {x : VertV} (h : w.rangeAt b o (encX x)) : w.rangeAt b (o + 4) (encV x.2.2.1) := fun j v hj =>
  match j, hj with
  | 0, hj => h 4 v hj
  | 1, hj => h 5 v hj
  | 2, hj => h 6 v hj
  | j + 3, hj => by simp [encV] at hj
theorem x_kind20 {w : World} {b o : Nat} {x : VertV} (h : w.rangeAt b o (encX x)) : w.cell? ⟨b, o + 3, none⟩ = some (.int .u8 ((x.2.1.val : Nat) : Int)) := h 3 _ rfl
theorem idsL_len (L : List PatV) {n : Nat} (hl : L.length = n) (hn : n ≤ 400) (h200 : ∀ p ∈ L, p.2.2.length ≤ 200) : (idsL L).length ≤ 80000 := by
  have h1 := setK_len (key := keyV) (idsOf L)
  have h2 := idsOf_len L h200
  have h3 : L.length * 200 ≤ 400 * 200 := Nat.mul_le_mul_right _ (by omega)
  unfold idsL
  omega
theorem vertsL_len (L : List PatV) {n : Nat} (hl : L.length = n) (hn : n ≤ 400) (h200 : ∀ p ∈ L, p.2.2.length ≤ 200) : (vertsL L).length ≤ 80000 := by
  unfold vertsL
  rw [List.length_map]
  exact idsL_len L hl hn h200
theorem edgesL_len (L : List PatV) {n : Nat} (hl : L.length = n) (hn : n ≤ 400) (h200 : ∀ p ∈ L, p.2.2.length ≤ 200) : (edgesL L).length ≤ 80000 := by
  have h1 := setK_len (key := keyE) (edgesOf L)
  have h2 := edgesOf_len L h200
  have h3 : L.length * 200 ≤ 400 * 200 := Nat.mul_le_mul_right _ (by omega)
  unfold edgesL
  omega
theorem vertD_fileV (L : List PatV) (v : VidV) : (vertD L v).2.2.1 = fileV L v := vertD_file L v
set_option maxRecDepth 100000 in
set_option maxHeartbeats 8000000 in
theorem rverts20_any (L : List PatV) (w : World) (A : Option Addr) (n c : Nat) (h : PatsAt w A n L) (hn : n ≤ 400) (h200 : ∀ p ∈ L, p.2.2.length ≤ 200) :
    Calls Tryz.prog 72 #[.agg #[.slice A n c]] w (OwnedRet w 46 9 (vertsL L).length ((vertsL L).flatMap encX)) := by
  have KG : Hid (Blk (w.alloc (.cells #[.slice A n c] 28)) w.heap.size 28 #[.slice A n c]) := Blk.new _ _ _
  have B0 : Hid (Below w.heap.size w (w.alloc (.cells #[.slice A n c] 28))) := below_new _ _
  have PT := Lib.hid (h.ext B0.out)
  have hil := idsL_len L h.len hn h200
  have hnm : Hid (n ≤ maxLen) := by rw [Hid]; unfold maxLen; omega
  have HI := Lib.hid (rids20_any L (w.alloc (.cells #[.slice A n c] 28)) A n c PT.out hn h200)
  have hcV : ∀ args u, (callFunc 20 args).run Tryz.prog u = .ok (.enter 20 args) u := enters_of Tryz.func20 (by kernel_rfl) rfl
  clear h h200
  have E : Hid (vertsL L = (idsL L).map (vertD L)) := rfl
  go_enter Tryz.func72, Tryz.ntmps72
  go_upto_region 1 with fail
  generalize (w.alloc (.cells #[.slice A n c] 28)) = w2 at *
  obtain ⟨gg, hgg⟩ : ∃ g, g = w.heap.size := ⟨_, rfl⟩
  rw [← hgg] at KG ⊢
  replace hgg := Lib.hid hgg
  generalize idsL L = l at *
  obtain ⟨m, hm⟩ : ∃ m, m = l.length := ⟨_, rfl⟩
  rw [← hm] at HI hil
  replace hm := Lib.hid hm
  go_wp2_with (refine wpList_load_row rfl 28 _ (by rfl) gg (by rfl) _ _ _ _ KG.out underG20 rfl infoG20 ?_)
  refine HI.out.mono ?_
  rintro e w3 ⟨v3, rfl, o3, b3⟩
  obtain ⟨Al, cl, rfl, _, s3⟩ := Sl.of_own o3
  have VA : Hid (VidsAt w3 Al m l) := ⟨hm.out.symm, s3⟩
  have B3 := Lib.hid (B0.out.trans (b3.mono B0.out.size))
  have KG3 := Lib.hid (KG.out.ext b3)
  have PT3 := Lib.hid (PT.out.ext b3)
  have hw3 : Hid (w.heap.size ≤ w3.heap.size) := B3.out.size
  have BS := Lib.hid (Below.refl w3.heap.size w3)
  clear o3 s3 b3 HI KG PT B0
  go_wp2_with fail
  go_loopw [5, 3] (fun i v wr => ∃ k : Nat, k ≤ m ∧ i = .int .i64 k ∧ Hid (wr.ownsRow w3.heap.size 46 9 v ((l.take k).map (vertD L)).length (((l.take k).map (vertD L)).flatMap encX)) ∧ Hid (Below w3.heap.size w3 wr)) (fun i _ _ => m - (intOf i).toNat)
  case atStart => exact ⟨0, by omega, rfl, World.ownsRow_nil _ _ _ _, BS.out⟩
  case round =>
    clear BS
    obtain ⟨k, hk, rfl, OW, B⟩ := hrel
    obtain ⟨wi, rfl⟩ : ∃ wx, wx = wr := ⟨_, rfl⟩
    have hk0 : (0 : Int) ≤ (k : Int) := by omega
    by_cases hlt : k < m
    · have hlk : (k : Int) < (m : Int) := by omega
      obtain ⟨b, o, v, rfl, hb, hv, R⟩ := (VA.out.ext B.out).at_ hlt
      have N : Hid ((l.take (k + 1)).map (vertD L) = (l.take k).map (vertD L) ++ [vertD L v]) := by rw [Hid, take_more hv, List.map_append]; rfl
      have hlen : Hid (((l.take k).map (vertD L)).length ≤ 80000) := by rw [Hid, List.length_map, List.length_take]; omega
      have RV := Lib.hid R
      have hbl := Lib.hid hb
      have KGi := Lib.hid (KG3.out.ext B.out)
      have HV := Lib.hid (fun (u : World) (hu : Below wi.heap.size wi u) => rvert20_any L u A n c hnm.out ((PT3.out.ext B.out).ext hu) v)
      have HIX := Lib.hid (fun u => indexV20 b o m cl k hlt u)
      clear hv R hb
      generalize vertD L v = x at *
      generalize (vertV L v).isSome = ok at *
      go_upto_region 6 with fail
      go_cut [6] (fun pv wx => ∃ gn, pv = .pointer (some ⟨gn, 0, none⟩) ∧ Blk wx gn 46 (encX x).toArray ∧ Below wi.heap.size wi wx)
      case first =>
        refine wp_region_held (S := fun w' => Below wi.heap.size wi w') mixedS ?_
        change wpAnyH _ _ _ _ _ _ _ _ wi.drew
        have B5 : Hid (Below wi.heap.size wi wi.drew) := (Below.refl _ _).drew
        generalize wi.drew = w5 at B5 ⊢
        simp only [List.size_toArray, List.length_cons, List.length_nil]
        refine takeV (i := 0) (d := 17) (v := .agg #[.slice A n c]) rfl (by kernel_rfl) (by kernel_rfl) (by kernel_rfl) (fun _ _ _ h => h) rfl (fun w' h => exMid rfl (blk_pat (cs := [.slice A n c]) (KGi.out.ext h)) underG20 rfl infoG20) B5.out ?_
        simp only [Act.put, List.setIfInBounds_toArray, List.set_cons_zero, List.set_cons_succ]
        refine takeV (i := 1) (d := 18) (v := .slice (some ⟨b, o, none⟩) m cl) rfl (by kernel_rfl) (by kernel_rfl) (by kernel_rfl) (fun _ _ _ h => h) rfl (fun _ _ => exMove (v := .slice (some ⟨b, o, none⟩) m cl) rfl) B5.out ?_
        simp only [Act.put, List.setIfInBounds_toArray, List.set_cons_zero, List.set_cons_succ]
        refine takeV (i := 2) (d := 19) (v := .int .i64 ((k : Nat) : Int)) rfl (by kernel_rfl) (by kernel_rfl) (by kernel_rfl) (fun _ _ _ h => h) rfl (fun _ _ => exMove (v := .int .i64 ((k : Nat) : Int)) rfl) B5.out ?_
        simp only [Act.put, List.setIfInBounds_toArray, List.set_cons_zero, List.set_cons_succ]
        refine takeV (i := 3) (d := 20) (v := .pointer (some ⟨b, o + k * 3, none⟩)) rfl (by kernel_rfl) (by kernel_rfl) (by kernel_rfl) (fun _ _ _ h => h) rfl (fun w' _ => exIndex rfl rfl (HIX.out w')) B5.out ?_
        simp only [Act.put, List.setIfInBounds_toArray, List.set_cons_zero, List.set_cons_succ]
        refine takeV (i := 4) (d := 21) (v := .agg (encV v).toArray) rfl (by kernel_rfl) (by kernel_rfl) (by kernel_rfl) (fun _ _ _ h => h) rfl (fun w' h => exMid rfl (rangeAt_below RV.out h hbl.out) underVid rfl infoVid) B5.out ?_
        simp only [Act.put, List.setIfInBounds_toArray, List.set_cons_zero, List.set_cons_succ]
        refine wpAnyH_all (rs := [5, 9]) (by kernel_rfl) (by simp) ?_
        intro i hi
        simp only [List.mem_cons, List.not_mem_nil, or_false] at hi
        rcases hi with rfl | rfl
        · refine wpOp_of rfl rfl (wp_called (args := #[.agg #[.slice A n c], .agg (encV v).toArray]) hcV (by simp only [List.map_toArray, List.map_cons, List.map_nil]; rfl) (HV.out w5 B5.out) ?_)
          rintro e w_1 ⟨rfl, h_2⟩
          refine ⟨_, rfl, ext_trans B5.out h_2, ?_⟩
          simp only [Act.put, List.setIfInBounds_toArray, List.set_cons_zero, List.set_cons_succ]
          have B_3 := Lib.hid (ext_trans B5.out h_2)
          clear B5
          clear h_2
          refine takeV (i := 6) (d := 16) (v := .tuple #[.agg (encX x).toArray, .bool ok]) rfl (by kernel_rfl) (by kernel_rfl) (by kernel_rfl) (fun _ _ _ h => h) rfl (fun _ _ => exMove (v := .tuple #[.agg (encX x).toArray, .bool ok]) rfl) B_3.out ?_
          simp only [Act.put, List.setIfInBounds_toArray, List.set_cons_zero, List.set_cons_succ]
          refine takeV (i := 7) (d := 23) (v := .agg (encX x).toArray) rfl (by kernel_rfl) (by kernel_rfl) (by kernel_rfl) (fun _ _ _ h => h) rfl (fun _ _ => exExtract (v := .agg (encX x).toArray) rfl rfl) B_3.out ?_
          simp only [Act.put, List.setIfInBounds_toArray, List.set_cons_zero, List.set_cons_succ]
          refine takeV (i := 8) (d := 24) (v := .bool ok) rfl (by kernel_rfl) (by kernel_rfl) (by kernel_rfl) (fun _ _ _ h => h) rfl (fun _ _ => exExtract (v := .bool ok) rfl rfl) B_3.out ?_
          simp only [Act.put, List.setIfInBounds_toArray, List.set_cons_zero, List.set_cons_succ]
          refine wpAnyH_all (rs := [9]) (by kernel_rfl) (by simp) ?_
          intro i hi
          simp only [List.mem_cons, List.not_mem_nil, or_false] at hi
          subst hi
          refine wpOp_of rfl rfl (wp_alloced (allocVert _) ?_)
          refine ⟨ext_trans B_3.out (below_new _ _), ?_⟩
          simp only [Act.put, List.setIfInBounds_toArray, List.set_cons_zero, List.set_cons_succ]
          have K_4 : Hid (Blk (w_1.alloc (.cells zeroX 46)) w_1.heap.size 46 zeroX) := Blk.new _ _ _
          have h_5 : Below w_1.heap.size w_1 (w_1.alloc (.cells zeroX 46)) := below_new _ _
          have gz_7 : Hid (wi.heap.size ≤ w_1.heap.size) := B_3.out.size
          generalize (w_1.alloc (.cells zeroX 46)) = w_6 at *
          have B_9 := Lib.hid (ext_trans B_3.out h_5)
          clear B_3
          clear h_5
          generalize w_1.heap.size = g_8 at *
          refine wpAnyH_all (rs := [10]) (by kernel_rfl) (by simp) ?_
          intro i hi
          simp only [List.mem_cons, List.not_mem_nil, or_false] at hi
          subst hi
          refine wpOp_of rfl rfl (wp_stored (cs := (encX x).toArray) rfl rfl K_4.out infoVert rfl (encX_all x) ?_)
          refine ⟨below_setRow B_9.out gz_7.out _, ?_⟩
          have K_10 := Lib.hid (K_4.out.row (encX x).toArray)
          have B_11 := Lib.hid (below_setRow B_9.out gz_7.out (encX x).toArray)
          clear B_9 K_4
          refine takeV (i := 11) (d := 7) (v := .bool ok) rfl (by kernel_rfl) (by kernel_rfl) (by kernel_rfl) (fun _ _ _ h => h) rfl (fun _ _ => exAssign (v := .bool ok) rfl) B_11.out ?_
          simp only [Act.put, List.setIfInBounds_toArray, List.set_cons_zero, List.set_cons_succ]
          refine wpAnyH_done (by kernel_rfl) ?_ _
          go_wp2_with fail
          go_meet
          case rel => exact ⟨_, rfl, K_10.out, B_11.out⟩
        · refine wpOp_of rfl rfl (wp_alloced (allocVert _) ?_)
          refine ⟨ext_trans B5.out (below_new _ _), ?_⟩
          simp only [Act.put, List.setIfInBounds_toArray, List.set_cons_zero, List.set_cons_succ]
          have K_13 : Hid (Blk (w5.alloc (.cells zeroX 46)) w5.heap.size 46 zeroX) := Blk.new _ _ _
          have h_14 : Below w5.heap.size w5 (w5.alloc (.cells zeroX 46)) := below_new _ _
          have gz_16 : Hid (wi.heap.size ≤ w5.heap.size) := B5.out.size
          generalize (w5.alloc (.cells zeroX 46)) = w_15 at *
          have B_18 := Lib.hid (ext_trans B5.out h_14)
          clear B5
          clear h_14
          generalize w5.heap.size = g_17 at *
          refine wpAnyH_all (rs := [5]) (by kernel_rfl) (by simp) ?_
          intro i hi
          simp only [List.mem_cons, List.not_mem_nil, or_false] at hi
          subst hi
          refine wpOp_of rfl rfl (wp_called (args := #[.agg #[.slice A n c], .agg (encV v).toArray]) hcV (by simp only [List.map_toArray, List.map_cons, List.map_nil]; rfl) (HV.out w_15 B_18.out) ?_)
          rintro e w_19 ⟨rfl, h_20⟩
          refine ⟨_, rfl, ext_trans B_18.out h_20, ?_⟩
          simp only [Act.put, List.setIfInBounds_toArray, List.set_cons_zero, List.set_cons_succ]
          have B_21 := Lib.hid (ext_trans B_18.out h_20)
          have F_22 := Lib.hid (K_13.out.ext h_20)
          clear B_18 K_13
          clear h_20
          refine takeV (i := 6) (d := 16) (v := .tuple #[.agg (encX x).toArray, .bool ok]) rfl (by kernel_rfl) (by kernel_rfl) (by kernel_rfl) (fun _ _ _ h => h) rfl (fun _ _ => exMove (v := .tuple #[.agg (encX x).toArray, .bool ok]) rfl) B_21.out ?_
          simp only [Act.put, List.setIfInBounds_toArray, List.set_cons_zero, List.set_cons_succ]
          refine takeV (i := 7) (d := 23) (v := .agg (encX x).toArray) rfl (by kernel_rfl) (by kernel_rfl) (by kernel_rfl) (fun _ _ _ h => h) rfl (fun _ _ => exExtract (v := .agg (encX x).toArray) rfl rfl) B_21.out ?_
          simp only [Act.put, List.setIfInBounds_toArray, List.set_cons_zero, List.set_cons_succ]
          refine takeV (i := 8) (d := 24) (v := .bool ok) rfl (by kernel_rfl) (by kernel_rfl) (by kernel_rfl) (fun _ _ _ h => h) rfl (fun _ _ => exExtract (v := .bool ok) rfl rfl) B_21.out ?_
          simp only [Act.put, List.setIfInBounds_toArray, List.set_cons_zero, List.set_cons_succ]
          refine wpAnyH_all (rs := [10]) (by kernel_rfl) (by simp) ?_
          intro i hi
          simp only [List.mem_cons, List.not_mem_nil, or_false] at hi
          subst hi
          refine wpOp_of rfl rfl (wp_stored (cs := (encX x).toArray) rfl rfl F_22.out infoVert rfl (encX_all x) ?_)
          refine ⟨below_setRow B_21.out gz_16.out _, ?_⟩
          have K_23 := Lib.hid (F_22.out.row (encX x).toArray)
          have B_24 := Lib.hid (below_setRow B_21.out gz_16.out (encX x).toArray)
          clear B_21 F_22
          refine takeV (i := 11) (d := 7) (v := .bool ok) rfl (by kernel_rfl) (by kernel_rfl) (by kernel_rfl) (fun _ _ _ h => h) rfl (fun _ _ => exAssign (v := .bool ok) rfl) B_24.out ?_
          simp only [Act.put, List.setIfInBounds_toArray, List.set_cons_zero, List.set_cons_succ]
          refine wpAnyH_done (by kernel_rfl) ?_ _
          go_wp2_with fail
          go_meet
          case rel => exact ⟨_, rfl, K_23.out, B_24.out⟩
      case rest =>
        obtain ⟨gn, rfl, kn, bx⟩ := hcut
        obtain ⟨wx, rfl⟩ : ∃ wx, wx = wc := ⟨_, rfl⟩
        have KN := Lib.hid kn
        have OX := Lib.hid (own_ext OW.out bx)
        have BX := Lib.hid (B.out.trans (bx.mono B.out.size))
        have hbs := BX.out.size
        have hl2 := hlen.out
        clear kn bx OW B HV HIX RV KGi
        go_wp2_with (first
          | (refine wpList_load_row rfl 46 _ (by rfl) gn (by rfl) _ _ _ _ KN.out underVert rfl infoVert ?_)
          | (refine wpList_lit1 vertSl (encX_len x) (by omega) (by rfl) ?_)
          | (at_builtin; refine wpList_push vertSl OX.out (encX x) rfl (encX_one x) hbs (by omega) (by unfold maxLen; omega) (by rfl) (by rfl) (by rfl) ?_; intro vn w9 own1 bel1))
        have O9 : Hid (w9.ownsRow w3.heap.size 46 9 vn ((l.take (k + 1)).map (vertD L)).length (((l.take (k + 1)).map (vertD L)).flatMap encX)) := by
          rw [Hid, N.out, List.length_append, flat_snocX20]; exact own1
        have B9 := Lib.hid (BX.out.trans bel1)
        clear own1 bel1 OX BX
        go_roundw
        case rel => exact ⟨k + 1, by omega, by go_num, O9.out, B9.out⟩
        case measure => simp [intOf]; omega
    · have hlk : ¬ (k : Int) < (m : Int) := by omega
      rw [List.take_of_length_le (by rw [← hm.out]; omega), ← E.out] at OW
      have BF := Lib.hid (B3.out.trans (B.out.mono B3.out.size))
      obtain ⟨A9, c9, rfl, _, _⟩ := Sl.of_own OW.out
      go_wp2_with fail
      go_ret
      exact ⟨_, rfl, own_mono' OW.out hw3.out, BF.out⟩
set_option maxRecDepth 100000 in
set_option maxHeartbeats 4000000 in
theorem rfiles20_any (L : List PatV) (w : World) (A : Option Addr) (n c : Nat) (h : PatsAt w A n L) (hn : n ≤ 400) (h200 : ∀ p ∈ L, p.2.2.length ≤ 200) :
    Calls Tryz.prog 21 #[.agg #[.slice A n c]] w (OwnedRet w 43 3 (filesL L).length ((filesL L).flatMap encV)) := by
  have KG : Hid (Blk (w.alloc (.cells #[.slice A n c] 28)) w.heap.size 28 #[.slice A n c]) := Blk.new _ _ _
  have B0 : Hid (Below w.heap.size w (w.alloc (.cells #[.slice A n c] 28))) := below_new _ _
  have hil := vertsL_len L h.len hn h200
  have HI := Lib.hid (rverts20_any L (w.alloc (.cells #[.slice A n c] 28)) A n c (h.ext B0.out) hn h200)
  clear h h200
  have E : Hid (filesL L = ((vertsL L).filter fun x => decide (x.2.1.val = 1)).map (·.1)) := rfl
  go_enter Tryz.func21, Tryz.ntmps21
  go_upto_region 1 with fail
  generalize (w.alloc (.cells #[.slice A n c] 28)) = w2 at *
  obtain ⟨gg, hgg⟩ : ∃ g, g = w.heap.size := ⟨_, rfl⟩
  rw [← hgg] at KG ⊢
  replace hgg := Lib.hid hgg
  generalize vertsL L = l at *
  obtain ⟨m, hm⟩ : ∃ m, m = l.length := ⟨_, rfl⟩
  rw [← hm] at HI hil
  replace hm := Lib.hid hm
  go_wp2_with (refine wpList_load_row rfl 28 _ (by rfl) gg (by rfl) _ _ _ _ KG.out underG20 rfl infoG20 ?_)
  refine HI.out.mono ?_
  rintro e w3 ⟨v3, rfl, o3, b3⟩
  obtain ⟨Al, cl, rfl, _, s3⟩ := Sl.of_own o3
  have VA : Hid (VertsAt w3 Al m l) := ⟨hm.out.symm, s3⟩
  have B3 := Lib.hid (B0.out.trans (b3.mono B0.out.size))
  have hw3 : Hid (w.heap.size ≤ w3.heap.size) := B3.out.size
  have BS := Lib.hid (Below.refl w3.heap.size w3)
  clear o3 s3 b3 HI KG B0
  go_wp2_with fail
  go_loopw [5, 3] (fun i v wr => ∃ k : Nat, k ≤ m ∧ i = .int .i64 k ∧ Hid (wr.ownsRow w3.heap.size 43 3 v (((l.take k).filter fun x => decide (x.2.1.val = 1)).map (·.1)).length ((((l.take k).filter fun x => decide (x.2.1.val = 1)).map (·.1)).flatMap encV)) ∧ Hid (Below w3.heap.size w3 wr)) (fun i _ _ => m - (intOf i).toNat)
  case atStart => exact ⟨0, by omega, rfl, World.ownsRow_nil _ _ _ _, BS.out⟩
  case round =>
    clear BS
    obtain ⟨k, hk, rfl, OW, B⟩ := hrel
    obtain ⟨wi, rfl⟩ : ∃ wx, wx = wr := ⟨_, rfl⟩
    have hk0 : (0 : Int) ≤ (k : Int) := by omega
    have hbs := B.out.size
    by_cases hlt : k < m
    · have hlk : (k : Int) < (m : Int) := by omega
      obtain ⟨b, o, x, rfl, hb, hx, R⟩ := (VA.out.ext B.out).at_ hlt
      have hlen := filt_le (fun x : VertV => decide (x.2.1.val = 1)) l k (m := 80000) (by rw [← hm.out]; omega)
      have yk : wi.cell? ⟨b, o + k * 9 + 3, none⟩ = some (.int .u8 ((x.2.1.val : Nat) : Int)) := x_kind20 R
      have RV := Lib.hid (x_vid20 R)
      clear R hb
      by_cases h1 : x.2.1.val = 1
      · have z1 : (((x.2.1.val : Nat) : Int) == 1) = true := by rw [beq_iff_eq]; omega
        have N : Hid (((l.take (k + 1)).filter fun x => decide (x.2.1.val = 1)).map (·.1) = ((l.take k).filter fun x => decide (x.2.1.val = 1)).map (·.1) ++ [x.1]) := by rw [Hid, filt_t hx (decide_eq_true h1), List.map_append]; rfl
        replace h1 := Lib.hid h1
        clear hx
        have hl2 : (((l.take k).filter fun x => decide (x.2.1.val = 1)).map (·.1)).length ≤ 80000 := by rw [List.length_map]; exact hlen
        clear hlen
        generalize ((l.take k).filter fun x => decide (x.2.1.val = 1)).map (·.1) = fl at *
        go_wp2_with (first
          | (refine wpList_load_mid rfl 43 _ (by rfl) b (o + k * 9) (by rfl) _ _ RV.out underVid rfl infoVid ?_)
          | (refine wpList_lit1 vidSl (encV_len x.1) (by omega) (by rfl) ?_)
          | (at_builtin; refine wpList_push vidSl OW.out (encV x.1) rfl (encV_one x.1) hbs (by omega) (by unfold maxLen; omega) (by rfl) (by rfl) (by rfl) ?_; intro vn w9 own1 bel1))
        have O9 : Hid (w9.ownsRow w3.heap.size 43 3 vn (((l.take (k + 1)).filter fun x => decide (x.2.1.val = 1)).map (·.1)).length ((((l.take (k + 1)).filter fun x => decide (x.2.1.val = 1)).map (·.1)).flatMap encV)) := by
          rw [Hid, N.out, List.length_append, flat_snocV20]; exact own1
        have B9 := Lib.hid (B.out.trans bel1)
        clear own1 bel1 OW B N
        go_roundw
        case rel => exact ⟨k + 1, by omega, by go_num, O9.out, B9.out⟩
        case measure => simp [intOf]; omega
      · have z1 : (((x.2.1.val : Nat) : Int) == 1) = false := by rw [beq_eq_false_iff_ne]; omega
        have N : Hid ((l.take (k + 1)).filter (fun x => decide (x.2.1.val = 1)) = (l.take k).filter fun x => decide (x.2.1.val = 1)) := filt_f hx (decide_eq_false h1)
        replace h1 := Lib.hid h1
        rw [← N.out] at OW
        clear hx hlen
        go_wp2_with fail
        go_roundw
        case rel => exact ⟨k + 1, by omega, by go_num, OW.out, B.out⟩
        case measure => simp [intOf]; omega
    · have hlk : ¬ (k : Int) < (m : Int) := by omega
      rw [List.take_of_length_le (by rw [← hm.out]; omega), ← E.out] at OW
      have BF := Lib.hid (B3.out.trans (B.out.mono B3.out.size))
      obtain ⟨A9, c9, rfl, _, _⟩ := Sl.of_own OW.out
      go_wp2_with fail
      go_ret
      exact ⟨_, rfl, own_mono' OW.out hw3.out, BF.out⟩
end Go.Proofs.YtfnhmbflmifhcaaGreat

/- The document's graph: what is of a kind, a file's steps: walked. -/
namespace Go.Proofs.YtfnhmbflmifhcaaGreat
open Go.RowKit

set_option maxRecDepth 100000 in
set_option maxHeartbeats 4000000 in
theorem rof20_any (L : List PatV) (w : World) (A : Option Addr) (n c : Nat) (h : PatsAt w A n L) (hn : n ≤ 400) (h200 : ∀ p ∈ L, p.2.2.length ≤ 200) (v : VidV) (kd : Nat) :
    Calls Tryz.prog 24 #[.agg #[.slice A n c], .agg (encV v).toArray, .int .u8 (kd : Int)] w (OwnedRet w 46 9 (ofL L v kd).length ((ofL L v kd).flatMap encX)) := by
  have KG : Hid (Blk ((w.alloc (.cells #[.slice A n c] 28)).alloc (.cells (encV v).toArray 43)) w.heap.size 28 #[.slice A n c]) := (Blk.new _ _ _).alloc _
  have KV : Hid (Blk ((w.alloc (.cells #[.slice A n c] 28)).alloc (.cells (encV v).toArray 43)) (w.heap.size + 1) 43 (encV v).toArray) := Blk.newAt (by simp) _ _
  have B0 : Hid (Below w.heap.size w ((w.alloc (.cells #[.slice A n c] 28)).alloc (.cells (encV v).toArray 43))) := ((Below.refl _ _).alloc (Nat.le_refl _) _).alloc (by simp) _
  have hil := vertsL_len L h.len hn h200
  have HI := Lib.hid (rverts20_any L ((w.alloc (.cells #[.slice A n c] 28)).alloc (.cells (encV v).toArray 43)) A n c (h.ext B0.out) hn h200)
  clear h h200
  have E : Hid (ofL L v kd = (vertsL L).filter fun x => decide (x.2.1.val = kd) && decide (x.2.2.1 = v)) := rfl
  go_enter Tryz.func24, Tryz.ntmps24
  go_upto_region 1 with fail
  generalize ((w.alloc (.cells #[.slice A n c] 28)).alloc (.cells (encV v).toArray 43)) = w2 at *
  obtain ⟨gv, hgv⟩ : ∃ g, g = w.heap.size + 1 := ⟨_, rfl⟩
  obtain ⟨gg, hgg⟩ : ∃ g, g = w.heap.size := ⟨_, rfl⟩
  rw [← hgv] at KV ⊢
  rw [← hgg] at KG ⊢
  replace hgv := Lib.hid hgv
  replace hgg := Lib.hid hgg
  generalize vertsL L = l at *
  obtain ⟨m, hm⟩ : ∃ m, m = l.length := ⟨_, rfl⟩
  rw [← hm] at HI hil
  replace hm := Lib.hid hm
  go_wp2_with (refine wpList_load_row rfl 28 _ (by rfl) gg (by rfl) _ _ _ _ KG.out underG20 rfl infoG20 ?_)
  refine HI.out.mono ?_
  rintro e w3 ⟨v3, rfl, o3, b3⟩
  obtain ⟨Al, cl, rfl, _, s3⟩ := Sl.of_own o3
  have VA : Hid (VertsAt w3 Al m l) := ⟨hm.out.symm, s3⟩
  have B3 := Lib.hid (B0.out.trans (b3.mono B0.out.size))
  have KV3 := Lib.hid (KV.out.ext b3)
  have hw3 : Hid (w.heap.size ≤ w3.heap.size) := B3.out.size
  have BS := Lib.hid (Below.refl w3.heap.size w3)
  clear o3 s3 b3 HI KG KV B0
  go_wp2_with fail
  go_loopw [9, 7] (fun i u wr => ∃ k : Nat, k ≤ m ∧ i = .int .i64 k ∧ Hid (wr.ownsRow w3.heap.size 46 9 u ((l.take k).filter fun x => decide (x.2.1.val = kd) && decide (x.2.2.1 = v)).length (((l.take k).filter fun x => decide (x.2.1.val = kd) && decide (x.2.2.1 = v)).flatMap encX)) ∧ Hid (Below w3.heap.size w3 wr)) (fun i _ _ => m - (intOf i).toNat)
  case atStart => exact ⟨0, by omega, rfl, World.ownsRow_nil _ _ _ _, BS.out⟩
  case round =>
    clear BS
    obtain ⟨k, hk, rfl, OW, B⟩ := hrel
    obtain ⟨wi, rfl⟩ : ∃ wx, wx = wr := ⟨_, rfl⟩
    have hk0 : (0 : Int) ≤ (k : Int) := by omega
    have hbs := B.out.size
    by_cases hlt : k < m
    · have hlk : (k : Int) < (m : Int) := by omega
      obtain ⟨b, o, x, rfl, hb, hx, R⟩ := (VA.out.ext B.out).at_ hlt
      have hl2 := filt_le (fun x : VertV => decide (x.2.1.val = kd) && decide (x.2.2.1 = v)) l k (m := 80000) (by rw [← hm.out]; omega)
      have yk : wi.cell? ⟨b, o + k * 9 + 3, none⟩ = some (.int .u8 ((x.2.1.val : Nat) : Int)) := x_kind20 R
      have RF := Lib.hid (x_file20 R)
      have RX := Lib.hid R
      have RV := Lib.hid (blk_pat (KV3.out.ext B.out))
      clear R hb
      go_upto_region 6 with fail
      by_cases h1 : x.2.1.val = kd
      · have z1 : (((x.2.1.val : Nat) : Int) == (kd : Int)) = true := by rw [beq_iff_eq]; omega
        by_cases h2 : x.2.2.1 = v
        · have EQ : ∀ u : World, (binOp .eql 43 (.agg (encV x.2.2.1).toArray) (.agg (encV v).toArray)).run Tryz.prog u = .ok (.bool true) u := fun u => by rw [eqlV, decide_eq_true h2]
          have N : Hid ((l.take (k + 1)).filter (fun x => decide (x.2.1.val = kd) && decide (x.2.2.1 = v)) = ((l.take k).filter fun x => decide (x.2.1.val = kd) && decide (x.2.2.1 = v)) ++ [x]) := filt_t hx (by rw [decide_eq_true h1, decide_eq_true h2]; rfl)
          replace h1 := Lib.hid h1
          replace h2 := Lib.hid h2
          clear hx
          generalize (l.take k).filter (fun x => decide (x.2.1.val = kd) && decide (x.2.2.1 = v)) = fl at *
          refine wp_region_quiet_lit (by kernel_rfl) (by kernel_rfl) ?_
          repeat (first
            | go_big_quiet_skip
            | (refine wpQuiet_load_mid (rangeAt_drewN1 RF.out) underVid rfl infoVid rfl rfl ?_; simp only [List.set_cons_succ, List.set_cons_zero])
            | (refine wpQuiet_load_mid (rangeAt_drewN1 RV.out) underVid rfl infoVid rfl rfl ?_; simp only [List.set_cons_succ, List.set_cons_zero])
            | go_big_quiet_step (fail))
          refine wpQuiet_nil ?_
          rintro _ ⟨nq, rfl⟩
          clear EQ yk z1 RF RV
          go_wp2_with (first
            | (refine wpList_load_mid rfl 46 _ (by rfl) b (o + k * 9) (by rfl) _ _ (rangeAt_drewN1 RX.out _ ⟨nq, rfl⟩) underVert rfl infoVert ?_)
            | (refine wpList_lit1 vertSl (encX_len x) (by omega) (by rfl) ?_)
            | (at_builtin; refine wpList_push vertSl (own_ext OW.out (below_drewN (Below.refl _ _) nq)) (encX x) rfl (encX_one x) hbs (by omega) (by unfold maxLen; omega) (by rfl) (by rfl) (by rfl) ?_; intro vn w9 own1 bel1))
          have O9 : Hid (w9.ownsRow w3.heap.size 46 9 vn ((l.take (k + 1)).filter fun x => decide (x.2.1.val = kd) && decide (x.2.2.1 = v)).length (((l.take (k + 1)).filter fun x => decide (x.2.1.val = kd) && decide (x.2.2.1 = v)).flatMap encX)) := by
            rw [Hid, N.out, List.length_append, flat_snocX20]; exact own1
          have B9 := Lib.hid ((below_drewN B.out nq).trans bel1)
          clear own1 bel1 OW B N
          go_roundw
          case rel => exact ⟨k + 1, by omega, by go_num, O9.out, B9.out⟩
          case measure => simp [intOf]; omega
        · have EQ : ∀ u : World, (binOp .eql 43 (.agg (encV x.2.2.1).toArray) (.agg (encV v).toArray)).run Tryz.prog u = .ok (.bool false) u := fun u => by rw [eqlV, decide_eq_false h2]
          have N : Hid ((l.take (k + 1)).filter (fun x => decide (x.2.1.val = kd) && decide (x.2.2.1 = v)) = (l.take k).filter fun x => decide (x.2.1.val = kd) && decide (x.2.2.1 = v)) := filt_f hx (by rw [decide_eq_false h2, Bool.and_false])
          rw [← N.out] at OW
          replace h1 := Lib.hid h1
          replace h2 := Lib.hid h2
          clear hx hl2 RX
          refine wp_region_quiet_lit (by kernel_rfl) (by kernel_rfl) ?_
          repeat (first
            | go_big_quiet_skip
            | (refine wpQuiet_load_mid (rangeAt_drewN1 RF.out) underVid rfl infoVid rfl rfl ?_; simp only [List.set_cons_succ, List.set_cons_zero])
            | (refine wpQuiet_load_mid (rangeAt_drewN1 RV.out) underVid rfl infoVid rfl rfl ?_; simp only [List.set_cons_succ, List.set_cons_zero])
            | go_big_quiet_step (fail))
          refine wpQuiet_nil ?_
          rintro _ ⟨nq, rfl⟩
          clear EQ yk z1 RF RV
          go_wp2_with fail
          go_roundw
          case rel => exact ⟨k + 1, by omega, by go_num, own_ext OW.out (below_drewN (Below.refl _ _) nq), below_drewN B.out nq⟩
          case measure => simp [intOf]; omega
      · have z1 : (((x.2.1.val : Nat) : Int) == (kd : Int)) = false := by rw [beq_eq_false_iff_ne]; omega
        have N : Hid ((l.take (k + 1)).filter (fun x => decide (x.2.1.val = kd) && decide (x.2.2.1 = v)) = (l.take k).filter fun x => decide (x.2.1.val = kd) && decide (x.2.2.1 = v)) := filt_f hx (by rw [decide_eq_false h1, Bool.false_and])
        rw [← N.out] at OW
        replace h1 := Lib.hid h1
        clear hx hl2 RX
        refine wp_region_quiet_lit (by kernel_rfl) (by kernel_rfl) ?_
        repeat (first
          | go_big_quiet_skip
          | (refine wpQuiet_load_mid (rangeAt_drewN1 RF.out) underVid rfl infoVid rfl rfl ?_; simp only [List.set_cons_succ, List.set_cons_zero])
          | (refine wpQuiet_load_mid (rangeAt_drewN1 RV.out) underVid rfl infoVid rfl rfl ?_; simp only [List.set_cons_succ, List.set_cons_zero])
          | go_big_quiet_step (fail))
        refine wpQuiet_nil ?_
        rintro _ ⟨nq, rfl⟩
        clear yk z1 RF RV
        go_wp2_with fail
        go_roundw
        case rel => exact ⟨k + 1, by omega, by go_num, own_ext OW.out (below_drewN (Below.refl _ _) nq), below_drewN B.out nq⟩
        case measure => simp [intOf]; omega
    · have hlk : ¬ (k : Int) < (m : Int) := by omega
      rw [List.take_of_length_le (by rw [← hm.out]; omega), ← E.out] at OW
      have BF := Lib.hid (B3.out.trans (B.out.mono B3.out.size))
      obtain ⟨A9, c9, rfl, _, _⟩ := Sl.of_own OW.out
      go_wp2_with fail
      go_ret
      exact ⟨_, rfl, own_mono' OW.out hw3.out, BF.out⟩
set_option maxRecDepth 100000 in
set_option maxHeartbeats 8000000 in
theorem rsteps20_any (L : List PatV) (w : World) (A : Option Addr) (n c : Nat) (h : PatsAt w A n L) (hn : n ≤ 400) (h200 : ∀ p ∈ L, p.2.2.length ≤ 200) (v : VidV) :
    Calls Tryz.prog 27 #[.agg #[.slice A n c], .agg (encV v).toArray] w (OwnedRet w 64 6 (stepsL L v).length ((stepsL L v).flatMap encE)) := by
  have KG : Hid (Blk ((w.alloc (.cells #[.slice A n c] 28)).alloc (.cells (encV v).toArray 43)) w.heap.size 28 #[.slice A n c]) := (Blk.new _ _ _).alloc _
  have KV : Hid (Blk ((w.alloc (.cells #[.slice A n c] 28)).alloc (.cells (encV v).toArray 43)) (w.heap.size + 1) 43 (encV v).toArray) := Blk.newAt (by simp) _ _
  have B0 : Hid (Below w.heap.size w ((w.alloc (.cells #[.slice A n c] 28)).alloc (.cells (encV v).toArray 43))) := ((Below.refl _ _).alloc (Nat.le_refl _) _).alloc (by simp) _
  have PT := Lib.hid (h.ext B0.out)
  have hil := edgesL_len L h.len hn h200
  have hnm : Hid (n ≤ maxLen) := by rw [Hid]; unfold maxLen; omega
  have HI := Lib.hid (redges20_any L ((w.alloc (.cells #[.slice A n c] 28)).alloc (.cells (encV v).toArray 43)) A n c PT.out hn h200)
  have hcV : ∀ args u, (callFunc 20 args).run Tryz.prog u = .ok (.enter 20 args) u := enters_of Tryz.func20 (by kernel_rfl) rfl
  clear h h200
  have E : Hid (stepsL L v = (edgesL L).filter fun e => decide (fileV L e.1 = v)) := rfl
  go_enter Tryz.func27, Tryz.ntmps27
  go_upto_region 1 with fail
  generalize ((w.alloc (.cells #[.slice A n c] 28)).alloc (.cells (encV v).toArray 43)) = w2 at *
  obtain ⟨gv, hgv⟩ : ∃ g, g = w.heap.size + 1 := ⟨_, rfl⟩
  obtain ⟨gg, hgg⟩ : ∃ g, g = w.heap.size := ⟨_, rfl⟩
  rw [← hgv] at KV ⊢
  rw [← hgg] at KG ⊢
  replace hgv := Lib.hid hgv
  replace hgg := Lib.hid hgg
  generalize edgesL L = l at *
  obtain ⟨m, hm⟩ : ∃ m, m = l.length := ⟨_, rfl⟩
  rw [← hm] at HI hil
  replace hm := Lib.hid hm
  go_wp2_with (refine wpList_load_row rfl 28 _ (by rfl) gg (by rfl) _ _ _ _ KG.out underG20 rfl infoG20 ?_)
  refine HI.out.mono ?_
  rintro e w3 ⟨v3, rfl, o3, b3⟩
  obtain ⟨Al, cl, rfl, _, s3⟩ := Sl.of_own o3
  have VA : Hid (EdgesAt w3 Al m l) := ⟨hm.out.symm, s3⟩
  have B3 := Lib.hid (B0.out.trans (b3.mono B0.out.size))
  have KG3 := Lib.hid (KG.out.ext b3)
  have KV3 := Lib.hid (KV.out.ext b3)
  have PT3 := Lib.hid (PT.out.ext b3)
  have hw3 : Hid (w.heap.size ≤ w3.heap.size) := B3.out.size
  have BS := Lib.hid (Below.refl w3.heap.size w3)
  clear o3 s3 b3 HI KG KV PT B0
  go_wp2_with fail
  go_loopw [7, 5] (fun i u wr => ∃ k : Nat, k ≤ m ∧ i = .int .i64 k ∧ Hid (wr.ownsRow w3.heap.size 64 6 u ((l.take k).filter fun e => decide (fileV L e.1 = v)).length (((l.take k).filter fun e => decide (fileV L e.1 = v)).flatMap encE)) ∧ Hid (Below w3.heap.size w3 wr)) (fun i _ _ => m - (intOf i).toNat)
  case atStart => exact ⟨0, by omega, rfl, World.ownsRow_nil _ _ _ _, BS.out⟩
  case round =>
    clear BS
    obtain ⟨k, hk, rfl, OW, B⟩ := hrel
    obtain ⟨wi, rfl⟩ : ∃ wx, wx = wr := ⟨_, rfl⟩
    have hk0 : (0 : Int) ≤ (k : Int) := by omega
    by_cases hlt : k < m
    · have hlk : (k : Int) < (m : Int) := by omega
      obtain ⟨b, o, y, rfl, hb, hy, R⟩ := (VA.out.ext B.out).at_ hlt
      have hlen := Lib.hid (filt_le (fun e : EdgeV => decide (fileV L e.1 = v)) l k (m := 80000) (by rw [← hm.out]; omega))
      have NT : Hid (fileV L y.1 = v → (l.take (k + 1)).filter (fun e => decide (fileV L e.1 = v)) = ((l.take k).filter fun e => decide (fileV L e.1 = v)) ++ [y]) := fun h => filt_t hy (decide_eq_true h)
      have NF : Hid (¬ fileV L y.1 = v → (l.take (k + 1)).filter (fun e => decide (fileV L e.1 = v)) = (l.take k).filter fun e => decide (fileV L e.1 = v)) := fun h => filt_f hy (decide_eq_false h)
      have RV := Lib.hid (e_fst R)
      have RY := Lib.hid R
      have hbl := Lib.hid hb
      have KGi := Lib.hid (KG3.out.ext B.out)
      have HV := Lib.hid (fun (u : World) (hu : Below wi.heap.size wi u) => rvert20_any L u A n c hnm.out ((PT3.out.ext B.out).ext hu) y.1)
      have HIX := Lib.hid (fun u => indexE20 b o m cl k hlt u)
      have HF := Lib.hid (vertD_fileV L y.1)
      clear hy R hb
      generalize vertD L y.1 = x at *
      generalize (vertV L y.1).isSome = ok at *
      go_upto_region 6 with fail
      go_cut [8] (fun pv wx => ∃ gn, pv = .pointer (some ⟨gn, 0, none⟩) ∧ Blk wx gn 46 (encX x).toArray ∧ Below wi.heap.size wi wx)
      case first =>
        refine wp_region_held (S := fun w' => Below wi.heap.size wi w') mixedS ?_
        change wpAnyH _ _ _ _ _ _ _ _ wi.drew
        have B5 : Hid (Below wi.heap.size wi wi.drew) := (Below.refl _ _).drew
        generalize wi.drew = w5 at B5 ⊢
        simp only [List.size_toArray, List.length_cons, List.length_nil]
        refine takeV (i := 0) (d := 19) (v := .agg #[.slice A n c]) rfl (by kernel_rfl) (by kernel_rfl) (by kernel_rfl) (fun _ _ _ h => h) rfl (fun w' h => exMid rfl (blk_pat (cs := [.slice A n c]) (KGi.out.ext h)) underG20 rfl infoG20) B5.out ?_
        simp only [Act.put, List.setIfInBounds_toArray, List.set_cons_zero, List.set_cons_succ]
        refine takeV (i := 1) (d := 20) (v := .slice (some ⟨b, o, none⟩) m cl) rfl (by kernel_rfl) (by kernel_rfl) (by kernel_rfl) (fun _ _ _ h => h) rfl (fun _ _ => exMove (v := .slice (some ⟨b, o, none⟩) m cl) rfl) B5.out ?_
        simp only [Act.put, List.setIfInBounds_toArray, List.set_cons_zero, List.set_cons_succ]
        refine takeV (i := 2) (d := 21) (v := .int .i64 ((k : Nat) : Int)) rfl (by kernel_rfl) (by kernel_rfl) (by kernel_rfl) (fun _ _ _ h => h) rfl (fun _ _ => exMove (v := .int .i64 ((k : Nat) : Int)) rfl) B5.out ?_
        simp only [Act.put, List.setIfInBounds_toArray, List.set_cons_zero, List.set_cons_succ]
        refine takeV (i := 3) (d := 22) (v := .pointer (some ⟨b, o + k * 6, none⟩)) rfl (by kernel_rfl) (by kernel_rfl) (by kernel_rfl) (fun _ _ _ h => h) rfl (fun w' _ => exIndex rfl rfl (HIX.out w')) B5.out ?_
        simp only [Act.put, List.setIfInBounds_toArray, List.set_cons_zero, List.set_cons_succ]
        refine takeV (i := 4) (d := 23) (v := .pointer (some ⟨b, o + k * 6, none⟩)) rfl (by kernel_rfl) (by kernel_rfl) (by kernel_rfl) (fun _ _ _ h => h) rfl (fun w' _ => exIndex rfl rfl (index0E20 b (o + k * 6) w')) B5.out ?_
        simp only [Act.put, List.setIfInBounds_toArray, List.set_cons_zero, List.set_cons_succ]
        refine takeV (i := 5) (d := 24) (v := .agg (encV y.1).toArray) rfl (by kernel_rfl) (by kernel_rfl) (by kernel_rfl) (fun _ _ _ h => h) rfl (fun w' h => exMid rfl (rangeAt_below RV.out h hbl.out) underVid rfl infoVid) B5.out ?_
        simp only [Act.put, List.setIfInBounds_toArray, List.set_cons_zero, List.set_cons_succ]
        refine wpAnyH_all (rs := [6, 10]) (by kernel_rfl) (by simp) ?_
        intro i hi
        simp only [List.mem_cons, List.not_mem_nil, or_false] at hi
        rcases hi with rfl | rfl
        · refine wpOp_of rfl rfl (wp_called (args := #[.agg #[.slice A n c], .agg (encV y.1).toArray]) hcV (by simp only [List.map_toArray, List.map_cons, List.map_nil]; rfl) (HV.out w5 B5.out) ?_)
          rintro e w_1 ⟨rfl, h_2⟩
          refine ⟨_, rfl, ext_trans B5.out h_2, ?_⟩
          simp only [Act.put, List.setIfInBounds_toArray, List.set_cons_zero, List.set_cons_succ]
          have B_3 := Lib.hid (ext_trans B5.out h_2)
          clear B5
          clear h_2
          refine takeV (i := 7) (d := 18) (v := .tuple #[.agg (encX x).toArray, .bool ok]) rfl (by kernel_rfl) (by kernel_rfl) (by kernel_rfl) (fun _ _ _ h => h) rfl (fun _ _ => exMove (v := .tuple #[.agg (encX x).toArray, .bool ok]) rfl) B_3.out ?_
          simp only [Act.put, List.setIfInBounds_toArray, List.set_cons_zero, List.set_cons_succ]
          refine takeV (i := 8) (d := 26) (v := .agg (encX x).toArray) rfl (by kernel_rfl) (by kernel_rfl) (by kernel_rfl) (fun _ _ _ h => h) rfl (fun _ _ => exExtract (v := .agg (encX x).toArray) rfl rfl) B_3.out ?_
          simp only [Act.put, List.setIfInBounds_toArray, List.set_cons_zero, List.set_cons_succ]
          refine takeV (i := 9) (d := 27) (v := .bool ok) rfl (by kernel_rfl) (by kernel_rfl) (by kernel_rfl) (fun _ _ _ h => h) rfl (fun _ _ => exExtract (v := .bool ok) rfl rfl) B_3.out ?_
          simp only [Act.put, List.setIfInBounds_toArray, List.set_cons_zero, List.set_cons_succ]
          refine wpAnyH_all (rs := [10]) (by kernel_rfl) (by simp) ?_
          intro i hi
          simp only [List.mem_cons, List.not_mem_nil, or_false] at hi
          subst hi
          refine wpOp_of rfl rfl (wp_alloced (allocVert _) ?_)
          refine ⟨ext_trans B_3.out (below_new _ _), ?_⟩
          simp only [Act.put, List.setIfInBounds_toArray, List.set_cons_zero, List.set_cons_succ]
          have K_4 : Hid (Blk (w_1.alloc (.cells zeroX 46)) w_1.heap.size 46 zeroX) := Blk.new _ _ _
          have h_5 : Below w_1.heap.size w_1 (w_1.alloc (.cells zeroX 46)) := below_new _ _
          have gz_7 : Hid (wi.heap.size ≤ w_1.heap.size) := B_3.out.size
          generalize (w_1.alloc (.cells zeroX 46)) = w_6 at *
          have B_9 := Lib.hid (ext_trans B_3.out h_5)
          clear B_3
          clear h_5
          generalize w_1.heap.size = g_8 at *
          refine wpAnyH_all (rs := [11]) (by kernel_rfl) (by simp) ?_
          intro i hi
          simp only [List.mem_cons, List.not_mem_nil, or_false] at hi
          subst hi
          refine wpOp_of rfl rfl (wp_stored (cs := (encX x).toArray) rfl rfl K_4.out infoVert rfl (encX_all x) ?_)
          refine ⟨below_setRow B_9.out gz_7.out _, ?_⟩
          have K_10 := Lib.hid (K_4.out.row (encX x).toArray)
          have B_11 := Lib.hid (below_setRow B_9.out gz_7.out (encX x).toArray)
          clear B_9 K_4
          refine takeV (i := 12) (d := 9) (v := .bool ok) rfl (by kernel_rfl) (by kernel_rfl) (by kernel_rfl) (fun _ _ _ h => h) rfl (fun _ _ => exAssign (v := .bool ok) rfl) B_11.out ?_
          simp only [Act.put, List.setIfInBounds_toArray, List.set_cons_zero, List.set_cons_succ]
          refine wpAnyH_done (by kernel_rfl) ?_ _
          go_wp2_with fail
          go_meet
          case rel => exact ⟨_, rfl, K_10.out, B_11.out⟩
        · refine wpOp_of rfl rfl (wp_alloced (allocVert _) ?_)
          refine ⟨ext_trans B5.out (below_new _ _), ?_⟩
          simp only [Act.put, List.setIfInBounds_toArray, List.set_cons_zero, List.set_cons_succ]
          have K_13 : Hid (Blk (w5.alloc (.cells zeroX 46)) w5.heap.size 46 zeroX) := Blk.new _ _ _
          have h_14 : Below w5.heap.size w5 (w5.alloc (.cells zeroX 46)) := below_new _ _
          have gz_16 : Hid (wi.heap.size ≤ w5.heap.size) := B5.out.size
          generalize (w5.alloc (.cells zeroX 46)) = w_15 at *
          have B_18 := Lib.hid (ext_trans B5.out h_14)
          clear B5
          clear h_14
          generalize w5.heap.size = g_17 at *
          refine wpAnyH_all (rs := [6]) (by kernel_rfl) (by simp) ?_
          intro i hi
          simp only [List.mem_cons, List.not_mem_nil, or_false] at hi
          subst hi
          refine wpOp_of rfl rfl (wp_called (args := #[.agg #[.slice A n c], .agg (encV y.1).toArray]) hcV (by simp only [List.map_toArray, List.map_cons, List.map_nil]; rfl) (HV.out w_15 B_18.out) ?_)
          rintro e w_19 ⟨rfl, h_20⟩
          refine ⟨_, rfl, ext_trans B_18.out h_20, ?_⟩
          simp only [Act.put, List.setIfInBounds_toArray, List.set_cons_zero, List.set_cons_succ]
          have B_21 := Lib.hid (ext_trans B_18.out h_20)
          have F_22 := Lib.hid (K_13.out.ext h_20)
          clear B_18 K_13
          clear h_20
          refine takeV (i := 7) (d := 18) (v := .tuple #[.agg (encX x).toArray, .bool ok]) rfl (by kernel_rfl) (by kernel_rfl) (by kernel_rfl) (fun _ _ _ h => h) rfl (fun _ _ => exMove (v := .tuple #[.agg (encX x).toArray, .bool ok]) rfl) B_21.out ?_
          simp only [Act.put, List.setIfInBounds_toArray, List.set_cons_zero, List.set_cons_succ]
          refine takeV (i := 8) (d := 26) (v := .agg (encX x).toArray) rfl (by kernel_rfl) (by kernel_rfl) (by kernel_rfl) (fun _ _ _ h => h) rfl (fun _ _ => exExtract (v := .agg (encX x).toArray) rfl rfl) B_21.out ?_
          simp only [Act.put, List.setIfInBounds_toArray, List.set_cons_zero, List.set_cons_succ]
          refine takeV (i := 9) (d := 27) (v := .bool ok) rfl (by kernel_rfl) (by kernel_rfl) (by kernel_rfl) (fun _ _ _ h => h) rfl (fun _ _ => exExtract (v := .bool ok) rfl rfl) B_21.out ?_
          simp only [Act.put, List.setIfInBounds_toArray, List.set_cons_zero, List.set_cons_succ]
          refine wpAnyH_all (rs := [11]) (by kernel_rfl) (by simp) ?_
          intro i hi
          simp only [List.mem_cons, List.not_mem_nil, or_false] at hi
          subst hi
          refine wpOp_of rfl rfl (wp_stored (cs := (encX x).toArray) rfl rfl F_22.out infoVert rfl (encX_all x) ?_)
          refine ⟨below_setRow B_21.out gz_16.out _, ?_⟩
          have K_23 := Lib.hid (F_22.out.row (encX x).toArray)
          have B_24 := Lib.hid (below_setRow B_21.out gz_16.out (encX x).toArray)
          clear B_21 F_22
          refine takeV (i := 12) (d := 9) (v := .bool ok) rfl (by kernel_rfl) (by kernel_rfl) (by kernel_rfl) (fun _ _ _ h => h) rfl (fun _ _ => exAssign (v := .bool ok) rfl) B_24.out ?_
          simp only [Act.put, List.setIfInBounds_toArray, List.set_cons_zero, List.set_cons_succ]
          refine wpAnyH_done (by kernel_rfl) ?_ _
          go_wp2_with fail
          go_meet
          case rel => exact ⟨_, rfl, K_23.out, B_24.out⟩
      case rest =>
        obtain ⟨gn, rfl, kn, bx⟩ := hcut
        obtain ⟨wx, rfl⟩ : ∃ wx, wx = wc := ⟨_, rfl⟩
        have RF := Lib.hid (x_file20 (blk_pat kn))
        rw [Nat.zero_add] at RF
        have OX := Lib.hid (own_ext OW.out bx)
        have BX := Lib.hid (B.out.trans (bx.mono B.out.size))
        have KVx := Lib.hid (KV3.out.ext BX.out)
        have RYx := Lib.hid (rangeAt_below RY.out bx hbl.out)
        have hbs := BX.out.size
        have hl2 := hlen.out
        clear kn bx OW B HV HIX RV KGi RY
        by_cases h2 : x.2.2.1 = v
        · have EQ : ∀ u : World, (binOp .eql 43 (.agg (encV x.2.2.1).toArray) (.agg (encV v).toArray)).run Tryz.prog u = .ok (.bool true) u := fun u => by rw [eqlV, decide_eq_true h2]
          have N := Lib.hid (NT.out (HF.out.symm.trans h2))
          clear NT NF h2 HF
          generalize (l.take k).filter (fun e => decide (fileV L e.1 = v)) = fl at *
          go_wp2_with (first
            | (refine wpList_load_mid rfl 43 _ (by rfl) gn 4 (by rfl) _ _ RF.out underVid rfl infoVid ?_)
            | (refine wpList_load_row rfl 43 _ (by rfl) gv (by rfl) _ _ _ _ KVx.out underVid rfl infoVid ?_)
            | (refine wpList_load_mid rfl 64 _ (by rfl) b (o + k * 6) (by rfl) _ _ RYx.out underEdge rfl infoEdge ?_)
            | (refine wpList_lit1 edgeSl (encE_len y) (by omega) (by rfl) ?_)
            | (at_builtin; refine wpList_push edgeSl OX.out (encE y) rfl (encE_one y) hbs (by omega) (by unfold maxLen; omega) (by rfl) (by rfl) (by rfl) ?_; intro vn w9 own1 bel1))
          have O9 : Hid (w9.ownsRow w3.heap.size 64 6 vn ((l.take (k + 1)).filter fun e => decide (fileV L e.1 = v)).length (((l.take (k + 1)).filter fun e => decide (fileV L e.1 = v)).flatMap encE)) := by
            rw [Hid, N.out, List.length_append, flat_snocE]; exact own1
          have B9 := Lib.hid (BX.out.trans bel1)
          clear own1 bel1 OX BX N
          go_roundw
          case rel => exact ⟨k + 1, by omega, by go_num, O9.out, B9.out⟩
          case measure => simp [intOf]; omega
        · have EQ : ∀ u : World, (binOp .eql 43 (.agg (encV x.2.2.1).toArray) (.agg (encV v).toArray)).run Tryz.prog u = .ok (.bool false) u := fun u => by rw [eqlV, decide_eq_false h2]
          have N := Lib.hid (NF.out (fun e => h2 (HF.out.trans e)))
          rw [← N.out] at OX
          clear NT NF h2 HF
          go_wp2_with (first
            | (refine wpList_load_mid rfl 43 _ (by rfl) gn 4 (by rfl) _ _ RF.out underVid rfl infoVid ?_)
            | (refine wpList_load_row rfl 43 _ (by rfl) gv (by rfl) _ _ _ _ KVx.out underVid rfl infoVid ?_))
          go_roundw
          case rel => exact ⟨k + 1, by omega, by go_num, OX.out, BX.out⟩
          case measure => simp [intOf]; omega
    · have hlk : ¬ (k : Int) < (m : Int) := by omega
      rw [List.take_of_length_le (by rw [← hm.out]; omega), ← E.out] at OW
      have BF := Lib.hid (B3.out.trans (B.out.mono B3.out.size))
      obtain ⟨A9, c9, rfl, _, _⟩ := Sl.of_own OW.out
      go_wp2_with fail
      go_ret
      exact ⟨_, rfl, own_mono' OW.out hw3.out, BF.out⟩
end Go.Proofs.YtfnhmbflmifhcaaGreat

/- The document's graph, and the program's, of the same patches, are the same: walked. -/
namespace Go.Proofs.YtfnhmbflmifhcaaGreat
open Go.RowKit

theorem VidsAtS.of_own {w : World} {base n : Nat} {v : Value} {l : List VidV} (h : w.ownsRow base 43 3 v n (l.flatMap encV)) (hn : l.length = n) : ∃ A c, v = .slice A n c ∧ n ≤ c ∧ VidsAt w A n l := by
  obtain ⟨A, c, rfl, hc, hs⟩ := Sl.of_own h
  exact ⟨A, c, rfl, hc, hn, hs⟩
theorem eqgV (x y : Operand) (a b : List Int) (w : World) : (eqGuard .eql 67 x y (.agg (vecA a)) (.agg (vecA b))).run Tryz.prog w = .ok () w := by
  simp [eqGuard, go_sem]
set_option maxRecDepth 100000 in
set_option maxHeartbeats 8000000 in
theorem lsame20_any {w : World} {F : Nat → Prop} {g : Nat} {L : List PatV} (HG : GraphAt w F g L) (hf : L.length ≤ 400) (A : Option Addr) (c : Nat) (h : PatsAt w A L.length L) :
    Calls Tryz.prog 17 #[.pointer (some ⟨g, 0, none⟩), .agg #[.slice A L.length c]] w (RetB w (.int .i64 1)) := by
  have hlx := vertsL_few HG.ok hf
  have hle := edgesL_few HG.ok hf
  have hlf : (filesL L).length ≤ 80000 := by unfold filesL; rw [List.length_map]; exact Nat.le_trans (List.length_filter_le _ _) hlx
  have h200 : ∀ p ∈ L, p.2.2.length ≤ 200 := fun p hp => HG.ok.few hp
  have hnm : L.length ≤ maxLen := by unfold maxLen; omega
  have KG : Hid (Blk (w.alloc (.cells #[.slice A L.length c] 28)) w.heap.size 28 #[.slice A L.length c]) := Blk.new _ _ _
  have B0 : Hid (Below w.heap.size w (w.alloc (.cells #[.slice A L.length c] 28))) := below_new _ _
  go_enter Tryz.func17, Tryz.ntmps17
  go_upto_region 1 with fail
  generalize (w.alloc (.cells #[.slice A L.length c] 28)) = w2 at *
  generalize w.heap.size = gx at KG ⊢
  have G2 := HG.ext B0.out
  have P2 := h.ext B0.out
  have HV1 := Lib.hid (fun (u : World) (hu : Below w2.heap.size w2 u) => vec20_any (G2.ext hu).mem)
  have HV2 := Lib.hid (fun (u : World) (hu : Below w2.heap.size w2 u) => rvec20_any L u A L.length c (P2.ext hu) hnm)
  have HX1 := Lib.hid (fun (u : World) (hu : Below w2.heap.size w2 u) => verts20_any (G2.ext hu) hf)
  have HX2 := Lib.hid (fun (u : World) (hu : Below w2.heap.size w2 u) => rverts20_any L u A L.length c (P2.ext hu) hf h200)
  have HE1 := Lib.hid (fun (u : World) (hu : Below w2.heap.size w2 u) => edges20_any (G2.ext hu) hf)
  have HE2 := Lib.hid (fun (u : World) (hu : Below w2.heap.size w2 u) => redges20_any L u A L.length c (P2.ext hu) hf h200)
  have HF1 := Lib.hid (fun (u : World) (hu : Below w2.heap.size w2 u) => files20_any (G2.ext hu) hf)
  have HF2 := Lib.hid (fun (u : World) (hu : Below w2.heap.size w2 u) => rfiles20_any L u A L.length c (P2.ext hu) hf h200)
  have EQ : ∀ u : World, (binOp .eql 67 (.agg (vecA (vecL L))) (.agg (vecA (vecL L)))).run Tryz.prog u = .ok (.bool true) u := fun u => by rw [eql_vec _ _ (vecL_ok _) (vecL_ok _), decide_eq_true rfl]
  have HQX := Lib.hid (fun (u : World) (A A' : Option Addr) (c c' : Nat) (a : VertsAt u A (vertsL L).length (vertsL L)) (b : VertsAt u A' (vertsL L).length (vertsL L)) => sameX (vertsL L) u A A' _ c c' a b (by unfold maxLen; omega))
  have HQE := Lib.hid (fun (u : World) (A A' : Option Addr) (c c' : Nat) (a : EdgesAt u A (edgesL L).length (edgesL L)) (b : EdgesAt u A' (edgesL L).length (edgesL L)) => sameE (edgesL L) u A A' _ c c' a b (by unfold maxLen; omega))
  have HQF : Hid (∀ (u : World) (A A' : Option Addr) (c c' : Nat), VidsAt u A (filesL L).length (filesL L) → VidsAt u A' (filesL L).length (filesL L) → Calls Tryz.prog 74 #[.slice A (filesL L).length c, .slice A' (filesL L).length c'] u (RetD u (.bool true))) := fun u A A' c c' a b => by
    have := rsameV (filesL L) (filesL L) u A A' _ _ c c' a b (by unfold maxLen; omega)
    rw [decide_eq_true rfl] at this
    exact this
  clear HG hf h200 hlx hle hlf hnm h G2 P2
  generalize filesL L = FL at *
  generalize vertsL L = XL at *
  generalize edgesL L = EL at *
  have EG := fun x y u => eqgV x y (vecL L) (vecL L) u
  generalize vecL L = V at *
  generalize L.length = n at *
  obtain ⟨nx, hnx⟩ : ∃ n, n = XL.length := ⟨_, rfl⟩
  obtain ⟨ne, hne⟩ : ∃ n, n = EL.length := ⟨_, rfl⟩
  obtain ⟨nf, hnf⟩ : ∃ n, n = FL.length := ⟨_, rfl⟩
  rw [← hnx] at HX1 HX2 HQX
  rw [← hne] at HE1 HE2 HQE
  rw [← hnf] at HF1 HF2 HQF
  replace hnx := Lib.hid hnx
  replace hne := Lib.hid hne
  replace hnf := Lib.hid hnf
  have hc1 : ∀ args u, (callFunc 31 args).run Tryz.prog u = .ok (.enter 31 args) u := enters_of Tryz.func31 (by kernel_rfl) rfl
  have hc2 : ∀ args u, (callFunc 71 args).run Tryz.prog u = .ok (.enter 71 args) u := enters_of Tryz.func71 (by kernel_rfl) rfl
  have hc3 : ∀ args u, (callFunc 29 args).run Tryz.prog u = .ok (.enter 29 args) u := enters_of Tryz.func29 (by kernel_rfl) rfl
  have hc4 : ∀ args u, (callFunc 72 args).run Tryz.prog u = .ok (.enter 72 args) u := enters_of Tryz.func72 (by kernel_rfl) rfl
  have hc5 : ∀ args u, (callFunc 22 args).run Tryz.prog u = .ok (.enter 22 args) u := enters_of Tryz.func22 (by kernel_rfl) rfl
  have hc6 : ∀ args u, (callFunc 28 args).run Tryz.prog u = .ok (.enter 28 args) u := enters_of Tryz.func28 (by kernel_rfl) rfl
  have hc7 : ∀ args u, (callFunc 73 args).run Tryz.prog u = .ok (.enter 73 args) u := enters_of Tryz.func73 (by kernel_rfl) rfl
  have hc8 : ∀ args u, (callFunc 25 args).run Tryz.prog u = .ok (.enter 25 args) u := enters_of Tryz.func25 (by kernel_rfl) rfl
  have hc9 : ∀ args u, (callFunc 58 args).run Tryz.prog u = .ok (.enter 58 args) u := enters_of Tryz.func58 (by kernel_rfl) rfl
  have hc10 : ∀ args u, (callFunc 21 args).run Tryz.prog u = .ok (.enter 21 args) u := enters_of Tryz.func21 (by kernel_rfl) rfl
  have hc11 : ∀ args u, (callFunc 74 args).run Tryz.prog u = .ok (.enter 74 args) u := enters_of Tryz.func74 (by kernel_rfl) rfl
  refine wp_region_held (S := fun w' => Below w2.heap.size w2 w') mixedS ?_
  change wpAnyH _ _ _ _ _ _ _ _ w2.drew
  have B3 : Hid (Below w2.heap.size w2 w2.drew) := (Below.refl _ _).drew
  generalize w2.drew = w3 at B3 ⊢
  simp only [List.size_toArray, List.length_cons, List.length_nil]
  refine takeV (i := 0) (d := 5) (v := .pointer (some ⟨g, 0, none⟩)) rfl (by kernel_rfl) (by kernel_rfl) (by kernel_rfl) (fun _ _ _ h => h) rfl (fun _ _ => exMove (v := .pointer (some ⟨g, 0, none⟩)) rfl) B3.out ?_
  simp only [Act.put, List.setIfInBounds_toArray, List.set_cons_zero, List.set_cons_succ]
  refine takeV (i := 2) (d := 7) (v := .agg #[.slice A n c]) rfl (by kernel_rfl) (by kernel_rfl) (by kernel_rfl) (fun _ _ _ h => h) rfl (fun w' h => exMid rfl (blk_pat (cs := [.slice A n c]) (KG.out.ext h)) underG20 rfl infoG20) B3.out ?_
  simp only [Act.put, List.setIfInBounds_toArray, List.set_cons_zero, List.set_cons_succ]
  refine wpAnyH_all (rs := [1]) (by kernel_rfl) (by simp) ?_
  intro i hi
  simp only [List.mem_cons, List.not_mem_nil, or_false] at hi
  subst hi
  refine wpOp_of rfl rfl (wp_called (args := #[.pointer (some ⟨g, 0, none⟩)]) hc1 (by simp only [List.map_toArray, List.map_cons, List.map_nil]; rfl) (HV1.out w3 B3.out) ?_)
  rintro e w_1 ⟨rfl, h_2⟩
  refine ⟨_, rfl, ext_trans B3.out h_2, ?_⟩
  simp only [Act.put, List.setIfInBounds_toArray, List.set_cons_zero, List.set_cons_succ]
  have B_3 := Lib.hid (ext_trans B3.out h_2)
  clear B3
  clear h_2
  refine wpAnyH_all (rs := [3]) (by kernel_rfl) (by simp) ?_
  intro i hi
  simp only [List.mem_cons, List.not_mem_nil, or_false] at hi
  subst hi
  refine wpOp_of rfl rfl (wp_called (args := #[.agg #[.slice A n c]]) hc2 (by simp only [List.map_toArray, List.map_cons, List.map_nil]; rfl) (HV2.out w_1 B_3.out) ?_)
  rintro e w_4 ⟨rfl, h_5⟩
  refine ⟨_, rfl, ext_trans B_3.out h_5, ?_⟩
  simp only [Act.put, List.setIfInBounds_toArray, List.set_cons_zero, List.set_cons_succ]
  have B_6 := Lib.hid (ext_trans B_3.out h_5)
  clear B_3
  clear h_5
  refine takeV (i := 4) (d := 9) (v := .bool true) rfl (by kernel_rfl) (by kernel_rfl) (by kernel_rfl) (fun _ _ _ h => h) rfl (fun w' _ => exBin rfl rfl (EG _ _ _) (EQ w')) B_6.out ?_
  simp only [Act.put, List.setIfInBounds_toArray, List.set_cons_zero, List.set_cons_succ]
  refine takeV (i := 5) (d := 10) (v := .bool true) rfl (by kernel_rfl) (by kernel_rfl) (by kernel_rfl) (fun _ _ _ h => h) rfl (fun _ _ => exMove (v := .bool true) rfl) B_6.out ?_
  simp only [Act.put, List.setIfInBounds_toArray, List.set_cons_zero, List.set_cons_succ]
  refine takeV (i := 6) (d := 11) (v := .pointer (some ⟨g, 0, none⟩)) rfl (by kernel_rfl) (by kernel_rfl) (by kernel_rfl) (fun _ _ _ h => h) rfl (fun _ _ => exMove (v := .pointer (some ⟨g, 0, none⟩)) rfl) B_6.out ?_
  simp only [Act.put, List.setIfInBounds_toArray, List.set_cons_zero, List.set_cons_succ]
  refine takeV (i := 8) (d := 13) (v := .agg #[.slice A n c]) rfl (by kernel_rfl) (by kernel_rfl) (by kernel_rfl) (fun _ _ _ h => h) rfl (fun w' h => exMid rfl (blk_pat (cs := [.slice A n c]) (KG.out.ext h)) underG20 rfl infoG20) B_6.out ?_
  simp only [Act.put, List.setIfInBounds_toArray, List.set_cons_zero, List.set_cons_succ]
  refine wpAnyH_all (rs := [7]) (by kernel_rfl) (by simp) ?_
  intro i hi
  simp only [List.mem_cons, List.not_mem_nil, or_false] at hi
  subst hi
  refine wpOp_of rfl rfl (wp_called (args := #[.pointer (some ⟨g, 0, none⟩)]) hc3 (by simp only [List.map_toArray, List.map_cons, List.map_nil]; rfl) (HX1.out w_4 B_6.out) ?_)
  rintro e w_7 ⟨_, rfl, o_9, h_8⟩
  obtain ⟨A_10, c_11, rfl, _, p_12⟩ := VertsAt.of_own o_9 hnx.out.symm
  have P_13 := Lib.hid p_12
  refine ⟨_, rfl, ext_trans B_6.out h_8, ?_⟩
  simp only [Act.put, List.setIfInBounds_toArray, List.set_cons_zero, List.set_cons_succ]
  have B_14 := Lib.hid (ext_trans B_6.out h_8)
  clear B_6
  clear o_9 h_8 p_12
  refine wpAnyH_all (rs := [9]) (by kernel_rfl) (by simp) ?_
  intro i hi
  simp only [List.mem_cons, List.not_mem_nil, or_false] at hi
  subst hi
  refine wpOp_of rfl rfl (wp_called (args := #[.agg #[.slice A n c]]) hc4 (by simp only [List.map_toArray, List.map_cons, List.map_nil]; rfl) (HX2.out w_7 B_14.out) ?_)
  rintro e w_15 ⟨_, rfl, o_17, h_16⟩
  obtain ⟨A_18, c_19, rfl, _, p_20⟩ := VertsAt.of_own o_17 hnx.out.symm
  have P_21 := Lib.hid p_20
  refine ⟨_, rfl, ext_trans B_14.out h_16, ?_⟩
  simp only [Act.put, List.setIfInBounds_toArray, List.set_cons_zero, List.set_cons_succ]
  have B_22 := Lib.hid (ext_trans B_14.out h_16)
  have F_23 := Lib.hid (P_13.out.ext h_16)
  clear B_14 P_13
  clear o_17 h_16 p_20
  refine wpAnyH_all (rs := [10]) (by kernel_rfl) (by simp) ?_
  intro i hi
  simp only [List.mem_cons, List.not_mem_nil, or_false] at hi
  subst hi
  refine wpOp_of rfl rfl (wp_called (args := #[.slice A_10 nx c_11, .slice A_18 nx c_19]) hc5 (by simp only [List.map_toArray, List.map_cons, List.map_nil]; rfl) ((HQX.out w_15 _ _ _ _ F_23.out P_21.out).mono fun _ _ => RetB.ofD) ?_)
  rintro e w_24 ⟨rfl, h_25⟩
  refine ⟨_, rfl, ext_trans B_22.out h_25, ?_⟩
  simp only [Act.put, List.setIfInBounds_toArray, List.set_cons_zero, List.set_cons_succ]
  have B_26 := Lib.hid (ext_trans B_22.out h_25)
  have F_27 := Lib.hid (F_23.out.ext h_25)
  have F_28 := Lib.hid (P_21.out.ext h_25)
  clear B_22 F_23 P_21
  clear h_25
  refine takeV (i := 11) (d := 16) (v := .bool true) rfl (by kernel_rfl) (by kernel_rfl) (by kernel_rfl) (fun _ _ _ h => h) rfl (fun _ _ => exPickT (v := .bool true) rfl rfl) B_26.out ?_
  simp only [Act.put, List.setIfInBounds_toArray, List.set_cons_zero, List.set_cons_succ]
  refine takeV (i := 12) (d := 17) (v := .bool true) rfl (by kernel_rfl) (by kernel_rfl) (by kernel_rfl) (fun _ _ _ h => h) rfl (fun _ _ => exMove (v := .bool true) rfl) B_26.out ?_
  simp only [Act.put, List.setIfInBounds_toArray, List.set_cons_zero, List.set_cons_succ]
  refine takeV (i := 13) (d := 18) (v := .pointer (some ⟨g, 0, none⟩)) rfl (by kernel_rfl) (by kernel_rfl) (by kernel_rfl) (fun _ _ _ h => h) rfl (fun _ _ => exMove (v := .pointer (some ⟨g, 0, none⟩)) rfl) B_26.out ?_
  simp only [Act.put, List.setIfInBounds_toArray, List.set_cons_zero, List.set_cons_succ]
  refine takeV (i := 15) (d := 20) (v := .agg #[.slice A n c]) rfl (by kernel_rfl) (by kernel_rfl) (by kernel_rfl) (fun _ _ _ h => h) rfl (fun w' h => exMid rfl (blk_pat (cs := [.slice A n c]) (KG.out.ext h)) underG20 rfl infoG20) B_26.out ?_
  simp only [Act.put, List.setIfInBounds_toArray, List.set_cons_zero, List.set_cons_succ]
  refine wpAnyH_all (rs := [14]) (by kernel_rfl) (by simp) ?_
  intro i hi
  simp only [List.mem_cons, List.not_mem_nil, or_false] at hi
  subst hi
  refine wpOp_of rfl rfl (wp_called (args := #[.pointer (some ⟨g, 0, none⟩)]) hc6 (by simp only [List.map_toArray, List.map_cons, List.map_nil]; rfl) (HE1.out w_24 B_26.out) ?_)
  rintro e w_29 ⟨_, rfl, o_31, h_30⟩
  obtain ⟨A_32, c_33, rfl, _, p_34⟩ := EdgesAt.of_own o_31 hne.out.symm
  have P_35 := Lib.hid p_34
  refine ⟨_, rfl, ext_trans B_26.out h_30, ?_⟩
  simp only [Act.put, List.setIfInBounds_toArray, List.set_cons_zero, List.set_cons_succ]
  have B_36 := Lib.hid (ext_trans B_26.out h_30)
  have F_37 := Lib.hid (F_27.out.ext h_30)
  have F_38 := Lib.hid (F_28.out.ext h_30)
  clear B_26 F_27 F_28
  clear o_31 h_30 p_34
  refine wpAnyH_all (rs := [16]) (by kernel_rfl) (by simp) ?_
  intro i hi
  simp only [List.mem_cons, List.not_mem_nil, or_false] at hi
  subst hi
  refine wpOp_of rfl rfl (wp_called (args := #[.agg #[.slice A n c]]) hc7 (by simp only [List.map_toArray, List.map_cons, List.map_nil]; rfl) (HE2.out w_29 B_36.out) ?_)
  rintro e w_39 ⟨_, rfl, o_41, h_40⟩
  obtain ⟨A_42, c_43, rfl, _, p_44⟩ := EdgesAt.of_own o_41 hne.out.symm
  have P_45 := Lib.hid p_44
  refine ⟨_, rfl, ext_trans B_36.out h_40, ?_⟩
  simp only [Act.put, List.setIfInBounds_toArray, List.set_cons_zero, List.set_cons_succ]
  have B_46 := Lib.hid (ext_trans B_36.out h_40)
  have F_47 := Lib.hid (F_37.out.ext h_40)
  have F_48 := Lib.hid (F_38.out.ext h_40)
  have F_49 := Lib.hid (P_35.out.ext h_40)
  clear B_36 F_37 F_38 P_35
  clear o_41 h_40 p_44
  refine wpAnyH_all (rs := [17]) (by kernel_rfl) (by simp) ?_
  intro i hi
  simp only [List.mem_cons, List.not_mem_nil, or_false] at hi
  subst hi
  refine wpOp_of rfl rfl (wp_called (args := #[.slice A_32 ne c_33, .slice A_42 ne c_43]) hc8 (by simp only [List.map_toArray, List.map_cons, List.map_nil]; rfl) ((HQE.out w_39 _ _ _ _ F_49.out P_45.out).mono fun _ _ => RetB.ofD) ?_)
  rintro e w_50 ⟨rfl, h_51⟩
  refine ⟨_, rfl, ext_trans B_46.out h_51, ?_⟩
  simp only [Act.put, List.setIfInBounds_toArray, List.set_cons_zero, List.set_cons_succ]
  have B_52 := Lib.hid (ext_trans B_46.out h_51)
  have F_53 := Lib.hid (F_47.out.ext h_51)
  have F_54 := Lib.hid (F_48.out.ext h_51)
  have F_55 := Lib.hid (F_49.out.ext h_51)
  have F_56 := Lib.hid (P_45.out.ext h_51)
  clear B_46 F_47 F_48 F_49 P_45
  clear h_51
  refine takeV (i := 18) (d := 23) (v := .bool true) rfl (by kernel_rfl) (by kernel_rfl) (by kernel_rfl) (fun _ _ _ h => h) rfl (fun _ _ => exPickT (v := .bool true) rfl rfl) B_52.out ?_
  simp only [Act.put, List.setIfInBounds_toArray, List.set_cons_zero, List.set_cons_succ]
  refine takeV (i := 19) (d := 24) (v := .bool true) rfl (by kernel_rfl) (by kernel_rfl) (by kernel_rfl) (fun _ _ _ h => h) rfl (fun _ _ => exMove (v := .bool true) rfl) B_52.out ?_
  simp only [Act.put, List.setIfInBounds_toArray, List.set_cons_zero, List.set_cons_succ]
  refine takeV (i := 20) (d := 25) (v := .pointer (some ⟨g, 0, none⟩)) rfl (by kernel_rfl) (by kernel_rfl) (by kernel_rfl) (fun _ _ _ h => h) rfl (fun _ _ => exMove (v := .pointer (some ⟨g, 0, none⟩)) rfl) B_52.out ?_
  simp only [Act.put, List.setIfInBounds_toArray, List.set_cons_zero, List.set_cons_succ]
  refine takeV (i := 22) (d := 27) (v := .agg #[.slice A n c]) rfl (by kernel_rfl) (by kernel_rfl) (by kernel_rfl) (fun _ _ _ h => h) rfl (fun w' h => exMid rfl (blk_pat (cs := [.slice A n c]) (KG.out.ext h)) underG20 rfl infoG20) B_52.out ?_
  simp only [Act.put, List.setIfInBounds_toArray, List.set_cons_zero, List.set_cons_succ]
  refine wpAnyH_all (rs := [21]) (by kernel_rfl) (by simp) ?_
  intro i hi
  simp only [List.mem_cons, List.not_mem_nil, or_false] at hi
  subst hi
  refine wpOp_of rfl rfl (wp_called (args := #[.pointer (some ⟨g, 0, none⟩)]) hc9 (by simp only [List.map_toArray, List.map_cons, List.map_nil]; rfl) (HF1.out w_50 B_52.out) ?_)
  rintro e w_57 ⟨_, rfl, o_59, h_58⟩
  obtain ⟨A_60, c_61, rfl, _, p_62⟩ := VidsAtS.of_own o_59 hnf.out.symm
  have P_63 := Lib.hid p_62
  refine ⟨_, rfl, ext_trans B_52.out h_58, ?_⟩
  simp only [Act.put, List.setIfInBounds_toArray, List.set_cons_zero, List.set_cons_succ]
  have B_64 := Lib.hid (ext_trans B_52.out h_58)
  have F_65 := Lib.hid (F_53.out.ext h_58)
  have F_66 := Lib.hid (F_54.out.ext h_58)
  have F_67 := Lib.hid (F_55.out.ext h_58)
  have F_68 := Lib.hid (F_56.out.ext h_58)
  clear B_52 F_53 F_54 F_55 F_56
  clear o_59 h_58 p_62
  refine wpAnyH_all (rs := [23]) (by kernel_rfl) (by simp) ?_
  intro i hi
  simp only [List.mem_cons, List.not_mem_nil, or_false] at hi
  subst hi
  refine wpOp_of rfl rfl (wp_called (args := #[.agg #[.slice A n c]]) hc10 (by simp only [List.map_toArray, List.map_cons, List.map_nil]; rfl) (HF2.out w_57 B_64.out) ?_)
  rintro e w_69 ⟨_, rfl, o_71, h_70⟩
  obtain ⟨A_72, c_73, rfl, _, p_74⟩ := VidsAtS.of_own o_71 hnf.out.symm
  have P_75 := Lib.hid p_74
  refine ⟨_, rfl, ext_trans B_64.out h_70, ?_⟩
  simp only [Act.put, List.setIfInBounds_toArray, List.set_cons_zero, List.set_cons_succ]
  have B_76 := Lib.hid (ext_trans B_64.out h_70)
  have F_77 := Lib.hid (F_65.out.ext h_70)
  have F_78 := Lib.hid (F_66.out.ext h_70)
  have F_79 := Lib.hid (F_67.out.ext h_70)
  have F_80 := Lib.hid (F_68.out.ext h_70)
  have F_81 := Lib.hid (P_63.out.ext h_70)
  clear B_64 F_65 F_66 F_67 F_68 P_63
  clear o_71 h_70 p_74
  refine wpAnyH_all (rs := [24]) (by kernel_rfl) (by simp) ?_
  intro i hi
  simp only [List.mem_cons, List.not_mem_nil, or_false] at hi
  subst hi
  refine wpOp_of rfl rfl (wp_called (args := #[.slice A_60 nf c_61, .slice A_72 nf c_73]) hc11 (by simp only [List.map_toArray, List.map_cons, List.map_nil]; rfl) ((HQF.out w_69 _ _ _ _ F_81.out P_75.out).mono fun _ _ => RetB.ofD) ?_)
  rintro e w_82 ⟨rfl, h_83⟩
  refine ⟨_, rfl, ext_trans B_76.out h_83, ?_⟩
  simp only [Act.put, List.setIfInBounds_toArray, List.set_cons_zero, List.set_cons_succ]
  have B_84 := Lib.hid (ext_trans B_76.out h_83)
  have F_85 := Lib.hid (F_77.out.ext h_83)
  have F_86 := Lib.hid (F_78.out.ext h_83)
  have F_87 := Lib.hid (F_79.out.ext h_83)
  have F_88 := Lib.hid (F_80.out.ext h_83)
  have F_89 := Lib.hid (F_81.out.ext h_83)
  have F_90 := Lib.hid (P_75.out.ext h_83)
  clear B_76 F_77 F_78 F_79 F_80 F_81 P_75
  clear h_83
  refine takeV (i := 25) (d := 30) (v := .bool true) rfl (by kernel_rfl) (by kernel_rfl) (by kernel_rfl) (fun _ _ _ h => h) rfl (fun _ _ => exPickT (v := .bool true) rfl rfl) B_84.out ?_
  simp only [Act.put, List.setIfInBounds_toArray, List.set_cons_zero, List.set_cons_succ]
  refine wpAnyH_done (by kernel_rfl) ?_ _
  have BF := Lib.hid (B0.out.trans (B_84.out.mono B0.out.size))
  clear B_84 F_85 F_86 F_87 F_88 F_89 F_90
  go_wp2_with fail
  go_ret
  exact ⟨rfl, BF.out⟩
end Go.Proofs.YtfnhmbflmifhcaaGreat
