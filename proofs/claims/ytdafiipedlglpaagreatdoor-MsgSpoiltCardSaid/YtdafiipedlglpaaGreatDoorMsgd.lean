/- Whether a message may be: walked, the program's and the document's. -/
import Derived.Test.YtdafiipedlglpaaGreatDoorMsgc
namespace Go.Proofs.YtdafiipedlglpaaGreatDoor
open Go.RowKit

section
variable {P : Program} {ops : Array Oper} {rest : List Oper} {a : Act} {w : World} {Q : Exit → Act → World → Prop} {d : Option Tmp} {ty t rt : TypeId} {pos : String} {after : Array Edge} {gd : Option (Nat × Bool)}
theorem wpList_compG {op : BinOp} {x y : Operand} {xv yv v : Value} (hw : Region.wanted ⟨d, .binOp op t x y rt, ty, pos, after, gd⟩ (yielded ops a.tmps) = true) (hx : a.eval x = xv) (hy : a.eval y = yv) (hg : (eqGuard op t x y xv yv).run P w = .ok () w) (hr : (binOp op t xv yv).run P w = .ok v w)
    (h : wpList P ops Q rest (a.put d v) w) : wpList P ops Q (⟨d, .binOp op t x y rt, ty, pos, after, gd⟩ :: rest) a w :=
  wpList_wanted hw fun _ hK => wp_computed hx hy hg hr (hK _ _ h)
theorem wpList_builtG {parts : Array (Nat × Operand)} {vs : Array (Nat × Value)} {v : Value} (hw : Region.wanted ⟨d, .build t parts, ty, pos, after, gd⟩ (yielded ops a.tmps) = true)
    (hr : (Instr.build t vs).run P w = .ok v w) (hvs : (parts.map fun (i, x) => (i, a.eval x)) = vs)
    (h : wpList P ops Q rest (a.put d v) w) : wpList P ops Q (⟨d, .build t parts, ty, pos, after, gd⟩ :: rest) a w :=
  wpList_wanted hw fun _ hK => by
    unfold Oper.wp execOp
    simp only [hvs, Sem.run_bind, hr, Result.andThen_ok]
    exact hK _ _ h
end
theorem buildBl0 (w : World) : (Instr.build 27 #[]).run Tryz.prog w = .ok (.agg (encBl zeroBl).toArray) w := by kernel_rfl
theorem bl_guard (x y : Operand) (xs ys : List Nat) (hx : BlOk xs) (hy : BlOk ys) (w : World) : (eqGuard .eql 27 x y (.agg (encBl xs).toArray) (.agg (encBl ys).toArray)).run Tryz.prog w = .ok () w := by
  obtain ⟨a, b, c, d, rfl⟩ := blOk_four hx
  obtain ⟨a', b', c', d', rfl⟩ := blOk_four hy
  unfold encBl
  simp [eqGuard, go_sem]
theorem goodM_form (m : MsgV) : goodM m = (nodeN m.1.2.1.val && (nodeN m.1.2.2.val && (decide (m.1.2.1.val ≠ m.1.2.2.val) && (vgoodV m.2.1 && (if m.1.1.val = 1 then decide (m.2.2.2.length = 0) else decide (m.1.1.val = 2) && ((m.2.2.2.all patB) && (decide (m.2.2.1 = zeroBl) && decide (m.2.2.2.length ≤ 8)))))))) := by
  unfold goodM
  have : decide (m.1.2.1 ≠ m.1.2.2) = decide (m.1.2.1.val ≠ m.1.2.2.val) := by
    apply decide_eq_decide.2
    rw [Ne, Fin.ext_iff]
  rw [this]
set_option maxRecDepth 100000 in
set_option maxHeartbeats 8000000 in
theorem msgGood_any (m : MsgV) (w : World) (cs : List Value) (h : MsgAt w cs m) : Calls Tryz.prog 15 #[.agg cs.toArray] w (RetB w (.bool (goodM m))) := by
  obtain ⟨A, c, rfl, HP⟩ := h.ex
  have hs := h.small
  have KB : Hid (Blk (w.alloc (.cells (msgC m A m.2.2.2.length c).toArray 30)) w.heap.size 30 (msgC m A m.2.2.2.length c).toArray) := Blk.new _ _ _
  have B0 : Hid (Below w.heap.size w (w.alloc (.cells (msgC m A m.2.2.2.length c).toArray 30))) := below_new _ _
  have Y0 := Lib.hid (msg_kind KB.out)
  have Y1 := Lib.hid (msg_from KB.out)
  have Y2 := Lib.hid (msg_to KB.out)
  have Y71 := Lib.hid (msg_pats h.ok KB.out)
  have RV := Lib.hid (msg_vec h.ok KB.out)
  have RB := Lib.hid (msg_bl h.ok KB.out)
  have HQ := Lib.hid (HP.ext B0.out)
  have hlv : Hid (some 64 = some (vecK m.2.1).length) := by rw [Hid, vecK_len h.ok.vec]
  have hlb : Hid (some 4 = some (encBl m.2.2.1).length) := by rw [Hid, encBl_len h.ok.bl]
  have E := Lib.hid (goodM_form m)
  have HN1 := Lib.hid (fun u => node34_any m.1.2.1.val u)
  have HN2 := Lib.hid (fun u => node34_any m.1.2.2.val u)
  have HV : Hid (∀ u, Calls Tryz.prog 66 #[.agg (vecK m.2.1).toArray] u (RetB u (.bool (vgoodV m.2.1)))) := fun u => vecGood_any m.2.1 h.ok.vec u
  have HC := Lib.hid (fun (u : World) (hu : PatsAt u A m.2.2.2.length m.2.2.2) => cont34_any m.2.2.2 u A m.2.2.2.length c hu hs)
  have EQ := Lib.hid (fun u => bl_eq m.2.2.1 zeroBl h.ok.bl zeroBl_ok u)
  have GQ := Lib.hid (fun x y u => bl_guard x y m.2.2.1 zeroBl h.ok.bl zeroBl_ok u)
  clear h HP
  generalize goodM m = G at *
  obtain ⟨⟨⟨k, hk⟩, ⟨f, hf⟩, ⟨t, ht⟩⟩, v, b, ps⟩ := m
  dsimp only at *
  generalize nodeN f = b1 at *
  generalize nodeN t = b2 at *
  generalize vgoodV v = b4 at *
  generalize ps.all patB = b5 at *
  generalize decide (b = zeroBl) = b6 at *
  obtain ⟨n, hn⟩ : ∃ n, n = ps.length := ⟨_, rfl⟩
  rw [← hn] at KB B0 Y0 Y1 Y2 Y71 RV RB HQ HC hs E ⊢
  replace hn := Lib.hid hn
  unfold maxLen at hs
  go_enter Tryz.func15, Tryz.ntmps15
  go_upto_region 1 with fail
  generalize w.alloc (.cells (msgC ((⟨k, hk⟩, ⟨f, hf⟩, ⟨t, ht⟩), v, b, ps) A n c).toArray 30) = w2 at *
  obtain ⟨g, hg⟩ : ∃ g, g = w.heap.size := ⟨_, rfl⟩
  rw [← hg] at KB Y0 Y1 Y2 Y71 RV RB ⊢
  replace hg := Lib.hid hg
  have y0 : w2.cell? ⟨g, 0, none⟩ = some (.int .u8 (k : Int)) := Y0.out
  have y1 : w2.cell? ⟨g, 1, none⟩ = some (.int .u8 (f : Int)) := Y1.out
  have y2 : w2.cell? ⟨g, 2, none⟩ = some (.int .u8 (t : Int)) := Y2.out
  have y71 : w2.cell? ⟨g, 71, none⟩ = some (.slice A n c) := Y71.out
  have under64' := Lib.hid under64
  have hi64 : Hid ((Tryz.prog.info? 24).map (·.size) = some (vecK v).length) := info64.trans hlv.out
  have hi4 : Hid ((Tryz.prog.info? 27).map (·.size) = some (encBl b).length) := infoBl.trans hlb.out
  clear Y0 Y1 Y2 Y71 KB hlv hlb
  cases b1
  · go_wp2_with fail
    refine (HN1.out _).mono ?_
    rintro e _ ⟨rfl, rfl⟩
    go_wp2_with fail
    go_ret
    exact ⟨ret_bool (by rw [E.out]; rfl), B0.out⟩
  go_wp2_with fail
  refine (HN1.out _).mono ?_
  rintro e _ ⟨rfl, rfl⟩
  cases b2
  · go_wp2_with fail
    refine (HN2.out _).mono ?_
    rintro e _ ⟨rfl, rfl⟩
    go_wp2_with fail
    go_ret
    exact ⟨ret_bool (by rw [E.out]; rfl), B0.out⟩
  go_wp2_with fail
  refine (HN2.out _).mono ?_
  rintro e _ ⟨rfl, rfl⟩
  by_cases hft : f = t
  · have z : ((f : Int) == (t : Int)) = true := by rw [beq_iff_eq]; omega
    have z2 : Hid (decide (f ≠ t) = false) := decide_eq_false fun h => h hft
    replace hft := Lib.hid hft
    go_wp2_with fail
    go_ret
    exact ⟨ret_bool (by rw [E.out, z2.out]; rfl), B0.out⟩
  have z : ((f : Int) == (t : Int)) = false := by rw [beq_eq_false_iff_ne]; omega
  have z2 : Hid (decide (f ≠ t) = true) := decide_eq_true hft
  replace hft := Lib.hid hft
  rw [z2.out] at E
  go_wp2_with (refine wpList_load_midG (by kernel_rfl) 24 _ (by rfl) g 3 (by rfl) _ _ RV.out under64 rfl hi64.out ?_)
  refine (HV.out _).mono ?_
  rintro e w3 ⟨rfl, b3⟩
  have B3 := Lib.hid (B0.out.trans (b3.mono B0.out.size))
  have lt2 : Hid (g < w2.heap.size) := by
    have := y0
    rw [Hid]
    rcases Nat.lt_or_ge g w2.heap.size with h | h
    · exact h
    · simp [World.cell?, Array.getElem?_eq_none h] at this
  have y0' : w3.cell? ⟨g, 0, none⟩ = some (.int .u8 (k : Int)) := by rw [b3.cell (p := ⟨g, 0, none⟩) lt2.out]; exact y0
  have y71' : w3.cell? ⟨g, 71, none⟩ = some (.slice A n c) := by rw [b3.cell (p := ⟨g, 71, none⟩) lt2.out]; exact y71
  have RB3 := Lib.hid (rangeAt_below RB.out b3 lt2.out)
  have HQ3 := Lib.hid (HQ.out.ext b3)
  clear b3 y0 y1 y2 y71 RV RB HQ HN1 HN2 HV B0 z lt2
  cases b4
  · go_wp2_with fail
    go_ret
    exact ⟨ret_bool (by rw [E.out]; rfl), B3.out⟩
  by_cases hk1 : k = 1
  · subst hk1
    by_cases hn0 : n = 0
    · subst hn0
      go_wp2_with fail
      go_ret
      exact ⟨ret_bool (by rw [E.out]; simp), B3.out⟩
    · have z0 : ((n : Int) == 0) = false := by rw [beq_eq_false_iff_ne]; omega
      go_wp2_with fail
      go_ret
      exact ⟨ret_bool (by rw [E.out]; simpa using hn0), B3.out⟩
  have zk1 : ((k : Int) == 1) = false := by rw [beq_eq_false_iff_ne]; omega
  replace E : Hid (G = (decide (k = 2) && (b5 && (b6 && decide (n ≤ 8))))) := by rw [Hid, E.out, if_neg hk1]; simp
  replace hk1 := Lib.hid hk1
  by_cases hk2 : k = 2
  · subst hk2
    have HC3 := Lib.hid (HC.out w3 HQ3.out)
    clear HC HQ3
    go_wp2_with fail
    refine HC3.out.mono ?_
    rintro e w4 ⟨rfl, b4⟩
    have B4 := Lib.hid (B3.out.trans (b4.mono B3.out.size))
    have lt3 : Hid (g < w3.heap.size) := by
      have := y0'
      rw [Hid]
      rcases Nat.lt_or_ge g w3.heap.size with h | h
      · exact h
      · simp [World.cell?, Array.getElem?_eq_none h] at this
    have y71 : w4.cell? ⟨g, 71, none⟩ = some (.slice A n c) := by rw [b4.cell (p := ⟨g, 71, none⟩) lt3.out]; exact y71'
    have RB4 := Lib.hid (rangeAt_below RB3.out b4 lt3.out)
    clear b4 y0' y71' RB3 B3 HC3 lt3
    cases b5
    · go_wp2_with fail
      go_ret
      exact ⟨ret_bool (by rw [E.out]; rfl), B4.out⟩
    cases b6
    · go_wp2_with (first
        | (refine wpList_load_midG (by kernel_rfl) 27 _ (by rfl) g 67 (by rfl) _ _ RB4.out underBl rfl hi4.out ?_)
        | (refine wpList_builtG (by kernel_rfl) (buildBl0 _) (by rfl) ?_)
        | ((with_reducible refine wpList_compG (by kernel_rfl) ?_ ?_ ?_ (EQ.out _) ?_); rfl; rfl; exact GQ.out _ _ _))
      go_ret
      exact ⟨ret_bool (by rw [E.out]; rfl), B4.out⟩
    by_cases hn8 : n ≤ 8
    · have zn : (n : Int) ≤ 8 := by omega
      go_wp2_with (first
        | (refine wpList_load_midG (by kernel_rfl) 27 _ (by rfl) g 67 (by rfl) _ _ RB4.out underBl rfl hi4.out ?_)
        | (refine wpList_builtG (by kernel_rfl) (buildBl0 _) (by rfl) ?_)
        | ((with_reducible refine wpList_compG (by kernel_rfl) ?_ ?_ ?_ (EQ.out _) ?_); rfl; rfl; exact GQ.out _ _ _))
      go_ret
      exact ⟨ret_bool (by rw [E.out, decide_eq_true hn8]; rfl), B4.out⟩
    · have zn : ¬ (n : Int) ≤ 8 := by omega
      go_wp2_with (first
        | (refine wpList_load_midG (by kernel_rfl) 27 _ (by rfl) g 67 (by rfl) _ _ RB4.out underBl rfl hi4.out ?_)
        | (refine wpList_builtG (by kernel_rfl) (buildBl0 _) (by rfl) ?_)
        | ((with_reducible refine wpList_compG (by kernel_rfl) ?_ ?_ ?_ (EQ.out _) ?_); rfl; rfl; exact GQ.out _ _ _))
      go_ret
      exact ⟨ret_bool (by rw [E.out, decide_eq_false hn8, decide_eq_false (by omega)]; rfl), B4.out⟩
  · have zk2 : ((k : Int) == 2) = false := by rw [beq_eq_false_iff_ne]; omega
    go_wp2_with fail
    go_ret
    exact ⟨ret_bool (by rw [E.out, decide_eq_false hk2]; rfl), B3.out⟩
set_option maxRecDepth 100000 in
set_option maxHeartbeats 8000000 in
theorem rmsgGood_any (m : MsgV) (w : World) (cs : List Value) (h : MsgAt w cs m) : Calls Tryz.prog 16 #[.agg cs.toArray] w (RetB w (.bool (goodM m))) := by
  obtain ⟨A, c, rfl, HP⟩ := h.ex
  have hs := h.small
  have KB : Hid (Blk (w.alloc (.cells (msgC m A m.2.2.2.length c).toArray 30)) w.heap.size 30 (msgC m A m.2.2.2.length c).toArray) := Blk.new _ _ _
  have B0 : Hid (Below w.heap.size w (w.alloc (.cells (msgC m A m.2.2.2.length c).toArray 30))) := below_new _ _
  have F : Hid (∀ u, Blk u w.heap.size 30 (msgC m A m.2.2.2.length c).toArray → u.cell? ⟨w.heap.size, 0, none⟩ = some (.int .u8 ((m.1.1.val : Nat) : Int)) ∧ u.cell? ⟨w.heap.size, 1, none⟩ = some (.int .u8 ((m.1.2.1.val : Nat) : Int)) ∧ u.cell? ⟨w.heap.size, 2, none⟩ = some (.int .u8 ((m.1.2.2.val : Nat) : Int)) ∧ u.cell? ⟨w.heap.size, 71, none⟩ = some (.slice A m.2.2.2.length c) ∧ u.rangeAt w.heap.size 3 (vecK m.2.1) ∧ u.rangeAt w.heap.size 67 (encBl m.2.2.1)) := fun u K => ⟨msg_kind K, msg_from K, msg_to K, msg_pats h.ok K, msg_vec h.ok K, msg_bl h.ok K⟩
  have HQ := Lib.hid (HP.ext B0.out)
  have hlv : Hid (some 64 = some (vecK m.2.1).length) := by rw [Hid, vecK_len h.ok.vec]
  have hlb : Hid (some 4 = some (encBl m.2.2.1).length) := by rw [Hid, encBl_len h.ok.bl]
  have E := Lib.hid (goodM_form m)
  have HV : Hid (∀ u, Calls Tryz.prog 70 #[.agg (vecK m.2.1).toArray] u (RetB u (.bool (vgoodV m.2.1)))) := fun u => rvecGood_any m.2.1 h.ok.vec u
  have EQ := Lib.hid (fun u => bl_eq m.2.2.1 zeroBl h.ok.bl zeroBl_ok u)
  have GQ := Lib.hid (fun x y u => bl_guard x y m.2.2.1 zeroBl h.ok.bl zeroBl_ok u)
  clear h HP
  generalize goodM m = G at *
  obtain ⟨⟨⟨k, hk⟩, ⟨f, hf⟩, ⟨t, ht⟩⟩, v, b, ps⟩ := m
  dsimp only at *
  generalize vgoodV v = b4 at *
  generalize decide (b = zeroBl) = b6 at *
  obtain ⟨n, hn⟩ : ∃ n, n = ps.length := ⟨_, rfl⟩
  rw [← hn] at KB B0 F HQ hs E ⊢
  replace hn := Lib.hid hn
  unfold maxLen at hs
  go_enter Tryz.func16, Tryz.ntmps16
  go_upto_region 1 with fail
  generalize w.alloc (.cells (msgC ((⟨k, hk⟩, ⟨f, hf⟩, ⟨t, ht⟩), v, b, ps) A n c).toArray 30) = w2 at *
  generalize (msgC ((⟨k, hk⟩, ⟨f, hf⟩, ⟨t, ht⟩), v, b, ps) A n c).toArray = ca at *
  obtain ⟨g, hg⟩ : ∃ g, g = w.heap.size := ⟨_, rfl⟩
  rw [← hg] at KB F ⊢
  replace hg := Lib.hid hg
  obtain ⟨y0, y1, y2, y71, RV, RB⟩ := F.out w2 KB.out
  have RV := Lib.hid RV
  have RB := Lib.hid RB
  have hi64 : Hid ((Tryz.prog.info? 24).map (·.size) = some (vecK v).length) := info64.trans hlv.out
  have hi4 : Hid ((Tryz.prog.info? 27).map (·.size) = some (encBl b).length) := infoBl.trans hlb.out
  clear hlv hlb
  by_cases hf1 : f < 1
  · have z : (f : Int) < 1 := by omega
    have N : Hid (nodeN f = false) := decide_eq_false (by omega)
    go_wp2_with fail
    go_ret
    exact ⟨ret_bool (by rw [E.out, N.out]; rfl), B0.out⟩
  have zf1 : ¬ (f : Int) < 1 := by omega
  by_cases hf2 : 64 < f
  · have z : (64 : Int) < (f : Int) := by omega
    have N : Hid (nodeN f = false) := decide_eq_false (by omega)
    go_wp2_with fail
    go_ret
    exact ⟨ret_bool (by rw [E.out, N.out]; rfl), B0.out⟩
  have zf2 : ¬ (64 : Int) < (f : Int) := by omega
  have NF : Hid (nodeN f = true) := decide_eq_true (by omega)
  rw [NF.out, Bool.true_and] at E
  by_cases ht1 : t < 1
  · have z : (t : Int) < 1 := by omega
    have N : Hid (nodeN t = false) := decide_eq_false (by omega)
    go_wp2_with fail
    go_ret
    exact ⟨ret_bool (by rw [E.out, N.out]; rfl), B0.out⟩
  have zt1 : ¬ (t : Int) < 1 := by omega
  by_cases ht2 : 64 < t
  · have z : (64 : Int) < (t : Int) := by omega
    have N : Hid (nodeN t = false) := decide_eq_false (by omega)
    go_wp2_with fail
    go_ret
    exact ⟨ret_bool (by rw [E.out, N.out]; rfl), B0.out⟩
  have zt2 : ¬ (64 : Int) < (t : Int) := by omega
  have NT : Hid (nodeN t = true) := decide_eq_true (by omega)
  rw [NT.out, Bool.true_and] at E
  by_cases hft : f = t
  · have z : ((f : Int) == (t : Int)) = true := by rw [beq_iff_eq]; omega
    have z2 : Hid (decide (f ≠ t) = false) := decide_eq_false fun h => h hft
    replace hft := Lib.hid hft
    go_wp2_with fail
    go_ret
    exact ⟨ret_bool (by rw [E.out, z2.out]; rfl), B0.out⟩
  have z : ((f : Int) == (t : Int)) = false := by rw [beq_eq_false_iff_ne]; omega
  have z2 : Hid (decide (f ≠ t) = true) := decide_eq_true hft
  replace hft := Lib.hid hft
  rw [z2.out, Bool.true_and] at E
  go_wp2_with (refine wpList_load_midG (by kernel_rfl) 24 _ (by rfl) g 3 (by rfl) _ _ RV.out under64 rfl hi64.out ?_)
  refine (HV.out _).mono ?_
  rintro e w3 ⟨rfl, b3⟩
  have B3 := Lib.hid (B0.out.trans (b3.mono B0.out.size))
  have KB3 := Lib.hid (KB.out.ext b3)
  have HQ3 := Lib.hid (HQ.out.ext b3)
  clear b3 y0 y1 y2 y71 RV RB HQ HV B0 z KB zf1 zf2 zt1 zt2 hf1 hf2 ht1 ht2
  obtain ⟨y0, _, _, y71, _, _⟩ := F.out w3 KB3.out
  cases b4
  · go_wp2_with fail
    go_ret
    exact ⟨ret_bool (by rw [E.out]; rfl), B3.out⟩
  rw [Bool.true_and] at E
  by_cases hk1 : k = 1
  · subst hk1
    by_cases hn0 : n = 0
    · subst hn0
      go_wp2_with fail
      go_ret
      exact ⟨ret_bool (by rw [E.out]; simp), B3.out⟩
    · have z0 : ((n : Int) == 0) = false := by rw [beq_eq_false_iff_ne]; omega
      go_wp2_with fail
      go_ret
      exact ⟨ret_bool (by rw [E.out]; simpa using hn0), B3.out⟩
  have zk1 : ((k : Int) == 1) = false := by rw [beq_eq_false_iff_ne]; omega
  replace E : Hid (G = (decide (k = 2) && (ps.all patB && (b6 && decide (n ≤ 8))))) := by rw [Hid, E.out, if_neg hk1]
  replace hk1 := Lib.hid hk1
  have BR := Lib.hid (Below.refl w3.heap.size w3)
  go_wp2_with fail
  clear y0 y71
  go_loopw [3] (fun i wr => ∃ j : Nat, j ≤ n ∧ i = .int .i64 j ∧ Hid ((ps.take j).all patB = true) ∧ Hid (Below w3.heap.size w3 wr)) (fun i _ => n - (intOf i).toNat)
  case atStart => exact ⟨0, by omega, rfl, rfl, BR.out⟩
  case round =>
    clear BR
    obtain ⟨j, hj, rfl, T, B⟩ := hrel
    obtain ⟨wi, rfl⟩ : ∃ wx, wx = wr := ⟨_, rfl⟩
    have hj0 : (0 : Int) ≤ (j : Int) := by omega
    have KBi := Lib.hid (KB3.out.ext B.out)
    by_cases hlt : j < n
    · have hlj : (j : Int) < (n : Int) := by omega
      obtain ⟨bb, o, p, r, rfl, hb, hp, pa, R⟩ := (HQ3.out.ext B.out).at_ hlt
      obtain ⟨y0, _, _, y71, _, _⟩ := F.out wi KBi.out
      have HG := Lib.hid (rgood18_any p wi r pa)
      have RH := Lib.hid R
      have hr4 : Hid ((Tryz.prog.info? 64).map (·.size) = some r.length) := by rw [Hid, pa.len4]; exact infoPat
      have TA := Lib.hid (fun h => allL_snoc (f := patB) hp T.out h)
      have FA := Lib.hid (fun h => allL_false (f := patB) hp h)
      clear R pa hb hp
      cases hg : patB p
      · have N := Lib.hid (FA.out hg)
        rw [hg] at HG
        clear hg TA FA
        go_wp2_with (refine wpList_load_mid rfl 64 _ (by rfl) bb (o + j * 4) (by rfl) _ _ RH.out underPat rfl hr4.out ?_)
        refine HG.out.mono ?_
        rintro e w5 ⟨rfl, b5⟩
        have B5 := Lib.hid (B3.out.trans ((ext_trans B.out b5).mono B3.out.size))
        clear b5
        go_wp2
        go_ret
        exact ⟨ret_bool (by rw [E.out, N.out]; simp), B5.out⟩
      · have N := Lib.hid (TA.out hg)
        rw [hg] at HG
        clear hg TA FA
        go_wp2_with (refine wpList_load_mid rfl 64 _ (by rfl) bb (o + j * 4) (by rfl) _ _ RH.out underPat rfl hr4.out ?_)
        refine HG.out.mono ?_
        rintro e w5 ⟨rfl, b5⟩
        have B5 := Lib.hid (ext_trans B.out b5)
        clear b5
        go_wp2_with fail
        go_roundw
        case rel => exact ⟨j + 1, by omega, by go_num, N.out, B5.out⟩
        case measure => simp [intOf]; omega
    · have hlj : ¬ (j : Int) < (n : Int) := by omega
      have N : Hid (ps.all patB = true) := by
        have h1 := T.out
        rwa [List.take_of_length_le (by have := hn.out; omega)] at h1
      obtain ⟨y0, _, _, y71, _, RB⟩ := F.out wi KBi.out
      have RB := Lib.hid RB
      have B4 := Lib.hid (B3.out.trans (B.out.mono B3.out.size))
      rw [N.out, Bool.true_and] at E
      clear N T B KBi
      by_cases hk2 : k = 2
      · subst hk2
        cases b6
        · go_wp2_with (first
            | (refine wpList_load_midG (by kernel_rfl) 27 _ (by rfl) g 67 (by rfl) _ _ RB.out underBl rfl hi4.out ?_)
            | (refine wpList_builtG (by kernel_rfl) (buildBl0 _) (by rfl) ?_)
            | ((with_reducible refine wpList_compG (by kernel_rfl) ?_ ?_ ?_ (EQ.out _) ?_); rfl; rfl; exact GQ.out _ _ _))
          go_ret
          exact ⟨ret_bool (by rw [E.out]; rfl), B4.out⟩
        by_cases hn8 : n ≤ 8
        · have zn : (n : Int) ≤ 8 := by omega
          go_wp2_with (first
            | (refine wpList_load_midG (by kernel_rfl) 27 _ (by rfl) g 67 (by rfl) _ _ RB.out underBl rfl hi4.out ?_)
            | (refine wpList_builtG (by kernel_rfl) (buildBl0 _) (by rfl) ?_)
            | ((with_reducible refine wpList_compG (by kernel_rfl) ?_ ?_ ?_ (EQ.out _) ?_); rfl; rfl; exact GQ.out _ _ _))
          go_ret
          exact ⟨ret_bool (by rw [E.out, decide_eq_true hn8]; rfl), B4.out⟩
        · have zn : ¬ (n : Int) ≤ 8 := by omega
          go_wp2_with (first
            | (refine wpList_load_midG (by kernel_rfl) 27 _ (by rfl) g 67 (by rfl) _ _ RB.out underBl rfl hi4.out ?_)
            | (refine wpList_builtG (by kernel_rfl) (buildBl0 _) (by rfl) ?_)
            | ((with_reducible refine wpList_compG (by kernel_rfl) ?_ ?_ ?_ (EQ.out _) ?_); rfl; rfl; exact GQ.out _ _ _))
          go_ret
          exact ⟨ret_bool (by rw [E.out, decide_eq_false hn8]; rfl), B4.out⟩
      · have zk2 : ((k : Int) == 2) = false := by rw [beq_eq_false_iff_ne]; omega
        go_wp2_with fail
        go_ret
        exact ⟨ret_bool (by rw [E.out, decide_eq_false hk2]; rfl), B4.out⟩
end Go.Proofs.YtdafiipedlglpaaGreatDoor
