/- Texts of general use, one behind another. -/
import Derived.Test.YtdafiipedlglpaaGreatDoorMsgc
import Derived.Test.YtdafiipedlglpaaGreatDoorPcds
import Derived.Test.YtdafiipedlglpaaGreatDoorLists
import Derived.Test.YtdafiipedlglpaaGreatDoorPaws
import Derived.Test.YtdafiipedlglpaaGreatDoorOps
import Derived.Test.YtdafiipedlglpaaGreatDoorPati

/- Whether a message may be: walked, the program's and the document's. -/
namespace Go.Proofs.YtdafiipedlglpaaGreatDoor
open Go.RowKit

section
variable {P : Program} {ops : Array Oper} {rest : List Oper} {a : Act} {w : World} {Q : Exit → Act → World → Prop} {d : Option Tmp} {ty t rt : TypeId} {pos : String} {after : Array Edge} {gd : Option (Nat × Bool)}
theorem wpList_compG {op : BinOp} {x y : Operand} {xv yv v : Value} (hw : Region.wanted ⟨d, .binOp op t x y rt, ty, pos, after, gd⟩ (yielded ops a.tmps) = true) (hx : a.eval x = xv) (hy : a.eval y = yv) (hg : (eqGuard op t x y xv yv).run P w = .ok () w) (hr : (binOp op t xv yv).run P w = .ok v w)
    (h : wpList P ops Q rest (a.put d v) w) : wpList P ops Q (⟨d, .binOp op t x y rt, ty, pos, after, gd⟩ :: rest) a w :=
  wpList_wanted hw fun _ hK => wp_computed hx hy hg hr (hK _ _ h)
theorem wpList_builtG {parts : Array (Nat × Operand)} {vs : Array (Nat × Value)} {v : Value} (hw : Region.wanted ⟨d, .build t parts, ty, pos, after, gd⟩ (yielded ops a.tmps) = true)
    (hr : (Instr.build t vs).run P w = .ok v w) (hvs : (parts.map fun (i, x) => (i, a.eval x)) = vs)
    (h : wpList P ops Q rest (a.put d v) w) : wpList P ops Q (⟨d, .build t parts, ty, pos, after, gd⟩ :: rest) a w :=
  wpList_wanted hw fun _ hK => by
    unfold Oper.wp execOp
    simp only [hvs, Sem.run_bind, hr, Result.andThen_ok]
    exact hK _ _ h
end
theorem buildBl0 (w : World) : (Instr.build 27 #[]).run Tryz.prog w = .ok (.agg (encBl zeroBl).toArray) w := by kernel_rfl
theorem bl_guard (x y : Operand) (xs ys : List Nat) (hx : BlOk xs) (hy : BlOk ys) (w : World) : (eqGuard .eql 27 x y (.agg (encBl xs).toArray) (.agg (encBl ys).toArray)).run Tryz.prog w = .ok () w := by
  obtain ⟨a, b, c, d, rfl⟩ := blOk_four hx
  obtain ⟨a', b', c', d', rfl⟩ := blOk_four hy
  unfold encBl
  simp [eqGuard, go_sem]
theorem goodM_form (m : MsgV) : goodM m = (nodeN m.1.2.1.val && (nodeN m.1.2.2.val && (decide (m.1.2.1.val ≠ m.1.2.2.val) && (vgoodV m.2.1 && (if m.1.1.val = 1 then decide (m.2.2.2.length = 0) else decide (m.1.1.val = 2) && ((m.2.2.2.all patB) && (decide (m.2.2.1 = zeroBl) && decide (m.2.2.2.length ≤ 8)))))))) := by
  unfold goodM
  have : decide (m.1.2.1 ≠ m.1.2.2) = decide (m.1.2.1.val ≠ m.1.2.2.val) := by
    apply decide_eq_decide.2
    rw [Ne, Fin.ext_iff]
  rw [this]
set_option maxRecDepth 100000 in
set_option maxHeartbeats 8000000 in
theorem msgGood_any (m : MsgV) (w : World) (cs : List Value) (h : MsgAt w cs m) : Calls Tryz.prog 15 #[.agg cs.toArray] w (RetB w (.bool (goodM m))) := by
  obtain ⟨A, c, rfl, HP⟩ := h.ex
  have hs := h.small
  have KB : Hid (Blk (w.alloc (.cells (msgC m A m.2.2.2.length c).toArray 30)) w.heap.size 30 (msgC m A m.2.2.2.length c).toArray) := Blk.new _ _ _
  have B0 : Hid (Below w.heap.size w (w.alloc (.cells (msgC m A m.2.2.2.length c).toArray 30))) := below_new _ _
  have Y0 := Lib.hid (msg_kind KB.out)
  have Y1 := Lib.hid (msg_from KB.out)
  have Y2 := Lib.hid (msg_to KB.out)
  have Y71 := Lib.hid (msg_pats h.ok KB.out)
  have RV := Lib.hid (msg_vec h.ok KB.out)
  have RB := Lib.hid (msg_bl h.ok KB.out)
  have HQ := Lib.hid (HP.ext B0.out)
  have hlv : Hid (some 64 = some (vecK m.2.1).length) := by rw [Hid, vecK_len h.ok.vec]
  have hlb : Hid (some 4 = some (encBl m.2.2.1).length) := by rw [Hid, encBl_len h.ok.bl]
  have E := Lib.hid (goodM_form m)
  have HN1 := Lib.hid (fun u => node34_any m.1.2.1.val u)
  have HN2 := Lib.hid (fun u => node34_any m.1.2.2.val u)
  have HV : Hid (∀ u, Calls Tryz.prog 66 #[.agg (vecK m.2.1).toArray] u (RetB u (.bool (vgoodV m.2.1)))) := fun u => vecGood_any m.2.1 h.ok.vec u
  have HC := Lib.hid (fun (u : World) (hu : PatsAt u A m.2.2.2.length m.2.2.2) => cont34_any m.2.2.2 u A m.2.2.2.length c hu hs)
  have EQ := Lib.hid (fun u => bl_eq m.2.2.1 zeroBl h.ok.bl zeroBl_ok u)
  have GQ := Lib.hid (fun x y u => bl_guard x y m.2.2.1 zeroBl h.ok.bl zeroBl_ok u)
  clear h HP
  generalize goodM m = G at *
  obtain ⟨⟨⟨k, hk⟩, ⟨f, hf⟩, ⟨t, ht⟩⟩, v, b, ps⟩ := m
  dsimp only at *
  generalize nodeN f = b1 at *
  generalize nodeN t = b2 at *
  generalize vgoodV v = b4 at *
  generalize ps.all patB = b5 at *
  generalize decide (b = zeroBl) = b6 at *
  obtain ⟨n, hn⟩ : ∃ n, n = ps.length := ⟨_, rfl⟩
  rw [← hn] at KB B0 Y0 Y1 Y2 Y71 RV RB HQ HC hs E ⊢
  replace hn := Lib.hid hn
  unfold maxLen at hs
  go_enter Tryz.func15, Tryz.ntmps15
  go_upto_region 1 with fail
  generalize w.alloc (.cells (msgC ((⟨k, hk⟩, ⟨f, hf⟩, ⟨t, ht⟩), v, b, ps) A n c).toArray 30) = w2 at *
  obtain ⟨g, hg⟩ : ∃ g, g = w.heap.size := ⟨_, rfl⟩
  rw [← hg] at KB Y0 Y1 Y2 Y71 RV RB ⊢
  replace hg := Lib.hid hg
  have y0 : w2.cell? ⟨g, 0, none⟩ = some (.int .u8 (k : Int)) := Y0.out
  have y1 : w2.cell? ⟨g, 1, none⟩ = some (.int .u8 (f : Int)) := Y1.out
  have y2 : w2.cell? ⟨g, 2, none⟩ = some (.int .u8 (t : Int)) := Y2.out
  have y71 : w2.cell? ⟨g, 71, none⟩ = some (.slice A n c) := Y71.out
  have under64' := Lib.hid under64
  have hi64 : Hid ((Tryz.prog.info? 24).map (·.size) = some (vecK v).length) := info64.trans hlv.out
  have hi4 : Hid ((Tryz.prog.info? 27).map (·.size) = some (encBl b).length) := infoBl.trans hlb.out
  clear Y0 Y1 Y2 Y71 KB hlv hlb
  cases b1
  · go_wp2_with fail
    refine (HN1.out _).mono ?_
    rintro e _ ⟨rfl, rfl⟩
    go_wp2_with fail
    go_ret
    exact ⟨ret_bool (by rw [E.out]; rfl), B0.out⟩
  go_wp2_with fail
  refine (HN1.out _).mono ?_
  rintro e _ ⟨rfl, rfl⟩
  cases b2
  · go_wp2_with fail
    refine (HN2.out _).mono ?_
    rintro e _ ⟨rfl, rfl⟩
    go_wp2_with fail
    go_ret
    exact ⟨ret_bool (by rw [E.out]; rfl), B0.out⟩
  go_wp2_with fail
  refine (HN2.out _).mono ?_
  rintro e _ ⟨rfl, rfl⟩
  by_cases hft : f = t
  · have z : ((f : Int) == (t : Int)) = true := by rw [beq_iff_eq]; omega
    have z2 : Hid (decide (f ≠ t) = false) := decide_eq_false fun h => h hft
    replace hft := Lib.hid hft
    go_wp2_with fail
    go_ret
    exact ⟨ret_bool (by rw [E.out, z2.out]; rfl), B0.out⟩
  have z : ((f : Int) == (t : Int)) = false := by rw [beq_eq_false_iff_ne]; omega
  have z2 : Hid (decide (f ≠ t) = true) := decide_eq_true hft
  replace hft := Lib.hid hft
  rw [z2.out] at E
  go_wp2_with (refine wpList_load_midG (by kernel_rfl) 24 _ (by rfl) g 3 (by rfl) _ _ RV.out under64 rfl hi64.out ?_)
  refine (HV.out _).mono ?_
  rintro e w3 ⟨rfl, b3⟩
  have B3 := Lib.hid (B0.out.trans (b3.mono B0.out.size))
  have lt2 : Hid (g < w2.heap.size) := by
    have := y0
    rw [Hid]
    rcases Nat.lt_or_ge g w2.heap.size with h | h
    · exact h
    · simp [World.cell?, Array.getElem?_eq_none h] at this
  have y0' : w3.cell? ⟨g, 0, none⟩ = some (.int .u8 (k : Int)) := by rw [b3.cell (p := ⟨g, 0, none⟩) lt2.out]; exact y0
  have y71' : w3.cell? ⟨g, 71, none⟩ = some (.slice A n c) := by rw [b3.cell (p := ⟨g, 71, none⟩) lt2.out]; exact y71
  have RB3 := Lib.hid (rangeAt_below RB.out b3 lt2.out)
  have HQ3 := Lib.hid (HQ.out.ext b3)
  clear b3 y0 y1 y2 y71 RV RB HQ HN1 HN2 HV B0 z lt2
  cases b4
  · go_wp2_with fail
    go_ret
    exact ⟨ret_bool (by rw [E.out]; rfl), B3.out⟩
  by_cases hk1 : k = 1
  · subst hk1
    by_cases hn0 : n = 0
    · subst hn0
      go_wp2_with fail
      go_ret
      exact ⟨ret_bool (by rw [E.out]; simp), B3.out⟩
    · have z0 : ((n : Int) == 0) = false := by rw [beq_eq_false_iff_ne]; omega
      go_wp2_with fail
      go_ret
      exact ⟨ret_bool (by rw [E.out]; simpa using hn0), B3.out⟩
  have zk1 : ((k : Int) == 1) = false := by rw [beq_eq_false_iff_ne]; omega
  replace E : Hid (G = (decide (k = 2) && (b5 && (b6 && decide (n ≤ 8))))) := by rw [Hid, E.out, if_neg hk1]; simp
  replace hk1 := Lib.hid hk1
  by_cases hk2 : k = 2
  · subst hk2
    have HC3 := Lib.hid (HC.out w3 HQ3.out)
    clear HC HQ3
    go_wp2_with fail
    refine HC3.out.mono ?_
    rintro e w4 ⟨rfl, b4⟩
    have B4 := Lib.hid (B3.out.trans (b4.mono B3.out.size))
    have lt3 : Hid (g < w3.heap.size) := by
      have := y0'
      rw [Hid]
      rcases Nat.lt_or_ge g w3.heap.size with h | h
      · exact h
      · simp [World.cell?, Array.getElem?_eq_none h] at this
    have y71 : w4.cell? ⟨g, 71, none⟩ = some (.slice A n c) := by rw [b4.cell (p := ⟨g, 71, none⟩) lt3.out]; exact y71'
    have RB4 := Lib.hid (rangeAt_below RB3.out b4 lt3.out)
    clear b4 y0' y71' RB3 B3 HC3 lt3
    cases b5
    · go_wp2_with fail
      go_ret
      exact ⟨ret_bool (by rw [E.out]; rfl), B4.out⟩
    cases b6
    · go_wp2_with (first
        | (refine wpList_load_midG (by kernel_rfl) 27 _ (by rfl) g 67 (by rfl) _ _ RB4.out underBl rfl hi4.out ?_)
        | (refine wpList_builtG (by kernel_rfl) (buildBl0 _) (by rfl) ?_)
        | ((with_reducible refine wpList_compG (by kernel_rfl) ?_ ?_ ?_ (EQ.out _) ?_); rfl; rfl; exact GQ.out _ _ _))
      go_ret
      exact ⟨ret_bool (by rw [E.out]; rfl), B4.out⟩
    by_cases hn8 : n ≤ 8
    · have zn : (n : Int) ≤ 8 := by omega
      go_wp2_with (first
        | (refine wpList_load_midG (by kernel_rfl) 27 _ (by rfl) g 67 (by rfl) _ _ RB4.out underBl rfl hi4.out ?_)
        | (refine wpList_builtG (by kernel_rfl) (buildBl0 _) (by rfl) ?_)
        | ((with_reducible refine wpList_compG (by kernel_rfl) ?_ ?_ ?_ (EQ.out _) ?_); rfl; rfl; exact GQ.out _ _ _))
      go_ret
      exact ⟨ret_bool (by rw [E.out, decide_eq_true hn8]; rfl), B4.out⟩
    · have zn : ¬ (n : Int) ≤ 8 := by omega
      go_wp2_with (first
        | (refine wpList_load_midG (by kernel_rfl) 27 _ (by rfl) g 67 (by rfl) _ _ RB4.out underBl rfl hi4.out ?_)
        | (refine wpList_builtG (by kernel_rfl) (buildBl0 _) (by rfl) ?_)
        | ((with_reducible refine wpList_compG (by kernel_rfl) ?_ ?_ ?_ (EQ.out _) ?_); rfl; rfl; exact GQ.out _ _ _))
      go_ret
      exact ⟨ret_bool (by rw [E.out, decide_eq_false hn8, decide_eq_false (by omega)]; rfl), B4.out⟩
  · have zk2 : ((k : Int) == 2) = false := by rw [beq_eq_false_iff_ne]; omega
    go_wp2_with fail
    go_ret
    exact ⟨ret_bool (by rw [E.out, decide_eq_false hk2]; rfl), B3.out⟩
set_option maxRecDepth 100000 in
set_option maxHeartbeats 8000000 in
theorem rmsgGood_any (m : MsgV) (w : World) (cs : List Value) (h : MsgAt w cs m) : Calls Tryz.prog 16 #[.agg cs.toArray] w (RetB w (.bool (goodM m))) := by
  obtain ⟨A, c, rfl, HP⟩ := h.ex
  have hs := h.small
  have KB : Hid (Blk (w.alloc (.cells (msgC m A m.2.2.2.length c).toArray 30)) w.heap.size 30 (msgC m A m.2.2.2.length c).toArray) := Blk.new _ _ _
  have B0 : Hid (Below w.heap.size w (w.alloc (.cells (msgC m A m.2.2.2.length c).toArray 30))) := below_new _ _
  have F : Hid (∀ u, Blk u w.heap.size 30 (msgC m A m.2.2.2.length c).toArray → u.cell? ⟨w.heap.size, 0, none⟩ = some (.int .u8 ((m.1.1.val : Nat) : Int)) ∧ u.cell? ⟨w.heap.size, 1, none⟩ = some (.int .u8 ((m.1.2.1.val : Nat) : Int)) ∧ u.cell? ⟨w.heap.size, 2, none⟩ = some (.int .u8 ((m.1.2.2.val : Nat) : Int)) ∧ u.cell? ⟨w.heap.size, 71, none⟩ = some (.slice A m.2.2.2.length c) ∧ u.rangeAt w.heap.size 3 (vecK m.2.1) ∧ u.rangeAt w.heap.size 67 (encBl m.2.2.1)) := fun u K => ⟨msg_kind K, msg_from K, msg_to K, msg_pats h.ok K, msg_vec h.ok K, msg_bl h.ok K⟩
  have HQ := Lib.hid (HP.ext B0.out)
  have hlv : Hid (some 64 = some (vecK m.2.1).length) := by rw [Hid, vecK_len h.ok.vec]
  have hlb : Hid (some 4 = some (encBl m.2.2.1).length) := by rw [Hid, encBl_len h.ok.bl]
  have E := Lib.hid (goodM_form m)
  have HV : Hid (∀ u, Calls Tryz.prog 70 #[.agg (vecK m.2.1).toArray] u (RetB u (.bool (vgoodV m.2.1)))) := fun u => rvecGood_any m.2.1 h.ok.vec u
  have EQ := Lib.hid (fun u => bl_eq m.2.2.1 zeroBl h.ok.bl zeroBl_ok u)
  have GQ := Lib.hid (fun x y u => bl_guard x y m.2.2.1 zeroBl h.ok.bl zeroBl_ok u)
  clear h HP
  generalize goodM m = G at *
  obtain ⟨⟨⟨k, hk⟩, ⟨f, hf⟩, ⟨t, ht⟩⟩, v, b, ps⟩ := m
  dsimp only at *
  generalize vgoodV v = b4 at *
  generalize decide (b = zeroBl) = b6 at *
  obtain ⟨n, hn⟩ : ∃ n, n = ps.length := ⟨_, rfl⟩
  rw [← hn] at KB B0 F HQ hs E ⊢
  replace hn := Lib.hid hn
  unfold maxLen at hs
  go_enter Tryz.func16, Tryz.ntmps16
  go_upto_region 1 with fail
  generalize w.alloc (.cells (msgC ((⟨k, hk⟩, ⟨f, hf⟩, ⟨t, ht⟩), v, b, ps) A n c).toArray 30) = w2 at *
  generalize (msgC ((⟨k, hk⟩, ⟨f, hf⟩, ⟨t, ht⟩), v, b, ps) A n c).toArray = ca at *
  obtain ⟨g, hg⟩ : ∃ g, g = w.heap.size := ⟨_, rfl⟩
  rw [← hg] at KB F ⊢
  replace hg := Lib.hid hg
  obtain ⟨y0, y1, y2, y71, RV, RB⟩ := F.out w2 KB.out
  have RV := Lib.hid RV
  have RB := Lib.hid RB
  have hi64 : Hid ((Tryz.prog.info? 24).map (·.size) = some (vecK v).length) := info64.trans hlv.out
  have hi4 : Hid ((Tryz.prog.info? 27).map (·.size) = some (encBl b).length) := infoBl.trans hlb.out
  clear hlv hlb
  by_cases hf1 : f < 1
  · have z : (f : Int) < 1 := by omega
    have N : Hid (nodeN f = false) := decide_eq_false (by omega)
    go_wp2_with fail
    go_ret
    exact ⟨ret_bool (by rw [E.out, N.out]; rfl), B0.out⟩
  have zf1 : ¬ (f : Int) < 1 := by omega
  by_cases hf2 : 64 < f
  · have z : (64 : Int) < (f : Int) := by omega
    have N : Hid (nodeN f = false) := decide_eq_false (by omega)
    go_wp2_with fail
    go_ret
    exact ⟨ret_bool (by rw [E.out, N.out]; rfl), B0.out⟩
  have zf2 : ¬ (64 : Int) < (f : Int) := by omega
  have NF : Hid (nodeN f = true) := decide_eq_true (by omega)
  rw [NF.out, Bool.true_and] at E
  by_cases ht1 : t < 1
  · have z : (t : Int) < 1 := by omega
    have N : Hid (nodeN t = false) := decide_eq_false (by omega)
    go_wp2_with fail
    go_ret
    exact ⟨ret_bool (by rw [E.out, N.out]; rfl), B0.out⟩
  have zt1 : ¬ (t : Int) < 1 := by omega
  by_cases ht2 : 64 < t
  · have z : (64 : Int) < (t : Int) := by omega
    have N : Hid (nodeN t = false) := decide_eq_false (by omega)
    go_wp2_with fail
    go_ret
    exact ⟨ret_bool (by rw [E.out, N.out]; rfl), B0.out⟩
  have zt2 : ¬ (64 : Int) < (t : Int) := by omega
  have NT : Hid (nodeN t = true) := decide_eq_true (by omega)
  rw [NT.out, Bool.true_and] at E
  by_cases hft : f = t
  · have z : ((f : Int) == (t : Int)) = true := by rw [beq_iff_eq]; omega
    have z2 : Hid (decide (f ≠ t) = false) := decide_eq_false fun h => h hft
    replace hft := Lib.hid hft
    go_wp2_with fail
    go_ret
    exact ⟨ret_bool (by rw [E.out, z2.out]; rfl), B0.out⟩
  have z : ((f : Int) == (t : Int)) = false := by rw [beq_eq_false_iff_ne]; omega
  have z2 : Hid (decide (f ≠ t) = true) := decide_eq_true hft
  replace hft := Lib.hid hft
  rw [z2.out, Bool.true_and] at E
  go_wp2_with (refine wpList_load_midG (by kernel_rfl) 24 _ (by rfl) g 3 (by rfl) _ _ RV.out under64 rfl hi64.out ?_)
  refine (HV.out _).mono ?_
  rintro e w3 ⟨rfl, b3⟩
  have B3 := Lib.hid (B0.out.trans (b3.mono B0.out.size))
  have KB3 := Lib.hid (KB.out.ext b3)
  have HQ3 := Lib.hid (HQ.out.ext b3)
  clear b3 y0 y1 y2 y71 RV RB HQ HV B0 z KB zf1 zf2 zt1 zt2 hf1 hf2 ht1 ht2
  obtain ⟨y0, _, _, y71, _, _⟩ := F.out w3 KB3.out
  cases b4
  · go_wp2_with fail
    go_ret
    exact ⟨ret_bool (by rw [E.out]; rfl), B3.out⟩
  rw [Bool.true_and] at E
  by_cases hk1 : k = 1
  · subst hk1
    by_cases hn0 : n = 0
    · subst hn0
      go_wp2_with fail
      go_ret
      exact ⟨ret_bool (by rw [E.out]; simp), B3.out⟩
    · have z0 : ((n : Int) == 0) = false := by rw [beq_eq_false_iff_ne]; omega
      go_wp2_with fail
      go_ret
      exact ⟨ret_bool (by rw [E.out]; simpa using hn0), B3.out⟩
  have zk1 : ((k : Int) == 1) = false := by rw [beq_eq_false_iff_ne]; omega
  replace E : Hid (G = (decide (k = 2) && (ps.all patB && (b6 && decide (n ≤ 8))))) := by rw [Hid, E.out, if_neg hk1]
  replace hk1 := Lib.hid hk1
  have BR := Lib.hid (Below.refl w3.heap.size w3)
  go_wp2_with fail
  clear y0 y71
  go_loopw [3] (fun i wr => ∃ j : Nat, j ≤ n ∧ i = .int .i64 j ∧ Hid ((ps.take j).all patB = true) ∧ Hid (Below w3.heap.size w3 wr)) (fun i _ => n - (intOf i).toNat)
  case atStart => exact ⟨0, by omega, rfl, rfl, BR.out⟩
  case round =>
    clear BR
    obtain ⟨j, hj, rfl, T, B⟩ := hrel
    obtain ⟨wi, rfl⟩ : ∃ wx, wx = wr := ⟨_, rfl⟩
    have hj0 : (0 : Int) ≤ (j : Int) := by omega
    have KBi := Lib.hid (KB3.out.ext B.out)
    by_cases hlt : j < n
    · have hlj : (j : Int) < (n : Int) := by omega
      obtain ⟨bb, o, p, r, rfl, hb, hp, pa, R⟩ := (HQ3.out.ext B.out).at_ hlt
      obtain ⟨y0, _, _, y71, _, _⟩ := F.out wi KBi.out
      have HG := Lib.hid (rgood18_any p wi r pa)
      have RH := Lib.hid R
      have hr4 : Hid ((Tryz.prog.info? 64).map (·.size) = some r.length) := by rw [Hid, pa.len4]; exact infoPat
      have TA := Lib.hid (fun h => allL_snoc (f := patB) hp T.out h)
      have FA := Lib.hid (fun h => allL_false (f := patB) hp h)
      clear R pa hb hp
      cases hg : patB p
      · have N := Lib.hid (FA.out hg)
        rw [hg] at HG
        clear hg TA FA
        go_wp2_with (refine wpList_load_mid rfl 64 _ (by rfl) bb (o + j * 4) (by rfl) _ _ RH.out underPat rfl hr4.out ?_)
        refine HG.out.mono ?_
        rintro e w5 ⟨rfl, b5⟩
        have B5 := Lib.hid (B3.out.trans ((ext_trans B.out b5).mono B3.out.size))
        clear b5
        go_wp2
        go_ret
        exact ⟨ret_bool (by rw [E.out, N.out]; simp), B5.out⟩
      · have N := Lib.hid (TA.out hg)
        rw [hg] at HG
        clear hg TA FA
        go_wp2_with (refine wpList_load_mid rfl 64 _ (by rfl) bb (o + j * 4) (by rfl) _ _ RH.out underPat rfl hr4.out ?_)
        refine HG.out.mono ?_
        rintro e w5 ⟨rfl, b5⟩
        have B5 := Lib.hid (ext_trans B.out b5)
        clear b5
        go_wp2_with fail
        go_roundw
        case rel => exact ⟨j + 1, by omega, by go_num, N.out, B5.out⟩
        case measure => simp [intOf]; omega
    · have hlj : ¬ (j : Int) < (n : Int) := by omega
      have N : Hid (ps.all patB = true) := by
        have h1 := T.out
        rwa [List.take_of_length_le (by have := hn.out; omega)] at h1
      obtain ⟨y0, _, _, y71, _, RB⟩ := F.out wi KBi.out
      have RB := Lib.hid RB
      have B4 := Lib.hid (B3.out.trans (B.out.mono B3.out.size))
      rw [N.out, Bool.true_and] at E
      clear N T B KBi
      by_cases hk2 : k = 2
      · subst hk2
        cases b6
        · go_wp2_with (first
            | (refine wpList_load_midG (by kernel_rfl) 27 _ (by rfl) g 67 (by rfl) _ _ RB.out underBl rfl hi4.out ?_)
            | (refine wpList_builtG (by kernel_rfl) (buildBl0 _) (by rfl) ?_)
            | ((with_reducible refine wpList_compG (by kernel_rfl) ?_ ?_ ?_ (EQ.out _) ?_); rfl; rfl; exact GQ.out _ _ _))
          go_ret
          exact ⟨ret_bool (by rw [E.out]; rfl), B4.out⟩
        by_cases hn8 : n ≤ 8
        · have zn : (n : Int) ≤ 8 := by omega
          go_wp2_with (first
            | (refine wpList_load_midG (by kernel_rfl) 27 _ (by rfl) g 67 (by rfl) _ _ RB.out underBl rfl hi4.out ?_)
            | (refine wpList_builtG (by kernel_rfl) (buildBl0 _) (by rfl) ?_)
            | ((with_reducible refine wpList_compG (by kernel_rfl) ?_ ?_ ?_ (EQ.out _) ?_); rfl; rfl; exact GQ.out _ _ _))
          go_ret
          exact ⟨ret_bool (by rw [E.out, decide_eq_true hn8]; rfl), B4.out⟩
        · have zn : ¬ (n : Int) ≤ 8 := by omega
          go_wp2_with (first
            | (refine wpList_load_midG (by kernel_rfl) 27 _ (by rfl) g 67 (by rfl) _ _ RB.out underBl rfl hi4.out ?_)
            | (refine wpList_builtG (by kernel_rfl) (buildBl0 _) (by rfl) ?_)
            | ((with_reducible refine wpList_compG (by kernel_rfl) ?_ ?_ ?_ (EQ.out _) ?_); rfl; rfl; exact GQ.out _ _ _))
          go_ret
          exact ⟨ret_bool (by rw [E.out, decide_eq_false hn8]; rfl), B4.out⟩
      · have zk2 : ((k : Int) == 2) = false := by rw [beq_eq_false_iff_ne]; omega
        go_wp2_with fail
        go_ret
        exact ⟨ret_bool (by rw [E.out, decide_eq_false hk2]; rfl), B4.out⟩
end Go.Proofs.YtdafiipedlglpaaGreatDoor

/- A vector that is written: walked; texts up to 100000 bytes. -/
namespace Go.Proofs.YtdafiipedlglpaaGreatDoor
open Go.RowKit

set_option maxRecDepth 100000 in
set_option maxHeartbeats 2000000 in
theorem wrTextM_any {w : World} {F : Nat → Prop} {g : Nat} {l : List UInt8} (h : WrAt w F g l) (s : ByteArray) (hl : l.length ≤ 900000) (hs : s.size ≤ 100000) :
    Calls Tryz.prog 80 #[.pointer (some ⟨g, 0, none⟩), .string s] w (WrRet w F g (l ++ (vbytes s.size ++ s.data.toList))) := by
  have H := Lib.hid h
  have hs0 : (0 : Int) ≤ (s.size : Int) := by omega
  have hs1 : (s.size : Int) ≤ 100000 := by omega
  have B0 : Hid (Below w.heap.size w (w.alloc (.cells #[.int .u64 (s.size : Int)] 25))) := below_new _ _
  have S0 : Hid (Sl (w.alloc (.cells #[.int .u64 (s.size : Int)] 25)) (w.alloc (.cells #[.int .u64 (s.size : Int)] 25)).heap.size 1 (some ⟨w.heap.size, 0, none⟩) 1 (encU [s.size])) := sl_fresh w _ 25 1 1 (encU [s.size]) rfl rfl
  have HN := Lib.hid (wrNum_any (H.out.ext B0.out) [s.size] (fun n hn => by rw [List.mem_singleton.1 hn]; omega) (some ⟨w.heap.size, 0, none⟩) 1 1 S0.out (fun b o e hf => by injection e with e; injection e with e _ _; have := H.out.lt b hf; omega) rfl (by omega) (by omega))
  clear h S0
  go_enter Tryz.func80, Tryz.ntmps80
  go_wp2_with fail
  refine HN.out.mono ?_
  rintro e w2 ⟨rfl, kp, F2, hW, hF⟩
  have KP : Hid (Kept F w w2) := (Kept.of_below B0.out).trans kp fun x e => .inl e
  have HF : Hid (∀ q, F2 q → F q ∨ w.heap.size ≤ q) := fun q e => (hF q e).elim .inl fun e => .inr (Nat.le_trans B0.out.size e)
  obtain ⟨s0, kk, oo, hs2⟩ := hW.ex
  have HS := Lib.hid hs2
  have fg := Lib.hid hW.fg
  have lt := Lib.hid hW.lt
  have K3 := Lib.hid kk
  have O3 := Lib.hid oo
  obtain ⟨n0, hn0⟩ : ∃ n0, n0 = (l ++ [s.size].flatMap vbytes).length := ⟨_, rfl⟩
  have hn0b : n0 ≤ 1000000 := by
    have h1 : (vbytes s.size).length ≤ 10 := vbytes_len 9 _ (by omega)
    rw [List.length_append, List.flatMap_cons, List.flatMap_nil, List.append_nil] at hn0
    omega
  rw [← hn0] at O3 oo
  replace hn0 := Lib.hid hn0
  obtain ⟨A0, c0, rfl, _, _⟩ := Sl.of_own oo
  have y0 : w2.cell? ⟨g, 0, none⟩ = some (.slice A0 n0 c0) := K3.out.cell 0
  clear kp hF hW hs2 kk oo HN H B0
  go_wp2_with (at_builtin; refine wpList_strB O3.out s (Nat.zero_le _) (by omega) (by rfl) (by rfl) ?_; intro v1 w6 own1 kp hv1; obtain ⟨A1, c1, rfl, _, _⟩ := Sl.of_own own1; have K6 : Hid (Blk w6 g 122 #[.slice A0 n0 c0]) := K3.out.keep (kp.block g K3.out.lt fun e => own_ne_blk O3.out K3.out (by decide) e rfl); have y6 : w6.cell? ⟨g, 0, none⟩ = some (.slice A0 n0 c0) := K6.out.cell 0; have f6 : w6.frozen? ⟨g, 0, none⟩ = false := K6.out.fr 0)
  have e1 : s.size = s.data.toList.length := rfl
  rw [strCells_enc, e1] at own1
  obtain ⟨p1, F3, p2, p3⟩ := WrAt.put hn0.out K3.out O3.out HS.out fg.out lt.out own1 kp hv1
  go_end0
  refine ⟨rfl, KP.out.trans p1 fun x e => HF.out x e, F3, ?_, fun q e => (p3 q e).elim (HF.out q) fun e => .inr (Nat.le_trans KP.out.size e)⟩
  rw [List.append_assoc] at p2
  simpa using p2
theorem WrB.less {w : World} {B g : Nat} {l : List UInt8} {N M : Nat → Prop} (h : WrB w B g l N) (hM : ∀ q, M q → N q) : WrB w B g l M := h.away (Below.refl _ _) fun q m => .inl (hM q m)
theorem stay_less {N M : Nat → Prop} {a b : World} (h : Stay N a b) (hM : ∀ q, M q → N q) : Stay M a b := ⟨h.1, fun k hk m => h.2 k hk (hM k m)⟩
theorem wmByte {w : World} {B g : Nat} {l : List UInt8} {N : Nat → Prop} (h : WrB w B g l N) (hBw : B ≤ w.heap.size) (hNw : ∀ q, N q → q < w.heap.size) (xs : List UInt8) (n : Nat) (hn : xs.length = n) (hx : n ≤ 1000) (hl : l.length ≤ 800000) (cs : Array Value) (hc : cs = (encB xs).toArray) :
    Calls Tryz.prog 74 #[.pointer (some ⟨g, 0, none⟩), .slice (some ⟨w.heap.size, 0, none⟩) n n] (w.alloc (.cells cs 5)) (WbRet w B g (l ++ xs) N) := by
  have hb : Below w.heap.size w (w.alloc (.cells cs 5)) := below_new _ _
  obtain ⟨F, h1, h2, h3⟩ := h.ex
  have hs : Sl (w.alloc (.cells cs 5)) (w.alloc (.cells cs 5)).heap.size 1 (some ⟨w.heap.size, 0, none⟩) n (encB xs) :=
    sl_fresh w _ 5 1 n (encB xs) (by rw [encB_len, hn, Nat.mul_one]) (by rw [hc])
  exact (wrByte_any (h1.ext hb) xs _ n n _ hs hn (by omega)).mono fun _ _ h => wb_of hb h2 h3 hBw hNw h
theorem wmNum {w : World} {B g : Nat} {l : List UInt8} {N : Nat → Prop} (h : WrB w B g l N) (hBw : B ≤ w.heap.size) (hNw : ∀ q, N q → q < w.heap.size) (ns : List Nat) (hn : ∀ n ∈ ns, n < 18446744073709551616) (hm : ns.length ≤ 1000) (hl : l.length ≤ 800000) (cs : Array Value) (hc : cs = (encU ns).toArray) :
    Calls Tryz.prog 76 #[.pointer (some ⟨g, 0, none⟩), .slice (some ⟨w.heap.size, 0, none⟩) ns.length ns.length] (w.alloc (.cells cs 25)) (WbRet w B g (l ++ ns.flatMap vbytes) N) := by
  have hb : Below w.heap.size w (w.alloc (.cells cs 25)) := below_new _ _
  obtain ⟨F, h1, h2, h3⟩ := h.ex
  exact (wrNum_any (h1.ext hb) ns hn _ ns.length _ (u64_sl w ns cs hc) (fun b o e hf => by injection e with e; injection e with e _ _; have := h1.lt b hf; omega) rfl (by omega) hm).mono fun _ _ h => wb_of hb h2 h3 hBw hNw h
theorem wmNum1 {w : World} {B g : Nat} {l : List UInt8} {N : Nat → Prop} (h : WrB w B g l N) (hBw : B ≤ w.heap.size) (hNw : ∀ q, N q → q < w.heap.size) (n : Nat) (hn : n < 18446744073709551616) (hl : l.length ≤ 800000) :
    Calls Tryz.prog 76 #[.pointer (some ⟨g, 0, none⟩), .slice (some ⟨w.heap.size, 0, none⟩) 1 1] (w.alloc (.cells #[.int .u64 (n : Int)] 25)) (WbRet w B g (l ++ vbytes n) N) := by
  have := wmNum h hBw hNw [n] (fun m hm => by rw [List.mem_singleton.1 hm]; exact hn) (by simp) hl #[.int .u64 (n : Int)] rfl
  simpa using this
theorem wmText {w : World} {B g : Nat} {l : List UInt8} {N : Nat → Prop} (h : WrB w B g l N) (hBw : B ≤ w.heap.size) (hNw : ∀ q, N q → q < w.heap.size) (s : ByteArray) (hs : s.size ≤ 100000) (hl : l.length ≤ 800000) :
    Calls Tryz.prog 80 #[.pointer (some ⟨g, 0, none⟩), .string s] w (WbRet w B g (l ++ (vbytes s.size ++ s.data.toList)) N) := by
  obtain ⟨F, h1, h2, h3⟩ := h.ex
  exact (wrTextM_any h1 s (by omega) hs).mono fun _ _ h => wb_of (Below.refl _ _) h2 h3 hBw hNw h
theorem convN8 {k : Nat} (hk : k < 255) (w : World) : (convert 3 5 (.int .i64 ((k : Int) + 1))).run Tryz.prog w = .ok (.int .u8 ((k + 1 : Nat) : Int)) w := by
  have e2 : IntKind.u8.wrap ((k : Int) + 1) = ((k + 1 : Nat) : Int) := by
    have := IntWalk.u8_in ((k : Int) + 1) (by omega)
    rw [this]; omega
  rw [← e2]
  simp [go_sem]
theorem convI64 {k : Nat} (hk : k < 9223372036854775808) (w : World) : (convert 3 25 (.int .i64 ((k : Nat) : Int))).run Tryz.prog w = .ok (.int .u64 ((k : Nat) : Int)) w := by
  have e2 : IntKind.u64.wrap ((k : Nat) : Int) = ((k : Nat) : Int) := IntWalk.u64_in _ (by omega)
  conv => rhs; rw [← e2]
  simp [go_sem]
theorem conv16 {x : Int} (h0 : 0 ≤ x) (h1 : x ≤ 65535) (w : World) : (convert 22 25 (.int .u16 x)).run Tryz.prog w = .ok (.int .u64 ((x.toNat : Nat) : Int)) w := by
  have e2 : IntKind.u64.wrap x = ((x.toNat : Nat) : Int) := by
    rw [IntWalk.u64_in _ (by omega)]; omega
  rw [← e2]
  simp [go_sem]
theorem vecB_len {v : List Int} (hv : VecOk v) (k : Nat) (hk : k ≤ 64) : ((pairsTo v k).flatMap pairB).length ≤ 4 * 64 := by
  have : ∀ ps : List (Nat × Nat), (∀ p ∈ ps, p.2 ≤ 65535) → (ps.flatMap pairB).length ≤ 4 * ps.length := by
    intro ps
    induction ps with
    | nil => intro _; simp
    | cons p ps ih =>
      intro h
      have h1 := ih fun x hx => h x (List.mem_cons_of_mem _ hx)
      have h2 := h p (List.mem_cons_self ..)
      have h3 : (vbytes p.2).length ≤ 3 := vbytes_len 2 _ (by omega)
      rw [List.flatMap_cons, List.length_append, List.length_cons]
      unfold pairB at h1 ⊢
      rw [List.length_cons]
      omega
  have h1 := this (pairsTo v k) fun p hp => by
    unfold pairsTo at hp
    obtain ⟨i, hi, h2⟩ := List.mem_filterMap.1 hp
    unfold pairAt at h2
    split at h2
    · have hg := hv.get i (by have := List.mem_range.1 hi; omega)
      rw [← Option.some.inj h2]
      show (v.getD i 0).toNat ≤ 65535
      omega
    · cases h2
  have h2 := pairsTo_len v k
  omega
set_option maxRecDepth 100000 in
set_option maxHeartbeats 4000000 in
theorem putVec_any {w : World} {B g : Nat} {l : List UInt8} {N : Nat → Prop} (h : WrB w B g l N) (hBw : B ≤ w.heap.size) (hNw : ∀ q, N q → q < w.heap.size) (v : List Int) (hv : VecOk v) (hl : l.length ≤ 100000) :
    Calls Tryz.prog 75 #[.pointer (some ⟨g, 0, none⟩), .agg (vecA v)] w (WbRet w B g (l ++ vecB v) N) := by
  have HV := Lib.hid hv
  have hs1 : Hid ((vecA v).size = 64) := by rw [Hid, vecA_size]; exact hv.len
  have BN : Hid (Below w.heap.size w (w.alloc (.cells (vecA v) 24))) := below_new _ _
  have K1 : Hid (Blk (w.alloc (.cells (vecA v) 24)) w.heap.size 24 (vecA v)) := Blk.new _ _ _
  have W0 : Hid (WrB (w.alloc (.cells (vecA v) 24)) B g l (fun q => N q ∨ q = w.heap.size)) := h.away BN.out fun q e => e.elim .inl fun e => .inr (by omega)
  have HN : Hid (∀ q, (N q ∨ q = w.heap.size) → q < (w.alloc (.cells (vecA v) 24)).heap.size) := fun q e => by have := BN.out.size; have := K1.out.lt; exact e.elim (fun e => Nat.lt_of_lt_of_le (hNw q e) BN.out.size) fun e => by rw [e]; exact K1.out.lt
  have EB : Hid (vecB v = vbytes (pairsTo v 64).length ++ (pairsTo v 64).flatMap pairB) := rfl
  have B0 := Lib.hid (BN.out.mono hBw)
  have S0 : Hid (Stay N w (w.alloc (.cells (vecA v) 24))) := Stay.of_below BN.out
  rw [EB.out]
  clear h hv EB BN
  go_enter Tryz.func75, Tryz.ntmps75
  go_upto_region 1 with fail
  generalize (w.alloc (.cells (vecA v) 24)) = w2 at *
  obtain ⟨gv, hgv⟩ : ∃ gv, gv = w.heap.size := ⟨_, rfl⟩
  rw [← hgv] at K1 W0 HN ⊢
  replace hgv := Lib.hid hgv
  go_wp2_with (refine wpList_load_row rfl 24 _ (by rfl) gv (by rfl) _ _ _ _ K1.out under64 rfl (by rw [hs1.out]; exact info64) ?_)
  go_loop [4, 10] (fun s i => ∃ k : Nat, k ≤ 64 ∧ i = .int .i64 (k : Int) ∧ s = .int .i64 (((pairsTo v k).length : Nat) : Int)) (fun _ i => 64 - (intOf i).toNat)
  case atStart => exact ⟨0, by omega, rfl, rfl⟩
  case round =>
    obtain ⟨k, hk, rfl, rfl⟩ := hrel
    have hk0 : (0 : Int) ≤ (k : Int) := by omega
    by_cases hlt : k < 64
    · have hix := index_vec v HV.out k hlt
      obtain ⟨x0, x1⟩ := HV.out.get k hlt
      have PY := Lib.hid (fun h => pairsTo_yes (v := v) (k := k) h)
      have PN := Lib.hid (fun h => pairsTo_no (v := v) (k := k) h)
      have hpl := pairsTo_len v k
      generalize v.getD k 0 = x at *
      have hb0 : (k : Int) < 64 := by omega
      by_cases hx : (0 : Int) < x
      · have E : Hid ((pairsTo v (k + 1)).length = (pairsTo v k).length + 1) := by rw [Hid, PY.out hx, List.length_append]; rfl
        generalize (pairsTo v k).length = m at *
        clear PY PN
        go_wp2
        go_round
        case rel => exact ⟨k + 1, by omega, by go_num, by rw [E.out]; go_num⟩
        case measure => simp [intOf]; omega
      · have E : Hid ((pairsTo v (k + 1)).length = (pairsTo v k).length) := by rw [Hid, PN.out hx]
        generalize (pairsTo v k).length = m at *
        clear PY PN
        go_wp2
        go_round
        case rel => exact ⟨k + 1, by omega, by go_num, by rw [E.out]⟩
        case measure => simp [intOf]; omega
    · have hk' : k = 64 := by omega
      subst hk'
      have hpl := pairsTo_len v 64
      have hbs2 : Hid (B ≤ w2.heap.size) := by have := K1.out.lt; have := hgv.out; rw [Hid]; omega
      obtain ⟨L1, hL1⟩ : ∃ L1, L1 = l ++ vbytes (pairsTo v 64).length := ⟨_, rfl⟩
      have hL1l : L1.length ≤ 100010 := by
        have : (vbytes (pairsTo v 64).length).length ≤ 1 := vbytes_len 0 _ (by omega)
        rw [hL1, List.length_append]; omega
      have C1 := Lib.hid (fun u => convI64 (k := (pairsTo v 64).length) (by omega) u)
      have HNum := Lib.hid (wmNum1 W0.out hbs2.out HN.out (pairsTo v 64).length (by omega) (by omega))
      rw [← hL1] at HNum
      rw [← List.append_assoc, ← hL1]
      replace hL1 := Lib.hid hL1
      generalize hmm : (pairsTo v 64).length = m at *
      clear hmm
      go_wp2_with ((with_reducible refine wpList_convB ?_ (C1.out _) ?_); rfl)
      refine HNum.out.mono ?_
      rintro e w4 ⟨rfl, W4, b4, st4⟩
      have W4 := Lib.hid W4
      have B4 := Lib.hid (B0.out.trans b4)
      have K4 := Lib.hid (K1.out.keep (st4.2 gv K1.out.lt (.inr rfl)))
      have S4 := Lib.hid (stay_trans S0.out (stay_less st4 fun q e => .inl e))
      have HN4 : Hid (∀ q, (N q ∨ q = gv) → q < w4.heap.size) := fun q e => Nat.lt_of_lt_of_le (HN.out q e) st4.1
      have hbs4 : Hid (B ≤ w4.heap.size) := by have := st4.1; have := hbs2.out; rw [Hid]; omega
      clear W0 b4 st4 K1 S0 HN HNum C1 B0
      have ST := Lib.hid (show Stay (fun q => N q ∨ q = gv) w4 w4 from ⟨Nat.le_refl _, fun _ _ _ => rfl⟩)
      have BB := Lib.hid (Below.refl B w4)
      go_wp2_with (refine wpList_load_row rfl 24 _ (by rfl) gv (by rfl) _ _ _ _ K4.out under64 rfl (by rw [hs1.out]; exact info64) ?_)
      go_loopw [24] (fun i wr => ∃ k : Nat, k ≤ 64 ∧ i = .int .i64 (k : Int) ∧ Hid (WrB wr B g (L1 ++ (pairsTo v k).flatMap pairB) (fun q => N q ∨ q = gv)) ∧ Hid (Below B w4 wr) ∧ Hid (Stay (fun q => N q ∨ q = gv) w4 wr)) (fun i _ => 64 - (intOf i).toNat)
      case atStart => exact ⟨0, by omega, rfl, by rw [pairsTo_zero, List.flatMap_nil, List.append_nil]; exact W4.out, BB.out, ST.out⟩
      case round =>
        clear W4 BB ST
        obtain ⟨k, hk, rfl, WR, BR, SR⟩ := hrel
        obtain ⟨wi, rfl⟩ : ∃ wx, wx = wr := ⟨_, rfl⟩
        have hk0 : (0 : Int) ≤ (k : Int) := by omega
        have hbi : Hid (B ≤ wi.heap.size) := by have := SR.out.1; have := hbs4.out; rw [Hid]; omega
        have HNi : Hid (∀ q, (N q ∨ q = gv) → q < wi.heap.size) := fun q e => Nat.lt_of_lt_of_le (HN4.out q e) SR.out.1
        by_cases hlt : k < 64
        · have hix := index_vec v HV.out k hlt
          obtain ⟨x0, x1⟩ := HV.out.get k hlt
          have PY := Lib.hid (fun h => pairsTo_yes (v := v) (k := k) h)
          have PN := Lib.hid (fun h => pairsTo_no (v := v) (k := k) h)
          have hpl := vecB_len HV.out k (by omega)
          have hkb : (k : Int) < 64 := by omega
          generalize v.getD k 0 = x at *
          by_cases hx : (0 : Int) < x
          · obtain ⟨L2, hL2⟩ : ∃ L2, L2 = L1 ++ (pairsTo v k).flatMap pairB := ⟨_, rfl⟩
            have hL2l : L2.length ≤ 200000 := by rw [hL2, List.length_append]; omega
            have E : Hid (L1 ++ (pairsTo v (k + 1)).flatMap pairB = L2 ++ [UInt8.ofNat (k + 1)] ++ vbytes x.toNat) := by
              rw [Hid, PY.out hx, List.flatMap_append, hL2]
              unfold pairB
              simp
            rw [← hL2] at WR
            replace hL2 := Lib.hid hL2
            have C1 := Lib.hid (fun u => convN8 (k := k) (by omega) u)
            have C2 := Lib.hid (fun u => conv16 x0 x1 u)
            have HB1 := Lib.hid (wmByte WR.out hbi.out HNi.out [UInt8.ofNat (k + 1)] 1 rfl (by omega) (by omega) #[.int .u8 ((k + 1 : Nat) : Int)] (by
              show _ = (enc1 _ ++ []).toArray
              rw [enc1_nat (by omega)]; rfl))
            clear PY PN
            have hxn : x.toNat < 18446744073709551616 := by omega
            generalize x.toNat = xn at *
            generalize ((k + 1 : Nat) : Int) = kk at *
            go_wp2_with (first | ((with_reducible refine wpList_convB ?_ (C1.out _) ?_); rfl))
            refine HB1.out.mono ?_
            rintro e w5 ⟨rfl, W5, b5, st5⟩
            have W5 := Lib.hid W5
            have B5 := Lib.hid (BR.out.trans b5)
            have S5 := Lib.hid (stay_trans SR.out st5)
            have hb5 : Hid (B ≤ w5.heap.size) := by have := st5.1; have := hbi.out; rw [Hid]; omega
            have HN5 : Hid (∀ q, (N q ∨ q = gv) → q < w5.heap.size) := fun q e => Nat.lt_of_lt_of_le (HNi.out q e) st5.1
            have HB2 := Lib.hid (wmNum1 W5.out hb5.out HN5.out xn hxn (by rw [List.length_append]; simp; omega))
            clear b5 st5 HB1 WR BR SR W5
            go_wp2_with (first | ((with_reducible refine wpList_convB ?_ (C2.out _) ?_); rfl))
            refine HB2.out.mono ?_
            rintro e w6 ⟨rfl, W6, b6, st6⟩
            rw [← E.out] at W6
            have W6 := Lib.hid W6
            have B6 := Lib.hid (B5.out.trans b6)
            have S6 := Lib.hid (stay_trans S5.out st6)
            clear b6 st6 HB2 B5 S5
            go_wp2_with fail
            go_roundw
            case rel => exact ⟨k + 1, by omega, by go_num, W6.out, B6.out, S6.out⟩
            case measure => simp [intOf]; omega
          · have E : Hid (L1 ++ (pairsTo v (k + 1)).flatMap pairB = L1 ++ (pairsTo v k).flatMap pairB) := by rw [Hid, PN.out hx]
            clear PY PN
            go_wp2_with fail
            go_roundw
            case rel => exact ⟨k + 1, by omega, by go_num, by rw [E.out]; exact WR.out, BR.out, SR.out⟩
            case measure => simp [intOf]; omega
        · have hk' : k = 64 := by omega
          subst hk'
          have WF := Lib.hid (WR.out.less (M := N) fun q e => .inl e)
          have BF := Lib.hid (B4.out.trans BR.out)
          have SF := Lib.hid (stay_trans S4.out (stay_less SR.out fun q e => .inl e))
          go_wp2_with fail
          go_end0
          exact ⟨rfl, by have h1 := WF.out; rw [hL1.out, List.append_assoc] at h1; exact h1, BF.out, SF.out⟩
end Go.Proofs.YtdafiipedlglpaaGreatDoor

/- Whether two messages are the same: walked, the program's and the document's. -/
namespace Go.Proofs.YtdafiipedlglpaaGreatDoor
open Go.RowKit

theorem takeEq_snoc {α : Type} {l m : List α} {k : Nat} {x : α} (h : l.take k = m.take k) (hl : l[k]? = some x) (hm : m[k]? = some x) : l.take (k + 1) = m.take (k + 1) := by
  rw [List.take_add_one, List.take_add_one, h, hl, hm]
theorem takeEq_no {α : Type} {l m : List α} {k : Nat} {x y : α} (hl : l[k]? = some x) (hm : m[k]? = some y) (h : x ≠ y) : l ≠ m := fun e => by
  rw [e, hm] at hl
  exact h (Option.some.inj hl).symm
set_option maxRecDepth 100000 in
set_option maxHeartbeats 4000000 in
theorem eqf34_any (l m : List PatV) (w : World) (A B : Option Addr) (n n' c c' : Nat) (h1 : PatsAt w A n l) (h2 : PatsAt w B n' m) (hm : n ≤ maxLen) (hm' : n' ≤ maxLen) :
    Calls Tryz.prog 71 #[.slice A n c, .slice B n' c', .func (.func 72) #[] #[]] w (RetB w (.bool (decide (l = m)))) := by
  have e1 := h1.len
  have e2 := h2.len
  unfold maxLen at hm hm'
  by_cases hnn : n = n'
  · subst hnn
    have H1 := Lib.hid h1
    have H2 := Lib.hid h2
    have e1 := Lib.hid e1
    have e2 := Lib.hid e2
    have BR := Lib.hid (Below.refl w.heap.size w)
    have zn : ((n : Int) != (n : Int)) = false := by simp
    clear h1 h2
    go_enter Tryz.func71, Tryz.ntmps71
    go_wp2_with fail
    go_loopw [17] (fun i wr => ∃ k : Nat, k ≤ n ∧ i = .int .i64 k ∧ Hid (l.take k = m.take k) ∧ Hid (Below w.heap.size w wr)) (fun i _ => n - (intOf i).toNat)
    case atStart => exact ⟨0, by omega, rfl, rfl, BR.out⟩
    case round =>
      clear BR
      obtain ⟨k, hk, rfl, T, B⟩ := hrel
      obtain ⟨wi, rfl⟩ : ∃ wx, wx = wr := ⟨_, rfl⟩
      have hk0 : (0 : Int) ≤ (k : Int) := by omega
      by_cases hlt : k < n
      · have hlk : (k : Int) < (n : Int) := by omega
        obtain ⟨b, o, p, r, rfl, hb, hp, pa, R⟩ := (H1.out.ext B.out).at_ hlt
        obtain ⟨b2, o2, q, s, rfl, hb2, hq, qa, S⟩ := (H2.out.ext B.out).at_ hlt
        have RH := Lib.hid R
        have SH := Lib.hid S
        have PA := Lib.hid pa
        have QA := Lib.hid qa
        have hr4 : Hid ((Tryz.prog.info? 64).map (·.size) = some r.length) := by rw [Hid, pa.len4]; exact infoPat
        have hs4 : Hid ((Tryz.prog.info? 64).map (·.size) = some s.length) := by rw [Hid, qa.len4]; exact infoPat
        have r4 := Lib.hid pa.len4
        have s4 := Lib.hid qa.len4
        have r1 : Hid (r.toArray.all (·.oneCell') = true) := all_oneCell_toArray pa.one
        have s1 : Hid (s.toArray.all (·.oneCell') = true) := all_oneCell_toArray qa.one
        have YES := Lib.hid (fun h : p = q => takeEq_snoc T.out hp (h ▸ hq))
        have NO := Lib.hid (fun h : p ≠ q => takeEq_no hp hq h)
        have HB := Lib.hid hb
        have HB2 := Lib.hid hb2
        have K0 : Hid (Blk (wi.alloc (.cells #[.int .u8 0, .int .u16 0, .slice none 0 0, .slice none 0 0] 64)) wi.heap.size 64 #[.int .u8 0, .int .u16 0, .slice none 0 0, .slice none 0 0]) := Blk.new _ _ _
        have B1 : Hid (Below wi.heap.size wi ((wi.alloc (.cells #[.int .u8 0, .int .u16 0, .slice none 0 0, .slice none 0 0] 64)).setRow wi.heap.size r.toArray)) := below_setRow (below_new _ _) (Nat.le_refl _) _
        have hsz : Hid ((Tryz.prog.info? 64).map (·.size) = some r.toArray.size) := by rw [Hid, List.size_toArray]; exact hr4.out
        have hsz2 : Hid ((Tryz.prog.info? 64).map (·.size) = some s.toArray.size) := by rw [Hid, List.size_toArray]; exact hs4.out
        clear R S hb hb2 hp hq pa qa
        go_upto_region 6 with (first
          | (refine wpList_load_mid rfl 64 _ (by rfl) b (o + k * 4) (by rfl) _ _ RH.out underPat rfl hr4.out ?_)
          | (refine wpList_alloced (allocPat _) ?_)
          | (refine wpList_store_row rfl 64 _ _ (by rfl) wi.heap.size r.toArray (by rfl) (by rfl) _ _ K0.out hsz.out (by simp only [List.size_toArray, r4.out]; rfl) r1.out ?_))
        have K1 : Hid (Blk ((wi.alloc (.cells #[.int .u8 0, .int .u16 0, .slice none 0 0, .slice none 0 0] 64)).setRow wi.heap.size r.toArray) wi.heap.size 64 r.toArray) := K0.out.row _
        have SH1 := Lib.hid (rangeAt_below SH.out B1.out HB2.out)
        have PA1 := Lib.hid (PA.out.ext B1.out)
        have QA1 := Lib.hid (QA.out.ext B1.out)
        have BB1 := Lib.hid (ext_trans B.out B1.out)
        generalize ((wi.alloc (.cells #[.int .u8 0, .int .u16 0, .slice none 0 0, .slice none 0 0] 64)).setRow wi.heap.size r.toArray) = w4 at *
        obtain ⟨g1, hg1⟩ : ∃ g, g = wi.heap.size := ⟨_, rfl⟩
        rw [← hg1] at K1 ⊢
        replace hg1 := Lib.hid hg1
        clear K0 SH PA QA RH B B1 hsz
        have K2 : Hid (Blk (w4.alloc (.cells #[.int .u8 0, .int .u16 0, .slice none 0 0, .slice none 0 0] 64)) w4.heap.size 64 #[.int .u8 0, .int .u16 0, .slice none 0 0, .slice none 0 0]) := Blk.new _ _ _
        have B2 : Hid (Below w4.heap.size w4 ((w4.alloc (.cells #[.int .u8 0, .int .u16 0, .slice none 0 0, .slice none 0 0] 64)).setRow w4.heap.size s.toArray)) := below_setRow (below_new _ _) (Nat.le_refl _) _
        go_upto_region 7 with (first
          | (refine wpList_load_mid rfl 64 _ (by rfl) b2 (o2 + k * 4) (by rfl) _ _ SH1.out underPat rfl hs4.out ?_)
          | (refine wpList_alloced (allocPat _) ?_)
          | (refine wpList_store_row rfl 64 _ _ (by rfl) w4.heap.size s.toArray (by rfl) (by rfl) _ _ K2.out hsz2.out (by simp only [List.size_toArray, s4.out]; rfl) s1.out ?_))
        have K3 : Hid (Blk ((w4.alloc (.cells #[.int .u8 0, .int .u16 0, .slice none 0 0, .slice none 0 0] 64)).setRow w4.heap.size s.toArray) w4.heap.size 64 s.toArray) := K2.out.row _
        have PA2 := Lib.hid (PA1.out.ext B2.out)
        have QA2 := Lib.hid (QA1.out.ext B2.out)
        have KK1 := Lib.hid (K1.out.ext B2.out)
        have BB2 := Lib.hid (ext_trans BB1.out B2.out)
        generalize ((w4.alloc (.cells #[.int .u8 0, .int .u16 0, .slice none 0 0, .slice none 0 0] 64)).setRow w4.heap.size s.toArray) = w6 at *
        obtain ⟨g2, hg2⟩ : ∃ g, g = w4.heap.size := ⟨_, rfl⟩
        rw [← hg2] at K3 ⊢
        replace hg2 := Lib.hid hg2
        clear K2 SH1 PA1 QA1 K1 BB1 B2
        have HS := Lib.hid (psame p q w6 r s PA2.out QA2.out)
        have hszr : Hid ((Tryz.prog.info? 64).map (·.size) = some r.toArray.size) := by rw [Hid, List.size_toArray]; exact hr4.out
        clear PA2 QA2
        by_cases hpq : p = q
        · have N := Lib.hid (YES.out hpq)
          rw [decide_eq_true hpq] at HS
          clear YES NO hpq
          go_wp2_with (first
            | (refine wpList_load_row rfl 64 _ (by rfl) g1 (by rfl) _ _ _ _ KK1.out underPat rfl hszr.out ?_)
            | (refine wpList_load_row rfl 64 _ (by rfl) g2 (by rfl) _ _ _ _ K3.out underPat rfl hsz2.out ?_))
          refine HS.out.mono ?_
          rintro e w7 ⟨rfl, b7⟩
          have B7 := Lib.hid (ext_trans BB2.out b7)
          clear b7
          go_wp2_with fail
          go_roundw
          case rel => exact ⟨k + 1, by omega, by go_num, N.out, B7.out⟩
          case measure => simp [intOf]; omega
        · have N := Lib.hid (NO.out hpq)
          rw [decide_eq_false hpq] at HS
          clear YES NO hpq
          go_wp2_with (first
            | (refine wpList_load_row rfl 64 _ (by rfl) g1 (by rfl) _ _ _ _ KK1.out underPat rfl hszr.out ?_)
            | (refine wpList_load_row rfl 64 _ (by rfl) g2 (by rfl) _ _ _ _ K3.out underPat rfl hsz2.out ?_))
          refine HS.out.mono ?_
          rintro e w7 ⟨rfl, b7⟩
          have B7 := Lib.hid (ext_trans BB2.out b7)
          clear b7
          go_wp2_with fail
          go_ret
          exact ⟨ret_bool (decide_eq_false N.out).symm, B7.out⟩
      · have hlk : ¬ (k : Int) < (n : Int) := by omega
        have N : Hid (l = m) := by
          have := T.out
          rwa [List.take_of_length_le (by rw [e1.out]; omega), List.take_of_length_le (by rw [e2.out]; omega)] at this
        go_wp2
        go_ret
        exact ⟨ret_bool (decide_eq_true N.out).symm, B.out⟩
  · have zn : ((n : Int) != (n' : Int)) = true := by rw [bne_iff_ne]; omega
    have N : Hid (decide (l = m) = false) := decide_eq_false fun e => hnn (by rw [← e1, ← e2, e])
    have BR := Lib.hid (Below.refl w.heap.size w)
    clear h1 h2 e1 e2
    go_enter Tryz.func71, Tryz.ntmps71
    go_wp2_with fail
    go_ret
    exact ⟨ret_bool N.out.symm, BR.out⟩
end Go.Proofs.YtdafiipedlglpaaGreatDoor
