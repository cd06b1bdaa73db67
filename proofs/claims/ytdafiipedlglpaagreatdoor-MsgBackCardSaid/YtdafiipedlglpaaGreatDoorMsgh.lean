/- Whether two messages are the same: walked, the program's and the document's. -/
import Derived.Test.YtdafiipedlglpaaGreatDoorMsgs
namespace Go.Proofs.YtdafiipedlglpaaGreatDoor
open Go.RowKit

section
variable {ops : Array Oper} {rest : List Oper} {a : Act} {w : World} {Q : Exit → Act → World → Prop} {d : Option Tmp} {ty t rt : TypeId} {pos : String} {after : Array Edge} {gd : Option (Nat × Bool)}
theorem ldV34 {x : Operand} {b k : Nat} {cs : List Value} (hc : w.rangeAt b k cs) (hi : (Tryz.prog.info? 24).map (·.size) = some cs.length) (hx : a.eval x = .pointer (some ⟨b, k, none⟩)) (hw : Region.wanted ⟨d, .load 24 x, ty, pos, after, gd⟩ (yielded ops a.tmps) = true)
    (h : wpList Tryz.prog ops Q rest (a.put d (.agg cs.toArray)) w) : wpList Tryz.prog ops Q (⟨d, .load 24 x, ty, pos, after, gd⟩ :: rest) a w := wpList_load_midG hw _ x rfl b k hx cs _ hc under64 rfl hi h
theorem ldB34 {x : Operand} {b k : Nat} {cs : List Value} (hc : w.rangeAt b k cs) (hi : (Tryz.prog.info? 27).map (·.size) = some cs.length) (hx : a.eval x = .pointer (some ⟨b, k, none⟩)) (hw : Region.wanted ⟨d, .load 27 x, ty, pos, after, gd⟩ (yielded ops a.tmps) = true)
    (h : wpList Tryz.prog ops Q rest (a.put d (.agg cs.toArray)) w) : wpList Tryz.prog ops Q (⟨d, .load 27 x, ty, pos, after, gd⟩ :: rest) a w := wpList_load_midG hw _ x rfl b k hx cs _ hc underBl rfl hi h
theorem cmp34 {op : BinOp} {x y : Operand} {xv yv v : Value} (hr : (binOp op t xv yv).run Tryz.prog w = .ok v w) (hx : a.eval x = xv) (hy : a.eval y = yv) (hg : (eqGuard op t x y xv yv).run Tryz.prog w = .ok () w) (hw : Region.wanted ⟨d, .binOp op t x y rt, ty, pos, after, gd⟩ (yielded ops a.tmps) = true)
    (h : wpList Tryz.prog ops Q rest (a.put d v) w) : wpList Tryz.prog ops Q (⟨d, .binOp op t x y rt, ty, pos, after, gd⟩ :: rest) a w := wpList_compG hw hx hy hg hr h
end
theorem neqv34 (a b : List Int) (ha : VecOk a) (hb : VecOk b) (w : World) : (binOp .neq 24 (.agg (vecA a)) (.agg (vecA b))).run Tryz.prog w = .ok (.bool (!decide (a = b))) w :=
  run_neq_ints under64 under16 isAgg16 sizeOf16 a b ha.len hb.len w
theorem eqgv34 (x y : Operand) (a b : List Int) (w : World) : (eqGuard .eql 24 x y (.agg (vecA a)) (.agg (vecA b))).run Tryz.prog w = .ok () w := by
  simp [eqGuard, go_sem]
theorem neqgv34 (x y : Operand) (a b : List Int) (w : World) : (eqGuard .neq 24 x y (.agg (vecA a)) (.agg (vecA b))).run Tryz.prog w = .ok () w := by
  simp [eqGuard, go_sem]
theorem neqb34 (xs ys : List Nat) (hx : BlOk xs) (hy : BlOk ys) (w : World) : (binOp .neq 27 (.agg (encBl xs).toArray) (.agg (encBl ys).toArray)).run Tryz.prog w = .ok (.bool (!decide (xs = ys))) w := by
  rw [bl_ints, bl_ints, ← cast_inj]
  exact run_neq_ints underBl (by kernel_rfl) (fun u => by kernel_rfl) (fun u => by kernel_rfl) _ _ (by simp [hx.1]) (by simp [hy.1]) w
theorem neqgb34 (x y : Operand) (xs ys : List Nat) (hx : BlOk xs) (hy : BlOk ys) (w : World) : (eqGuard .neq 27 x y (.agg (encBl xs).toArray) (.agg (encBl ys).toArray)).run Tryz.prog w = .ok () w := by
  obtain ⟨a, b, c, d, rfl⟩ := blOk_four hx
  obtain ⟨a', b', c', d', rfl⟩ := blOk_four hy
  unfold encBl
  simp [eqGuard, go_sem]
theorem sameM_form (a b : MsgV) : decide (a = b) = (decide (a.1.1.val = b.1.1.val) && (decide (a.1.2.1.val = b.1.2.1.val) && (decide (a.1.2.2.val = b.1.2.2.val) && (decide (a.2.1 = b.2.1) && (decide (a.2.2.1 = b.2.2.1) && decide (a.2.2.2 = b.2.2.2)))))) := by
  simp only [← Bool.decide_and]
  apply decide_eq_decide.2
  constructor
  · rintro rfl; exact ⟨rfl, rfl, rfl, rfl, rfl, rfl⟩
  · rintro ⟨h1, h2, h3, h4, h5, h6⟩
    exact Prod.ext (Prod.ext (Fin.ext h1) (Prod.ext (Fin.ext h2) (Fin.ext h3))) (Prod.ext h4 (Prod.ext h5 h6))
theorem msg_facts {w : World} {g : Nat} {m : MsgV} {A : Option Addr} {n c : Nat} (ho : MsgOk m) (K : Blk w g 30 (msgC m A n c).toArray) :
    w.cell? ⟨g, 0, none⟩ = some (.int .u8 ((m.1.1.val : Nat) : Int)) ∧ w.cell? ⟨g, 1, none⟩ = some (.int .u8 ((m.1.2.1.val : Nat) : Int)) ∧ w.cell? ⟨g, 2, none⟩ = some (.int .u8 ((m.1.2.2.val : Nat) : Int)) ∧ w.cell? ⟨g, 71, none⟩ = some (.slice A n c) ∧ w.rangeAt g 3 (vecK m.2.1) ∧ w.rangeAt g 67 (encBl m.2.2.1) :=
  ⟨msg_kind K, msg_from K, msg_to K, msg_pats ho K, msg_vec ho K, msg_bl ho K⟩
set_option maxRecDepth 100000 in
set_option maxHeartbeats 8000000 in
theorem msgSame_any (a b : MsgV) (w : World) (ca cb : List Value) (ha : MsgAt w ca a) (hb : MsgAt w cb b) : Calls Tryz.prog 17 #[.agg ca.toArray, .agg cb.toArray] w (RetB w (.bool (decide (a = b)))) := by
  obtain ⟨A, c, rfl, HP⟩ := ha.ex
  obtain ⟨B, d, rfl, HQ⟩ := hb.ex
  have hs := ha.small
  have hs' := hb.small
  have K1 : Hid (Blk ((w.alloc (.cells (msgC a A a.2.2.2.length c).toArray 30)).alloc (.cells (msgC b B b.2.2.2.length d).toArray 30)) w.heap.size 30 (msgC a A a.2.2.2.length c).toArray) := (Blk.new _ _ _).alloc _
  have K2 : Hid (Blk ((w.alloc (.cells (msgC a A a.2.2.2.length c).toArray 30)).alloc (.cells (msgC b B b.2.2.2.length d).toArray 30)) (w.heap.size + 1) 30 (msgC b B b.2.2.2.length d).toArray) := Blk.newAt (by simp) _ _
  have B0 : Hid (Below w.heap.size w ((w.alloc (.cells (msgC a A a.2.2.2.length c).toArray 30)).alloc (.cells (msgC b B b.2.2.2.length d).toArray 30))) := ((Below.refl _ _).alloc (Nat.le_refl _) _).alloc (by simp) _
  have F1 := Lib.hid (fun (u : World) (g : Nat) (K : Blk u g 30 (msgC a A a.2.2.2.length c).toArray) => msg_facts ha.ok K)
  have F2 := Lib.hid (fun (u : World) (g : Nat) (K : Blk u g 30 (msgC b B b.2.2.2.length d).toArray) => msg_facts hb.ok K)
  have H1 := Lib.hid (HP.ext B0.out)
  have H2 := Lib.hid (HQ.ext B0.out)
  have lv1 : Hid ((Tryz.prog.info? 24).map (·.size) = some (vecK a.2.1).length) := by rw [Hid, vecK_len ha.ok.vec]; exact info64
  have lv2 : Hid ((Tryz.prog.info? 24).map (·.size) = some (vecK b.2.1).length) := by rw [Hid, vecK_len hb.ok.vec]; exact info64
  have lb1 : Hid ((Tryz.prog.info? 27).map (·.size) = some (encBl a.2.2.1).length) := by rw [Hid, encBl_len ha.ok.bl]; exact infoBl
  have lb2 : Hid ((Tryz.prog.info? 27).map (·.size) = some (encBl b.2.2.1).length) := by rw [Hid, encBl_len hb.ok.bl]; exact infoBl
  have EV := Lib.hid (fun u => eql_vec a.2.1 b.2.1 ha.ok.vec hb.ok.vec u)
  have EB := Lib.hid (fun u => bl_eq a.2.2.1 b.2.2.1 ha.ok.bl hb.ok.bl u)
  have GV := Lib.hid (fun x y u => eqgv34 x y a.2.1 b.2.1 u)
  have GB := Lib.hid (fun x y u => bl_guard x y a.2.2.1 b.2.2.1 ha.ok.bl hb.ok.bl u)
  have E := Lib.hid (sameM_form a b)
  clear ha hb HP HQ
  generalize decide (a = b) = G at *
  obtain ⟨⟨⟨k, hk⟩, ⟨f, hf⟩, ⟨t, ht⟩⟩, v, x, ps⟩ := a
  obtain ⟨⟨⟨k', hk'⟩, ⟨f', hf'⟩, ⟨t', ht'⟩⟩, v', x', qs⟩ := b
  dsimp only at *
  generalize decide (v = v') = bv at *
  generalize decide (x = x') = bx at *
  obtain ⟨n, hn⟩ : ∃ n, n = ps.length := ⟨_, rfl⟩
  obtain ⟨n', hn'⟩ : ∃ n, n = qs.length := ⟨_, rfl⟩
  rw [← hn] at K1 K2 B0 F1 H1 H2 hs ⊢
  rw [← hn'] at K1 K2 B0 F2 H1 H2 hs' ⊢
  replace hn := Lib.hid hn
  replace hn' := Lib.hid hn'
  unfold maxLen at hs hs'
  go_enter Tryz.func17, Tryz.ntmps17
  go_upto_region 1 with fail
  generalize ((w.alloc (.cells (msgC ((⟨k, hk⟩, ⟨f, hf⟩, ⟨t, ht⟩), v, x, ps) A n c).toArray 30)).alloc (.cells (msgC ((⟨k', hk'⟩, ⟨f', hf'⟩, ⟨t', ht'⟩), v', x', qs) B n' d).toArray 30)) = w2 at *
  generalize (msgC ((⟨k, hk⟩, ⟨f, hf⟩, ⟨t, ht⟩), v, x, ps) A n c).toArray = c1 at *
  generalize (msgC ((⟨k', hk'⟩, ⟨f', hf'⟩, ⟨t', ht'⟩), v', x', qs) B n' d).toArray = c2 at *
  obtain ⟨g', hg'⟩ : ∃ g, g = w.heap.size + 1 := ⟨_, rfl⟩
  rw [← hg'] at K2 ⊢
  replace hg' := Lib.hid hg'
  obtain ⟨g, hg⟩ : ∃ g, g = w.heap.size := ⟨_, rfl⟩
  rw [← hg] at K1 ⊢
  replace hg := Lib.hid hg
  obtain ⟨y0, y1, y2, y71, RV, RB⟩ := F1.out w2 g K1.out
  obtain ⟨z0, z1, z2, z71, SV, SB⟩ := F2.out w2 g' K2.out
  have RV := Lib.hid RV
  have RB := Lib.hid RB
  have SV := Lib.hid SV
  have SB := Lib.hid SB
  by_cases h0 : k = k'
  case neg =>
    have q : ((k : Int) == (k' : Int)) = false := by rw [beq_eq_false_iff_ne]; omega
    have D : Hid (decide (k = k') = false) := decide_eq_false h0
    go_wp2_with fail
    go_ret
    exact ⟨ret_bool (by rw [E.out, D.out]; rfl), B0.out⟩
  have q0 : ((k : Int) == (k' : Int)) = true := by rw [beq_iff_eq]; omega
  rw [decide_eq_true h0, Bool.true_and] at E
  replace h0 := Lib.hid h0
  by_cases h1 : f = f'
  case neg =>
    have q : ((f : Int) == (f' : Int)) = false := by rw [beq_eq_false_iff_ne]; omega
    have D : Hid (decide (f = f') = false) := decide_eq_false h1
    go_wp2_with fail
    go_ret
    exact ⟨ret_bool (by rw [E.out, D.out]; rfl), B0.out⟩
  have q1 : ((f : Int) == (f' : Int)) = true := by rw [beq_iff_eq]; omega
  rw [decide_eq_true h1, Bool.true_and] at E
  replace h1 := Lib.hid h1
  by_cases h2 : t = t'
  case neg =>
    have q : ((t : Int) == (t' : Int)) = false := by rw [beq_eq_false_iff_ne]; omega
    have D : Hid (decide (t = t') = false) := decide_eq_false h2
    go_wp2_with fail
    go_ret
    exact ⟨ret_bool (by rw [E.out, D.out]; rfl), B0.out⟩
  have q2 : ((t : Int) == (t' : Int)) = true := by rw [beq_iff_eq]; omega
  rw [decide_eq_true h2, Bool.true_and] at E
  replace h2 := Lib.hid h2
  cases bv
  case false =>
    go_wp2_with (first
      | ((with_reducible refine ldV34 RV.out lv1.out ?_ ?_ ?_); rfl; kernel_rfl)
      | ((with_reducible refine ldV34 SV.out lv2.out ?_ ?_ ?_); rfl; kernel_rfl)
      | ((with_reducible refine ldB34 RB.out lb1.out ?_ ?_ ?_); rfl; kernel_rfl)
      | ((with_reducible refine ldB34 SB.out lb2.out ?_ ?_ ?_); rfl; kernel_rfl)
      | ((with_reducible refine cmp34 (EV.out _) ?_ ?_ ?_ ?_ ?_); rfl; rfl; exact GV.out _ _ _; kernel_rfl)
      | ((with_reducible refine cmp34 (EB.out _) ?_ ?_ ?_ ?_ ?_); rfl; rfl; exact GB.out _ _ _; kernel_rfl))
    go_ret
    exact ⟨ret_bool (by rw [E.out]; rfl), B0.out⟩
  rw [Bool.true_and] at E
  cases bx
  case false =>
    go_wp2_with (first
      | ((with_reducible refine ldV34 RV.out lv1.out ?_ ?_ ?_); rfl; kernel_rfl)
      | ((with_reducible refine ldV34 SV.out lv2.out ?_ ?_ ?_); rfl; kernel_rfl)
      | ((with_reducible refine ldB34 RB.out lb1.out ?_ ?_ ?_); rfl; kernel_rfl)
      | ((with_reducible refine ldB34 SB.out lb2.out ?_ ?_ ?_); rfl; kernel_rfl)
      | ((with_reducible refine cmp34 (EV.out _) ?_ ?_ ?_ ?_ ?_); rfl; rfl; exact GV.out _ _ _; kernel_rfl)
      | ((with_reducible refine cmp34 (EB.out _) ?_ ?_ ?_ ?_ ?_); rfl; rfl; exact GB.out _ _ _; kernel_rfl))
    go_ret
    exact ⟨ret_bool (by rw [E.out]; rfl), B0.out⟩
  rw [Bool.true_and] at E
  have HE := Lib.hid (eqf34_any ps qs w2 A B n n' c d H1.out H2.out (by unfold maxLen; omega) (by unfold maxLen; omega))
  go_wp2_with (first
    | ((with_reducible refine ldV34 RV.out lv1.out ?_ ?_ ?_); rfl; kernel_rfl)
    | ((with_reducible refine ldV34 SV.out lv2.out ?_ ?_ ?_); rfl; kernel_rfl)
    | ((with_reducible refine ldB34 RB.out lb1.out ?_ ?_ ?_); rfl; kernel_rfl)
    | ((with_reducible refine ldB34 SB.out lb2.out ?_ ?_ ?_); rfl; kernel_rfl)
    | ((with_reducible refine cmp34 (EV.out _) ?_ ?_ ?_ ?_ ?_); rfl; rfl; exact GV.out _ _ _; kernel_rfl)
    | ((with_reducible refine cmp34 (EB.out _) ?_ ?_ ?_ ?_ ?_); rfl; rfl; exact GB.out _ _ _; kernel_rfl))
  refine HE.out.mono ?_
  rintro e w3 ⟨rfl, b3⟩
  have B3 := Lib.hid (B0.out.trans (b3.mono B0.out.size))
  clear b3
  go_wp2_with fail
  go_ret
  exact ⟨ret_bool E.out.symm, B3.out⟩
set_option maxRecDepth 100000 in
set_option maxHeartbeats 8000000 in
theorem rmsgSame_any (a b : MsgV) (w : World) (ca cb : List Value) (ha : MsgAt w ca a) (hb : MsgAt w cb b) : Calls Tryz.prog 18 #[.agg ca.toArray, .agg cb.toArray] w (RetB w (.bool (decide (a = b)))) := by
  obtain ⟨A, c, rfl, HP⟩ := ha.ex
  obtain ⟨B, d, rfl, HQ⟩ := hb.ex
  have hs := ha.small
  have hs' := hb.small
  have K1 : Hid (Blk ((w.alloc (.cells (msgC a A a.2.2.2.length c).toArray 30)).alloc (.cells (msgC b B b.2.2.2.length d).toArray 30)) w.heap.size 30 (msgC a A a.2.2.2.length c).toArray) := (Blk.new _ _ _).alloc _
  have K2 : Hid (Blk ((w.alloc (.cells (msgC a A a.2.2.2.length c).toArray 30)).alloc (.cells (msgC b B b.2.2.2.length d).toArray 30)) (w.heap.size + 1) 30 (msgC b B b.2.2.2.length d).toArray) := Blk.newAt (by simp) _ _
  have B0 : Hid (Below w.heap.size w ((w.alloc (.cells (msgC a A a.2.2.2.length c).toArray 30)).alloc (.cells (msgC b B b.2.2.2.length d).toArray 30))) := ((Below.refl _ _).alloc (Nat.le_refl _) _).alloc (by simp) _
  have F1 := Lib.hid (fun (u : World) (g : Nat) (K : Blk u g 30 (msgC a A a.2.2.2.length c).toArray) => msg_facts ha.ok K)
  have F2 := Lib.hid (fun (u : World) (g : Nat) (K : Blk u g 30 (msgC b B b.2.2.2.length d).toArray) => msg_facts hb.ok K)
  have H1 := Lib.hid (HP.ext B0.out)
  have H2 := Lib.hid (HQ.ext B0.out)
  have lv1 : Hid ((Tryz.prog.info? 24).map (·.size) = some (vecK a.2.1).length) := by rw [Hid, vecK_len ha.ok.vec]; exact info64
  have lv2 : Hid ((Tryz.prog.info? 24).map (·.size) = some (vecK b.2.1).length) := by rw [Hid, vecK_len hb.ok.vec]; exact info64
  have lb1 : Hid ((Tryz.prog.info? 27).map (·.size) = some (encBl a.2.2.1).length) := by rw [Hid, encBl_len ha.ok.bl]; exact infoBl
  have lb2 : Hid ((Tryz.prog.info? 27).map (·.size) = some (encBl b.2.2.1).length) := by rw [Hid, encBl_len hb.ok.bl]; exact infoBl
  have EV := Lib.hid (fun u => neqv34 a.2.1 b.2.1 ha.ok.vec hb.ok.vec u)
  have EB := Lib.hid (fun u => neqb34 a.2.2.1 b.2.2.1 ha.ok.bl hb.ok.bl u)
  have GV := Lib.hid (fun x y u => neqgv34 x y a.2.1 b.2.1 u)
  have GB := Lib.hid (fun x y u => neqgb34 x y a.2.2.1 b.2.2.1 ha.ok.bl hb.ok.bl u)
  have E := Lib.hid (sameM_form a b)
  clear ha hb HP HQ
  generalize decide (a = b) = G at *
  obtain ⟨⟨⟨k, hk⟩, ⟨f, hf⟩, ⟨t, ht⟩⟩, v, x, ps⟩ := a
  obtain ⟨⟨⟨k', hk'⟩, ⟨f', hf'⟩, ⟨t', ht'⟩⟩, v', x', qs⟩ := b
  dsimp only at *
  generalize decide (v = v') = bv at *
  generalize decide (x = x') = bx at *
  obtain ⟨n, hn⟩ : ∃ n, n = ps.length := ⟨_, rfl⟩
  obtain ⟨n', hn'⟩ : ∃ n, n = qs.length := ⟨_, rfl⟩
  rw [← hn] at K1 K2 B0 F1 H1 H2 hs ⊢
  rw [← hn'] at K1 K2 B0 F2 H1 H2 hs' ⊢
  replace hn := Lib.hid hn
  replace hn' := Lib.hid hn'
  unfold maxLen at hs hs'
  go_enter Tryz.func18, Tryz.ntmps18
  go_upto_region 1 with fail
  generalize ((w.alloc (.cells (msgC ((⟨k, hk⟩, ⟨f, hf⟩, ⟨t, ht⟩), v, x, ps) A n c).toArray 30)).alloc (.cells (msgC ((⟨k', hk'⟩, ⟨f', hf'⟩, ⟨t', ht'⟩), v', x', qs) B n' d).toArray 30)) = w2 at *
  generalize (msgC ((⟨k, hk⟩, ⟨f, hf⟩, ⟨t, ht⟩), v, x, ps) A n c).toArray = c1 at *
  generalize (msgC ((⟨k', hk'⟩, ⟨f', hf'⟩, ⟨t', ht'⟩), v', x', qs) B n' d).toArray = c2 at *
  obtain ⟨g', hg'⟩ : ∃ g, g = w.heap.size + 1 := ⟨_, rfl⟩
  rw [← hg'] at K2 ⊢
  replace hg' := Lib.hid hg'
  obtain ⟨g, hg⟩ : ∃ g, g = w.heap.size := ⟨_, rfl⟩
  rw [← hg] at K1 ⊢
  replace hg := Lib.hid hg
  obtain ⟨y0, y1, y2, y71, RV, RB⟩ := F1.out w2 g K1.out
  obtain ⟨z0, z1, z2, z71, SV, SB⟩ := F2.out w2 g' K2.out
  have RV := Lib.hid RV
  have RB := Lib.hid RB
  have SV := Lib.hid SV
  have SB := Lib.hid SB
  by_cases h0 : k = k'
  case neg =>
    have q : ((k : Int) != (k' : Int)) = true := by rw [bne_iff_ne]; omega
    have D : Hid (decide (k = k') = false) := decide_eq_false h0
    go_wp2_with fail
    go_ret
    exact ⟨ret_bool (by rw [E.out, D.out]; rfl), B0.out⟩
  have q0 : ((k : Int) != (k' : Int)) = false := by rw [bne_eq_false_iff_eq]; omega
  rw [decide_eq_true h0, Bool.true_and] at E
  replace h0 := Lib.hid h0
  by_cases h1 : f = f'
  case neg =>
    have q : ((f : Int) != (f' : Int)) = true := by rw [bne_iff_ne]; omega
    have D : Hid (decide (f = f') = false) := decide_eq_false h1
    go_wp2_with fail
    go_ret
    exact ⟨ret_bool (by rw [E.out, D.out]; rfl), B0.out⟩
  have q1 : ((f : Int) != (f' : Int)) = false := by rw [bne_eq_false_iff_eq]; omega
  rw [decide_eq_true h1, Bool.true_and] at E
  replace h1 := Lib.hid h1
  by_cases h2 : t = t'
  case neg =>
    have q : ((t : Int) != (t' : Int)) = true := by rw [bne_iff_ne]; omega
    have D : Hid (decide (t = t') = false) := decide_eq_false h2
    go_wp2_with fail
    go_ret
    exact ⟨ret_bool (by rw [E.out, D.out]; rfl), B0.out⟩
  have q2 : ((t : Int) != (t' : Int)) = false := by rw [bne_eq_false_iff_eq]; omega
  rw [decide_eq_true h2, Bool.true_and] at E
  replace h2 := Lib.hid h2
  cases bv
  case false =>
    go_wp2_with (first
      | ((with_reducible refine ldV34 RV.out lv1.out ?_ ?_ ?_); rfl; kernel_rfl)
      | ((with_reducible refine ldV34 SV.out lv2.out ?_ ?_ ?_); rfl; kernel_rfl)
      | ((with_reducible refine ldB34 RB.out lb1.out ?_ ?_ ?_); rfl; kernel_rfl)
      | ((with_reducible refine ldB34 SB.out lb2.out ?_ ?_ ?_); rfl; kernel_rfl)
      | ((with_reducible refine cmp34 (EV.out _) ?_ ?_ ?_ ?_ ?_); rfl; rfl; exact GV.out _ _ _; kernel_rfl)
      | ((with_reducible refine cmp34 (EB.out _) ?_ ?_ ?_ ?_ ?_); rfl; rfl; exact GB.out _ _ _; kernel_rfl))
    go_ret
    exact ⟨ret_bool (by rw [E.out]; rfl), B0.out⟩
  rw [Bool.true_and] at E
  cases bx
  case false =>
    go_wp2_with (first
      | ((with_reducible refine ldV34 RV.out lv1.out ?_ ?_ ?_); rfl; kernel_rfl)
      | ((with_reducible refine ldV34 SV.out lv2.out ?_ ?_ ?_); rfl; kernel_rfl)
      | ((with_reducible refine ldB34 RB.out lb1.out ?_ ?_ ?_); rfl; kernel_rfl)
      | ((with_reducible refine ldB34 SB.out lb2.out ?_ ?_ ?_); rfl; kernel_rfl)
      | ((with_reducible refine cmp34 (EV.out _) ?_ ?_ ?_ ?_ ?_); rfl; rfl; exact GV.out _ _ _; kernel_rfl)
      | ((with_reducible refine cmp34 (EB.out _) ?_ ?_ ?_ ?_ ?_); rfl; rfl; exact GB.out _ _ _; kernel_rfl))
    go_ret
    exact ⟨ret_bool (by rw [E.out]; rfl), B0.out⟩
  rw [Bool.true_and] at E
  by_cases hnn : n = n'
  case neg =>
    have q : ((n : Int) != (n' : Int)) = true := by rw [bne_iff_ne]; omega
    have D : Hid (decide (ps = qs) = false) := decide_eq_false fun e => hnn (by rw [hn.out, hn'.out, e])
    go_wp2_with (first
      | ((with_reducible refine ldV34 RV.out lv1.out ?_ ?_ ?_); rfl; kernel_rfl)
      | ((with_reducible refine ldV34 SV.out lv2.out ?_ ?_ ?_); rfl; kernel_rfl)
      | ((with_reducible refine ldB34 RB.out lb1.out ?_ ?_ ?_); rfl; kernel_rfl)
      | ((with_reducible refine ldB34 SB.out lb2.out ?_ ?_ ?_); rfl; kernel_rfl)
      | ((with_reducible refine cmp34 (EV.out _) ?_ ?_ ?_ ?_ ?_); rfl; rfl; exact GV.out _ _ _; kernel_rfl)
      | ((with_reducible refine cmp34 (EB.out _) ?_ ?_ ?_ ?_ ?_); rfl; rfl; exact GB.out _ _ _; kernel_rfl))
    go_ret
    exact ⟨ret_bool (by rw [E.out, D.out]), B0.out⟩
  have q : ((n : Int) != (n' : Int)) = false := by rw [bne_eq_false_iff_eq]; omega
  subst hnn
  have BR := Lib.hid (Below.refl w2.heap.size w2)
  go_wp2_with (first
    | ((with_reducible refine ldV34 RV.out lv1.out ?_ ?_ ?_); rfl; kernel_rfl)
    | ((with_reducible refine ldV34 SV.out lv2.out ?_ ?_ ?_); rfl; kernel_rfl)
    | ((with_reducible refine ldB34 RB.out lb1.out ?_ ?_ ?_); rfl; kernel_rfl)
    | ((with_reducible refine ldB34 SB.out lb2.out ?_ ?_ ?_); rfl; kernel_rfl)
    | ((with_reducible refine cmp34 (EV.out _) ?_ ?_ ?_ ?_ ?_); rfl; rfl; exact GV.out _ _ _; kernel_rfl)
    | ((with_reducible refine cmp34 (EB.out _) ?_ ?_ ?_ ?_ ?_); rfl; rfl; exact GB.out _ _ _; kernel_rfl))
  clear y0 y1 y2 y71 z0 z1 z2 z71 RV RB SV SB EV EB GV GB q0 q1 q2 q
  go_loopw [5] (fun i wr => ∃ j : Nat, j ≤ n ∧ i = .int .i64 j ∧ Hid (ps.take j = qs.take j) ∧ Hid (Below w2.heap.size w2 wr)) (fun i _ => n - (intOf i).toNat)
  case atStart => exact ⟨0, by omega, rfl, rfl, BR.out⟩
  case round =>
    clear BR
    obtain ⟨j, hj, rfl, T, BI⟩ := hrel
    obtain ⟨wi, rfl⟩ : ∃ wx, wx = wr := ⟨_, rfl⟩
    have hj0 : (0 : Int) ≤ (j : Int) := by omega
    obtain ⟨_, _, _, y71, _, _⟩ := F1.out wi g (K1.out.ext BI.out)
    obtain ⟨_, _, _, z71, _, _⟩ := F2.out wi g' (K2.out.ext BI.out)
    by_cases hlt : j < n
    · have hlj : (j : Int) < (n : Int) := by omega
      obtain ⟨b, o, p, r, rfl, hb, hp, pa, R⟩ := (H1.out.ext BI.out).at_ hlt
      obtain ⟨b2, o2, q, s, rfl, hb2, hq, qa, S⟩ := (H2.out.ext BI.out).at_ hlt
      have RH : Hid (∀ u, (∃ z : Ext wi, u = z.w) → u.rangeAt b (o + j * 4) r) := by rintro _ ⟨z, rfl⟩; exact rangeAt_below R z.h hb
      have SH : Hid (∀ u, (∃ z : Ext wi, u = z.w) → u.rangeAt b2 (o2 + j * 4) s) := by rintro _ ⟨z, rfl⟩; exact rangeAt_below S z.h hb2
      have yx : ∀ z : Ext wi, z.w.cell? ⟨g, 71, none⟩ = some (.slice (some ⟨b, o, none⟩) n c) := fun z => by rw [z.h.cell (p := ⟨g, 71, none⟩) (K1.out.ext BI.out).lt]; exact y71
      have zx : ∀ z : Ext wi, z.w.cell? ⟨g', 71, none⟩ = some (.slice (some ⟨b2, o2, none⟩) n d) := fun z => by rw [z.h.cell (p := ⟨g', 71, none⟩) (K2.out.ext BI.out).lt]; exact z71
      have hr4 : Hid ((Tryz.prog.info? 64).map (·.size) = some r.length) := by rw [Hid, pa.len4]; exact infoPat
      have hs4 : Hid ((Tryz.prog.info? 64).map (·.size) = some s.length) := by rw [Hid, qa.len4]; exact infoPat
      have YES := Lib.hid (fun h : p = q => takeEq_snoc T.out hp (h ▸ hq))
      have NO := Lib.hid (fun h : p ≠ q => takeEq_no hp hq h)
      have PA := Lib.hid pa
      have QA := Lib.hid qa
      have HS := Lib.hid (fun z : Ext wi => rpsame p q z.w r s (PA.out.ext z.h) (QA.out.ext z.h))
      clear R S hb hb2 hp hq pa qa
      by_cases hpq : p = q
      · have N := Lib.hid (YES.out hpq)
        rw [decide_eq_true hpq] at HS
        clear YES NO hpq
        go_upto_region 6 with fail
        refine wp_region_ext mixedS (by kernel_rfl) ?_
        repeat (first
          | go_big_quiet_skip
          | (refine wpQuiet_load_mid RH.out underPat rfl hr4.out rfl rfl ?_; simp only [List.set_cons_succ, List.set_cons_zero])
          | (refine wpQuiet_load_mid SH.out underPat rfl hs4.out rfl rfl ?_; simp only [List.set_cons_succ, List.set_cons_zero])
          | go_big_quiet_step ((go_at_call 73; exact ext_call (HS.out _))))
        refine wpQuiet_nil ?_
        rintro _ ⟨zz, rfl⟩
        have b4 := zz.h
        generalize zz.w = w4 at *
        have B4 := Lib.hid (ext_trans BI.out b4)
        clear b4 y71 z71 yx zx
        go_wp2_with fail
        go_roundw
        case rel => exact ⟨j + 1, by omega, by go_num, N.out, B4.out⟩
        case measure => simp [intOf]; omega
      · have N := Lib.hid (NO.out hpq)
        rw [decide_eq_false hpq] at HS
        clear YES NO hpq
        go_upto_region 6 with fail
        refine wp_region_ext mixedS (by kernel_rfl) ?_
        repeat (first
          | go_big_quiet_skip
          | (refine wpQuiet_load_mid RH.out underPat rfl hr4.out rfl rfl ?_; simp only [List.set_cons_succ, List.set_cons_zero])
          | (refine wpQuiet_load_mid SH.out underPat rfl hs4.out rfl rfl ?_; simp only [List.set_cons_succ, List.set_cons_zero])
          | go_big_quiet_step ((go_at_call 73; exact ext_call (HS.out _))))
        refine wpQuiet_nil ?_
        rintro _ ⟨zz, rfl⟩
        have b4 := zz.h
        generalize zz.w = w4 at *
        have B4 := Lib.hid (B0.out.trans ((ext_trans BI.out b4).mono B0.out.size))
        clear b4 y71 z71 yx zx
        go_wp2_with fail
        go_ret
        exact ⟨ret_bool (by rw [E.out, decide_eq_false N.out]), B4.out⟩
    · have hlj : ¬ (j : Int) < (n : Int) := by omega
      have N : Hid (ps = qs) := by
        have h := T.out
        rwa [List.take_of_length_le (by have := hn.out; omega), List.take_of_length_le (by have := hn'.out; omega)] at h
      have B4 := Lib.hid (B0.out.trans (BI.out.mono B0.out.size))
      go_wp2_with fail
      go_ret
      exact ⟨ret_bool (by rw [E.out, decide_eq_true N.out]), B4.out⟩
end Go.Proofs.YtdafiipedlglpaaGreatDoor
