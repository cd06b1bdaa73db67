/- What is the same has one fingerprint: walked. -/
import Derived.Test.YtihggkmjalofiaaDoorFinb
import Derived.Test.YtihggkmjalofiaaDoorFind
import Derived.Test.YtihggkmjalofiaaDoorFine
import Derived.Test.YtihggkmjalofiaaDoorPaws
import Derived.Test.YtihggkmjalofiaaDoorLists
import Derived.Test.YtihggkmjalofiaaDoorGen
namespace Go.Proofs.YtihggkmjalofiaaDoor
open Go.RowKit

theorem fews_atF {l : List PatV} {m : Int} (h : fewsB l m = true) : (l.length : Int) ≤ m ∧ ∀ p ∈ l, p.2.1.length ≤ 100 ∧ p.2.2.length ≤ 60 := by
  unfold fewsB at h
  rw [Bool.and_eq_true, decide_eq_true_eq, List.all_eq_true] at h
  refine ⟨h.1, fun p hp => ?_⟩
  have := h.2 p hp
  unfold fewOne fewP at this
  simp only [Bool.and_eq_true, decide_eq_true_eq] at this
  exact ⟨this.1.1, this.2⟩
theorem patAt_copy {w : World} {B : Nat} {p : PatV} {A1 A2 : Option Addr} {c1 c2 : Nat} (o1 : w.ownsRow B 29 2 (.slice A1 p.2.1.length c1) p.2.1.length (p.2.1.flatMap encP)) (o2 : w.ownsRow B 41 8 (.slice A2 p.2.2.length c2) p.2.2.length (p.2.2.flatMap encO))
    (ho : ∀ o ∈ p.2.2, OpV.ok o) (m1 : p.2.1.length ≤ maxLen) (m2 : p.2.2.length ≤ maxLen) : PatAt w (patC p.1 A1 p.2.1.length c1 A2 p.2.2.length c2) p := by
  obtain ⟨A3, c3, e3, _, P3⟩ := PidsAt.of_own o1 rfl
  obtain ⟨A4, c4, e4, _, P4⟩ := OpsAt.of_own o2 rfl ho
  injection e3 with e3 _ _
  injection e4 with e4 _ _
  subst e3
  subst e4
  exact ⟨⟨A1, c1, A2, c2, rfl, P3, P4⟩, m1, m2⟩
theorem uniqU_same (a b : List (List UInt8)) (h : ∀ y ∈ b, y ∈ a) : uniqU (a ++ b) = uniqU a := by
  unfold uniqU
  rw [List.foldl_append]
  have key : ∀ (acc : List (List UInt8)), (∀ y ∈ b, y ∈ acc) → b.foldl addU acc = acc := by
    clear h
    induction b with
    | nil => intro acc _; rfl
    | cons y ys ih =>
      intro acc ha
      rw [List.foldl_cons]
      have : addU acc y = acc := by unfold addU; rw [if_pos (ha y (by simp))]
      rw [this]
      exact ih acc fun z hz => ha z (by simp [hz])
  exact key _ fun y hy => (uniqU_mem a y).2 (h y hy)
theorem twice_uniq (l : List PatV) (m : Nat) : (uniqU ((l ++ l.take m).map fpB)).length = (uniqU (l.map fpB)).length := by
  rw [List.map_append, uniqU_same]
  intro y hy
  obtain ⟨p, hp, rfl⟩ := List.mem_map.1 hy
  exact List.mem_map_of_mem (List.mem_of_mem_take hp)
theorem uniq_pos (l : List PatV) : decide (0 < (uniqU (l.map fpB)).length) = decide (0 < l.length) := by
  cases l with
  | nil => rfl
  | cons p l =>
    have h : fpB p ∈ uniqU ((p :: l).map fpB) := (uniqU_mem _ _).2 (by simp)
    have h2 := List.length_pos_of_mem h
    rw [decide_eq_true h2, decide_eq_true (by simp)]
theorem rows_twice {w : World} {rows : List (List Value)} {l : List PatV} (h : RowsP w rows l) (m : Nat) : RowsP w (rows ++ rows.take m) (l ++ l.take m) := by
  refine ⟨by simp [h.1], fun k r p h1 h2 => ?_⟩
  rcases Nat.lt_or_ge k rows.length with hk | hk
  · rw [List.getElem?_append_left hk] at h1
    rw [List.getElem?_append_left (by rw [← h.1]; exact hk)] at h2
    exact h.2 k r p h1 h2
  · rw [List.getElem?_append_right hk] at h1
    rw [List.getElem?_append_right (by rw [← h.1]; exact hk), ← h.1] at h2
    have hj : k - rows.length < m := by
      rcases Nat.lt_or_ge (k - rows.length) m with hj | hj
      · exact hj
      · rw [List.getElem?_take, if_neg (by omega)] at h1
        cases h1
    rw [List.getElem?_take, if_pos hj] at h1 h2
    exact h.2 _ r p h1 h2
theorem wpL_gF {P : Program} {ops : Array Oper} {rest : List Oper} {o : Oper} {a : Act} {w : World} {Q : Exit → Act → World → Prop} {v : Value} (hw : Region.wanted o (yielded ops a.tmps) = true) (hx : (execOp a.eval o).run P w = .ok (.value v) w)
    (h : wpList P ops Q rest (a.put o.dst v) w) : wpList P ops Q (o :: rest) a w :=
  wpList_wanted hw fun _ hK => by
    unfold Oper.wp
    rw [hx]
    exact hK _ _ h
theorem wpL_opF {P : Program} {ops : Array Oper} {rest : List Oper} {o : Oper} {a : Act} {w : World} {Q : Exit → Act → World → Prop} (hw : Region.wanted o (yielded ops a.tmps) = true)
    (h : ∀ K : Act → World → Prop, (∀ a w, wpList P ops Q rest a w → K a w) → o.wp P a w K Q) : wpList P ops Q (o :: rest) a w := wpList_wanted hw h
theorem grdN (x y : Operand) (a b : List UInt8) (w : World) : (eqGuard .neq 25 x y (.agg (bytesS a)) (.agg (bytesS b))).run Tryd.prog w = .ok () w := by kernel_rfl
theorem neqSame (b : List UInt8) (hb : b.length = 32) (w : World) : (binOp .neq 25 (.agg (bytesS b)) (.agg (bytesS b))).run Tryd.prog w = .ok (.bool false) w := by
  rw [neqF b b hb hb, decide_eq_true rfl]; rfl
theorem leqT (a b : Nat) (h : a ≤ b) (w : World) : (binOp .leq 3 (.int .i64 ((a : Nat) : Int)) (.int .i64 ((b : Nat) : Int))).run Tryd.prog w = .ok (.bool true) w := by
  simp [go_sem, h]
theorem gtrU (a : Nat) (g : Bool) (h : decide (0 < a) = g) (w : World) : (binOp .gtr 3 (.int .i64 ((a : Nat) : Int)) (.int .i64 0)).run Tryd.prog w = .ok (.bool g) w := by
  subst h
  simp [go_sem]
theorem eqBB (g : Bool) (w : World) : (binOp .eql 4 (.bool g) (.bool g)).run Tryd.prog w = .ok (.bool true) w := by
  simp [go_sem]
theorem eqNN (a : Nat) (w : World) : (binOp .eql 3 (.int .i64 ((a : Nat) : Int)) (.int .i64 ((a : Nat) : Int))).run Tryd.prog w = .ok (.bool true) w := by
  simp [go_sem]
theorem convUI (k : Nat) (hk : k < 256) (w : World) : (convert 5 3 (.int .u8 ((k : Nat) : Int))).run Tryd.prog w = .ok (.int .i64 ((k : Nat) : Int)) w := by
  have e : IntKind.i64.wrap ((k : Nat) : Int) = ((k : Nat) : Int) := by rw [IntKind.wrap_i64] <;> omega
  simp [go_sem, e]
theorem add1F (n : Nat) (hn : n ≤ 100) (w : World) : (binOp .add 3 (.int .i64 ((n : Nat) : Int)) (.int .i64 1)).run Tryd.prog w = .ok (.int .i64 ((n + 1 : Nat) : Int)) w := by
  have e : IntKind.i64.wrap (((n : Nat) : Int) + 1) = ((n + 1 : Nat) : Int) := by rw [IntKind.wrap_i64] <;> omega
  simp [go_sem, e]
theorem flat_one {w : World} {rows : List (List Value)} {l : List PatV} (h : RowsP w rows l) : ∀ u ∈ rows.flatten, u.oneCell' = true := by
  intro u hu
  obtain ⟨r, hr, hur⟩ := List.mem_flatten.1 hu
  obtain ⟨k, hk, rfl⟩ := List.getElem_of_mem hr
  have hk' : k < l.length := by rw [← h.1]; exact hk
  exact (h.2 k _ _ (List.getElem?_eq_getElem hk) (List.getElem?_eq_getElem hk')).one u hur
theorem flat4_len : ∀ (rows : List (List Value)), (∀ r ∈ rows, r.length = 4) → rows.flatten.length = rows.length * 4
  | [], _ => rfl
  | r :: rows, h => by
    rw [List.flatten_cons, List.length_append, h r (by simp), flat4_len rows fun x hx => h x (by simp [hx]), List.length_cons]
    omega
theorem cut_rows {w : World} {B n c m : Nat} {A : Option Addr} {rows : List (List Value)} (h4 : ∀ r ∈ rows, r.length = 4) (hn : rows.length = n) (h : Sl w B 4 A n rows.flatten) (hk : m ≤ n) : Sl w B 4 (cutAddr A c 0 4) m (rows.take m).flatten := by
  have hl : (rows.take m).flatten.length = m * 4 := by rw [flat4_len _ fun r hr => h4 r (List.mem_of_mem_take hr), List.length_take, Nat.min_eq_left (by omega)]
  refine ⟨hl, fun hp => ?_⟩
  obtain ⟨b, o, rfl, hb, hcell⟩ := h.2 (by omega)
  refine ⟨b, o, ?_, hb, fun j hj => ?_⟩
  · unfold cutAddr
    split
    · rfl
    · simp [Addr.add_mid]
  · have e0 : rows.flatten = (rows.take m).flatten ++ (rows.drop m).flatten := by rw [← List.flatten_append, List.take_append_drop]
    rw [hcell _ (by omega), e0, List.getElem?_append_left (by omega)]
theorem BE9 {w w' : World} (h : Below w.heap.size w w') : Below w.heap.size w w' := h
set_option maxRecDepth 100000 in
set_option maxHeartbeats 8000000 in
theorem fingerSame_walk (w : World) (l : List PatV) (A : Option Addr) (n c : Nat) (hm : n ≤ maxLen) (hnc : n ≤ c) (h : PatsAt w A n l) (k : Nat) (hk : k < 256) (hK : ShaK w) (hB : ShaB w) :
    Calls Tryd.prog 3 #[.slice A n c, .int .u8 ((k : Nat) : Int)] w (RetB w (.bool true)) := by
  have H := Lib.hid h
  have HLN := Lib.hid h.len
  have HK := Lib.hid hK
  have HB := Lib.hid hB
  clear h hK hB
  go_enter Tryd.func3, Tryd.ntmps3
  have HF := Lib.hid (few20_any l w A n c 12 H.out hm)
  cases hf : fewsB l 12
  · rw [fewsN_false hf] at HF
    go_wp2_with fail
    refine HF.out.mono ?_
    rintro e w3 ⟨rfl, b3⟩
    have B3 := Lib.hid b3
    have HW := Lib.hid (works47 w3 (shaK_ext HK.out b3) (shaB_ext HB.out b3))
    clear b3 HF
    go_wp2_with fail
    refine HW.out.mono ?_
    rintro e w4 ⟨rfl, b4⟩
    have B4 := Lib.hid (B3.out.trans (b4.mono B3.out.size))
    clear b4
    go_wp2_with fail
    go_ret
    exact ⟨rfl, B4.out⟩
  · rw [fewsN_true hf] at HF
    have hn12 : n ≤ 12 := by have h1 := (fews_atF hf).1; have h2 := HLN.out; omega
    have HFW := Lib.hid (fews_atF hf).2
    clear hm hf
    go_wp2_with fail
    refine HF.out.mono ?_
    rintro e w3 ⟨rfl, b3⟩
    have B3 := Lib.hid b3
    clear b3 HF
    have hcF : ∀ args u, (callFunc 6 args).run Tryd.prog u = .ok (.enter 6 args) u := enters_of Tryd.func6 (by kernel_rfl) rfl
    have hcC : ∀ args u, (callFunc 7 args).run Tryd.prog u = .ok (.enter 7 args) u := enters_of Tryd.func7 (by kernel_rfl) rfl
    have hcR : ∀ args u, (callFunc 9 args).run Tryd.prog u = .ok (.enter 9 args) u := enters_of Tryd.func9 (by kernel_rfl) rfl
    have hcU : ∀ args u, (callFunc 8 args).run Tryd.prog u = .ok (.enter 8 args) u := enters_of Tryd.func8 (by kernel_rfl) rfl
    have hcW : ∀ args u, (callFunc 5 args).run Tryd.prog u = .ok (.enter 5 args) u := enters_of Tryd.func5 (by kernel_rfl) rfl
    go_wp2_with fail
    go_loopw [5] (fun i wr => ∃ j : Nat, j ≤ n ∧ i = .int .i64 ((j : Nat) : Int) ∧ Hid (Below w.heap.size w wr)) (fun i _ => n - (intOf i).toNat)
    case atStart => exact ⟨0, by omega, rfl, B3.out⟩
    case round =>
      clear B3
      obtain ⟨j, hj, rfl, B⟩ := hrel
      have hj0 : (0 : Int) ≤ (j : Int) := by omega
      by_cases hlt : j < n
      · have hlk : (j : Int) < (n : Int) := by omega
        obtain ⟨b, o, x, r, rfl, hb, hx, px, hr⟩ := H.out.at_ hlt
        have HL2 := Lib.hid (HFW.out x (List.mem_of_getElem? hx))
        have PX0 := Lib.hid px
        obtain ⟨⟨A1, c1, A2, c2, rfl, _, hops⟩, hm1, hm2⟩ := px
        have HOK := Lib.hid PX0.out.oks
        have HML := Lib.hid (And.intro hm1 hm2)
        have RX := Lib.hid (fun (u : World) (hu : Below wr.heap.size wr u) => rangeAt_below hr (B.out.trans (hu.mono B.out.size)) hb)
        have PXU := Lib.hid (fun (u : World) (hu : Below wr.heap.size wr u) => PX0.out.ext (B.out.trans (hu.mono B.out.size)))
        have HKr := Lib.hid (shaK_ext HK.out B.out)
        have HBr := Lib.hid (shaB_ext HB.out B.out)
        have HI := Lib.hid (fun u : World => indexPF b o n c j hlt u)
        clear hx hr hops hm1 hm2 hb PX0
        go_upto_region 6 with fail
        try go_frame
        refine wp_region_held (S := fun w' => Below wr.heap.size wr w') mixedS ?_
        change wpAnyH _ _ _ _ _ _ _ _ wr.drew
        have BD : Hid (Below wr.heap.size wr wr.drew) := (Below.refl _ _).drew
        have HKD := Lib.hid (shaK_ext HKr.out BD.out)
        have HBD := Lib.hid (shaB_ext HBr.out BD.out)
        generalize wr.drew = wd at *
        simp only [List.size_toArray, List.length_cons, List.length_nil]
        refine takeV (i := 0) (d := 19) (v := .slice (some ⟨b, o, none⟩) n c) rfl (by kernel_rfl) (by kernel_rfl) (by kernel_rfl) (fun _ _ _ h => h) rfl (fun _ _ => exMove (v := .slice (some ⟨b, o, none⟩) n c) rfl) BD.out ?_
        simp only [Act.put, List.setIfInBounds_toArray, List.set_cons_zero, List.set_cons_succ]
        refine takeV (i := 1) (d := 20) (v := .int .i64 ((j : Nat) : Int)) rfl (by kernel_rfl) (by kernel_rfl) (by kernel_rfl) (fun _ _ _ h => h) rfl (fun _ _ => exMove (v := .int .i64 ((j : Nat) : Int)) rfl) BD.out ?_
        simp only [Act.put, List.setIfInBounds_toArray, List.set_cons_zero, List.set_cons_succ]
        refine takeV (i := 2) (d := 21) (v := .pointer (some ⟨b, o + j * 4, none⟩)) rfl (by kernel_rfl) (by kernel_rfl) (by kernel_rfl) (fun _ _ _ h => h) rfl (fun w' _ => exIndex rfl rfl (HI.out w')) BD.out ?_
        simp only [Act.put, List.setIfInBounds_toArray, List.set_cons_zero, List.set_cons_succ]
        refine takeV (i := 3) (d := 22) (v := .agg (patC x.1 A1 x.2.1.length c1 A2 x.2.2.length c2).toArray) rfl (by kernel_rfl) (by kernel_rfl) (by kernel_rfl) (fun _ _ _ h => h) rfl (fun w' h => exMid rfl (RX.out w' h) underPat rfl infoPat) BD.out ?_
        simp only [Act.put, List.setIfInBounds_toArray, List.set_cons_zero, List.set_cons_succ]
        refine takeV (i := 5) (d := 24) (v := .slice (some ⟨b, o, none⟩) n c) rfl (by kernel_rfl) (by kernel_rfl) (by kernel_rfl) (fun _ _ _ h => h) rfl (fun _ _ => exMove (v := .slice (some ⟨b, o, none⟩) n c) rfl) BD.out ?_
        simp only [Act.put, List.setIfInBounds_toArray, List.set_cons_zero, List.set_cons_succ]
        refine takeV (i := 6) (d := 25) (v := .int .i64 ((j : Nat) : Int)) rfl (by kernel_rfl) (by kernel_rfl) (by kernel_rfl) (fun _ _ _ h => h) rfl (fun _ _ => exMove (v := .int .i64 ((j : Nat) : Int)) rfl) BD.out ?_
        simp only [Act.put, List.setIfInBounds_toArray, List.set_cons_zero, List.set_cons_succ]
        refine takeV (i := 7) (d := 26) (v := .pointer (some ⟨b, o + j * 4, none⟩)) rfl (by kernel_rfl) (by kernel_rfl) (by kernel_rfl) (fun _ _ _ h => h) rfl (fun w' _ => exIndex rfl rfl (HI.out w')) BD.out ?_
        simp only [Act.put, List.setIfInBounds_toArray, List.set_cons_zero, List.set_cons_succ]
        refine takeV (i := 8) (d := 27) (v := .agg (patC x.1 A1 x.2.1.length c1 A2 x.2.2.length c2).toArray) rfl (by kernel_rfl) (by kernel_rfl) (by kernel_rfl) (fun _ _ _ h => h) rfl (fun w' h => exMid rfl (RX.out w' h) underPat rfl infoPat) BD.out ?_
        simp only [Act.put, List.setIfInBounds_toArray, List.set_cons_zero, List.set_cons_succ]
        refine wpAnyH_all (rs := [4]) (by kernel_rfl) (by simp) ?_
        intro i hi
        simp only [List.mem_cons, List.not_mem_nil, or_false] at hi
        subst hi
        refine wpOp_of rfl rfl (wp_called (args := #[.agg (patC x.1 A1 x.2.1.length c1 A2 x.2.2.length c2).toArray]) hcF (by simp only [List.map_toArray, List.map_cons, List.map_nil]; rfl) (fpatch_any x wd _ (PXU.out wd BD.out) HKD.out HBD.out) ?_)
        rintro e w_1 ⟨rfl, h_2⟩
        refine ⟨_, rfl, ext_trans BD.out h_2, ?_⟩
        simp only [Act.put, List.setIfInBounds_toArray, List.set_cons_zero, List.set_cons_succ]
        have B_3 := Lib.hid (ext_trans BD.out h_2)
        have F_4 := Lib.hid (shaK_ext HKD.out h_2)
        have F_5 := Lib.hid (shaB_ext HBD.out h_2)
        clear BD HKD HBD
        clear h_2
        refine wpAnyH_all (rs := [9]) (by kernel_rfl) (by simp) ?_
        intro i hi
        simp only [List.mem_cons, List.not_mem_nil, or_false] at hi
        subst hi
        refine wpOp_of rfl rfl (wp_called (args := #[.agg (patC x.1 A1 x.2.1.length c1 A2 x.2.2.length c2).toArray]) hcC (by simp only [List.map_toArray, List.map_cons, List.map_nil]; rfl) (copy18_any x w_1 _ (PXU.out w_1 B_3.out) (by have := HL2.out.1; omega) (by have := HL2.out.2; omega)) ?_)
        rintro e w_6 ⟨A_9, c_10, A_11, c_12, rfl, o_13, o_14, h_7⟩
        refine ⟨_, rfl, ext_trans B_3.out h_7, ?_⟩
        simp only [Act.put, List.setIfInBounds_toArray, List.set_cons_zero, List.set_cons_succ]
        have P_8 := Lib.hid (patAt_copy o_13 o_14 HOK.out HML.out.1 HML.out.2)
        have B_15 := Lib.hid (ext_trans B_3.out h_7)
        have F_16 := Lib.hid (shaK_ext F_4.out h_7)
        have F_17 := Lib.hid (shaB_ext F_5.out h_7)
        clear B_3 F_4 F_5
        clear h_7 o_13 o_14
        refine wpAnyH_all (rs := [10]) (by kernel_rfl) (by simp) ?_
        intro i hi
        simp only [List.mem_cons, List.not_mem_nil, or_false] at hi
        subst hi
        refine wpOp_of rfl rfl (wp_called (args := #[.agg (patC x.1 A_9 x.2.1.length c_10 A_11 x.2.2.length c_12).toArray]) hcF (by simp only [List.map_toArray, List.map_cons, List.map_nil]; rfl) (fpatch_any x w_6 _ P_8.out F_16.out F_17.out) ?_)
        rintro e w_18 ⟨rfl, h_19⟩
        refine ⟨_, rfl, ext_trans B_15.out h_19, ?_⟩
        simp only [Act.put, List.setIfInBounds_toArray, List.set_cons_zero, List.set_cons_succ]
        have B_20 := Lib.hid (ext_trans B_15.out h_19)
        have F_21 := Lib.hid (shaK_ext F_16.out h_19)
        have F_22 := Lib.hid (shaB_ext F_17.out h_19)
        have F_23 := Lib.hid (P_8.out.ext h_19)
        clear B_15 F_16 F_17 P_8
        clear h_19
        refine takeV (i := 11) (d := 30) (v := .bool false) rfl (by kernel_rfl) (by kernel_rfl) (by kernel_rfl) (fun _ _ _ h => h) rfl (fun w' _ => exBin rfl rfl (grdN _ _ _ _ _) (neqSame (fpB x) (fpB_len _) _)) B_20.out ?_
        simp only [Act.put, List.setIfInBounds_toArray, List.set_cons_zero, List.set_cons_succ]
        refine wpAnyH_done (by kernel_rfl) ?_ _
        have BE := Lib.hid (B.out.trans (B_20.out.mono B.out.size))
        clear B_20 F_21 F_22 F_23
        go_wp2_with fail
        go_roundw
        case rel => exact ⟨j + 1, by omega, by go_num, BE.out⟩
        case measure => simp [intOf]; omega
      · have hlk : ¬ (j : Int) < (n : Int) := by omega
        obtain rfl : j = n := by omega
        obtain ⟨w8, rfl⟩ : ∃ x, x = wr := ⟨_, rfl⟩
        have B8 := B
        have H8 := Lib.hid (H.out.ext B8.out)
        obtain ⟨rows, HR0, HSL0⟩ := H8.out.ex
        have HR := Lib.hid HR0
        have h4 := HR0.len4
        clear HR0
        go_upto_region 8 with fail
        refine wp_region_lit ?_
        refine wpL_val rfl (exMove (v := .int .u8 ((k : Nat) : Int)) rfl) ?_
        simp only [Act.put, List.setIfInBounds_toArray, List.set_cons_zero, List.set_cons_succ]
        refine wpL_val rfl (exConv_sh (v := .int .i64 ((k : Nat) : Int)) rfl (convUI k hk _)) ?_
        simp only [Act.put, List.setIfInBounds_toArray, List.set_cons_zero, List.set_cons_succ]
        refine wpL_val rfl (exMove (v := .slice A j c) rfl) ?_
        simp only [Act.put, List.setIfInBounds_toArray, List.set_cons_zero, List.set_cons_succ]
        refine wpL_val rfl (exLen Tryd.underlying22 rfl) ?_
        simp only [Act.put, List.setIfInBounds_toArray, List.set_cons_zero, List.set_cons_succ]
        refine wpL_val rfl (exBin (v := .int .i64 ((j + 1 : Nat) : Int)) rfl rfl (by rfl) (add1F j (by omega) _)) ?_
        simp only [Act.put, List.setIfInBounds_toArray, List.set_cons_zero, List.set_cons_succ]
        refine wpL_val rfl (exBin (v := .int .i64 ((k % (j + 1) : Nat) : Int)) rfl rfl (by rfl) (rem4_sh k (j + 1) (by omega) _)) ?_
        simp only [Act.put, List.setIfInBounds_toArray, List.set_cons_zero, List.set_cons_succ]
        refine wpL_val rfl (exAssign (v := .int .i64 ((k % (j + 1) : Nat) : Int)) rfl) ?_
        simp only [Act.put, List.setIfInBounds_toArray, List.set_cons_zero, List.set_cons_succ]
        refine wpList_nil ?_
        obtain ⟨m, hmm⟩ : ∃ m, m = k % (j + 1) := ⟨_, rfl⟩
        have hmn : m ≤ j := by have := Nat.mod_lt k (show 0 < j + 1 by omega); omega
        rw [← hmm]
        clear hmm
        obtain ⟨n, rfl⟩ : ∃ x, x = j := ⟨_, rfl⟩
        have ONE : Hid (∀ u ∈ rows.flatten, u.oneCell' = true) := flat_one HR.out
        have ONE2 : Hid (∀ u ∈ (rows.take m).flatten, u.oneCell' = true) := fun u hu => by
         obtain ⟨r, hr, hur⟩ := List.mem_flatten.1 hu
         exact ONE.out u (List.mem_flatten.2 ⟨r, List.mem_of_mem_take hr, hur⟩)
        have HSL := Lib.hid (fun (u : World) (hu : Below w8.heap.size w8 u) => HSL0.below hu (Nat.le_refl _))
        have HSC := Lib.hid (fun (u : World) (hu : Below w8.heap.size w8 u) => cut_rows (c := c) h4 (by rw [HR.out.1, HLN.out]) (HSL0.below hu (Nat.le_refl _)) hmn)
        clear HSL0 h4
        go_upto_region 9 with fail
        try go_frame
        refine wp_region_held (S := fun w' => Below w8.heap.size w8 w') mixedS ?_
        change wpAnyH _ _ _ _ _ _ _ _ w8.drew
        have BD : Hid (Below w8.heap.size w8 w8.drew) := (Below.refl _ _).drew
        skip
        generalize w8.drew = wd at *
        simp only [List.size_toArray, List.length_cons, List.length_nil]
        refine takeV (i := 1) (d := 38) (v := .slice A n c) rfl (by kernel_rfl) (by kernel_rfl) (by kernel_rfl) (fun _ _ _ h => h) rfl (fun _ _ => exMove (v := .slice A n c) rfl) BD.out ?_
        simp only [Act.put, List.setIfInBounds_toArray, List.set_cons_zero, List.set_cons_succ]
        refine takeV (i := 3) (d := 40) (v := .slice A n c) rfl (by kernel_rfl) (by kernel_rfl) (by kernel_rfl) (fun _ _ _ h => h) rfl (fun _ _ => exMove (v := .slice A n c) rfl) BD.out ?_
        simp only [Act.put, List.setIfInBounds_toArray, List.set_cons_zero, List.set_cons_succ]
        refine takeV (i := 4) (d := 41) (v := .int .i64 ((m : Nat) : Int)) rfl (by kernel_rfl) (by kernel_rfl) (by kernel_rfl) (fun _ _ _ h => h) rfl (fun _ _ => exMove (v := .int .i64 ((m : Nat) : Int)) rfl) BD.out ?_
        simp only [Act.put, List.setIfInBounds_toArray, List.set_cons_zero, List.set_cons_succ]
        refine takeV (i := 5) (d := 42) (v := .slice (cutAddr A c 0 4) m c) rfl (by kernel_rfl) (by kernel_rfl) (by kernel_rfl) (fun _ _ _ h => h) rfl (fun w' _ => exSliceF rfl rfl rfl rfl (run_slice_high patSl (k := m) (by omega) w')) BD.out ?_
        simp only [Act.put, List.setIfInBounds_toArray, List.set_cons_zero, List.set_cons_succ]
        refine wpAnyH_all (rs := [0]) (by kernel_rfl) (by simp) ?_
        intro i hi
        simp only [List.mem_cons, List.not_mem_nil, or_false] at hi
        subst hi
        refine wpOp_of rfl rfl (wp_built0 patSl ?_)
        refine ⟨ext_trans BD.out (below_new _ _), ?_⟩
        simp only [Act.put, List.setIfInBounds_toArray, List.set_cons_zero, List.set_cons_succ]
        have h_1 : Below wd.heap.size wd (wd.alloc (.cells #[] 33)) := below_new _ _
        have O_3 : Hid ((wd.alloc (.cells #[] 33)).ownsRow w8.heap.size 33 4 (.slice (some ⟨wd.heap.size, 0, none⟩) 0 0) 0 []) := ⟨rfl, .inr ⟨wd.heap.size, 0, _, rfl, BD.out.size, heap_alloc_new wd _, Nat.le_refl _, by simp, by simp, rfl⟩⟩
        generalize (wd.alloc (.cells #[] 33)) = w_2 at *
        have B_5 := Lib.hid (ext_trans BD.out h_1)
        clear BD
        clear h_1
        generalize wd.heap.size = g_4 at *
        refine wpAnyH_all (rs := [2]) (by kernel_rfl) (by simp) ?_
        intro i hi
        simp only [List.mem_cons, List.not_mem_nil, or_false] at hi
        subst hi
        refine wpOp_of rfl rfl (wp_cat patSl O_3.out (HSL.out w_2 B_5.out) ONE.out B_5.out.size (by omega) (by unfold maxLen; omega) (by rfl) (by rfl) ?_)
        intro v_6 w_7 own_8 bel_9
        refine ⟨B_5.out.trans bel_9, ?_⟩
        simp only [Act.put, List.setIfInBounds_toArray, List.set_cons_zero, List.set_cons_succ]
        have O_10 := Lib.hid own_8
        have B_11 := Lib.hid (B_5.out.trans bel_9)
        clear B_5 O_3 own_8 bel_9
        refine wpAnyH_all (rs := [6]) (by kernel_rfl) (by simp) ?_
        intro i hi
        simp only [List.mem_cons, List.not_mem_nil, or_false] at hi
        subst hi
        refine wpOp_of rfl rfl (wp_cat patSl O_10.out (HSC.out w_7 B_11.out) ONE2.out B_11.out.size (by omega) (by unfold maxLen; omega) (by rfl) (by rfl) ?_)
        intro v_12 w_13 own_14 bel_15
        refine ⟨B_11.out.trans bel_15, ?_⟩
        simp only [Act.put, List.setIfInBounds_toArray, List.set_cons_zero, List.set_cons_succ]
        have O_16 := Lib.hid own_14
        have B_17 := Lib.hid (B_11.out.trans bel_15)
        clear B_11 O_10 own_14 bel_15
        refine takeV (i := 7) (d := 7) (v := v_12) rfl (by kernel_rfl) (by kernel_rfl) (by kernel_rfl) (fun _ _ _ h => h) rfl (fun _ _ => exAssign (v := v_12) rfl) B_17.out ?_
        simp only [Act.put, List.setIfInBounds_toArray, List.set_cons_zero, List.set_cons_succ]
        refine wpAnyH_done (by kernel_rfl) ?_ _
        have OE := O_16
        have BE := B_17
        obtain ⟨w9, hw9⟩ : ∃ x, x = w_13 := ⟨_, rfl⟩
        rw [← hw9] at OE BE ⊢
        clear B_17 O_16 hw9
        rw [Nat.zero_add, List.nil_append] at OE
        obtain ⟨A7, c7, hv7, hc7, sl7⟩ := Sl.of_own OE.out
        subst hv7
        have RT := Lib.hid (rows_twice HR.out m)
        have HT : Hid (PatsAt w9 A7 (n + m) (l ++ l.take m)) := by
          refine ⟨by rw [List.length_append, List.length_take, HLN.out]; omega, rows ++ rows.take m, RT.out.ext (BE9 BE.out), ?_⟩
          rw [List.flatten_append]
          exact sl7
        have B9 := Lib.hid (B8.out.trans (BE.out.mono B8.out.size))
        have HK9 := Lib.hid (shaK_ext HK.out B9.out)
        have HB9 := Lib.hid (shaB_ext HB.out B9.out)
        have H9 := Lib.hid (H.out.ext B9.out)
        clear OE BE sl7 hc7 RT HR HSL HSC ONE ONE2 B8
        go_upto_region 10 with fail
        have HU9 := Lib.hid (unlike47_any l w9 A n c H9.out HLN.out (by omega) HK9.out HB9.out)
        go_wp2_with fail
        refine HU9.out.mono ?_
        rintro e w10 ⟨rfl, b10⟩
        have B10 := Lib.hid (B9.out.trans (b10.mono B9.out.size))
        have HK10 := Lib.hid (shaK_ext HK9.out b10)
        have HB10 := Lib.hid (shaB_ext HB9.out b10)
        have HU := Lib.hid (fun (u : World) (hu : Below w10.heap.size w10 u) => H.out.ext (B10.out.trans (hu.mono B10.out.size)))
        have HT10 := Lib.hid (HT.out.ext b10)
        have HTU := Lib.hid (twice_uniq l m)
        have HUR := Lib.hid (uniq_le l n)
        rw [List.take_of_length_le (by rw [List.length_map, HLN.out]; exact Nat.le_refl _)] at HUR
        have HUT := Lib.hid (fun (u : World) (hu : Below w10.heap.size w10 u) (k : ShaK u) (b : ShaB u) => unlike47_any (l ++ l.take m) u A7 (n + m) c7 (HT10.out.ext hu) (by rw [List.length_append, List.length_take, HLN.out]; omega) (by omega) k b)
        rw [HTU.out] at HUT
        have HG := Lib.hid (uniq_pos l)
        rw [HLN.out] at HG
        generalize (uniqU (l.map fpB)).length = U at *
        obtain ⟨R, hR⟩ : ∃ R, R = cntU l n := ⟨_, rfl⟩
        have HRR : Hid (cntU l n = R) := hR.symm
        rw [← hR] at HUR
        clear hR
        obtain ⟨gu, hgu⟩ : ∃ gu, gu = decide (0 < n) := ⟨_, rfl⟩
        have HGN : Hid (decide (0 < n) = gu) := hgu.symm
        have HGU : Hid (decide (0 < U) = gu) := by rw [Hid, HG.out, hgu]
        clear hgu HG b10 HU9 HK9 HB9 B9 H9 HT HTU HT10
        go_upto_region 11 with fail
        refine wp_region_list ?_
        have BD : Hid (Below w10.heap.size w10 w10) := Below.refl _ _
        have HKD := HK10
        have HBD := HB10
        clear HK10 HB10
        refine wpL_gF rfl (exMove (v := .int .i64 ((U : Nat) : Int)) rfl) ?_
        simp only [Act.put, List.setIfInBounds_toArray, List.set_cons_zero, List.set_cons_succ]
        refine wpL_gF rfl (exMove (v := .slice A n c) rfl) ?_
        simp only [Act.put, List.setIfInBounds_toArray, List.set_cons_zero, List.set_cons_succ]
        refine wpL_opF rfl fun K hK_3 => ?_
        refine (wp_called (args := #[.slice A n c]) hcR (by simp only [List.map_toArray, List.map_cons, List.map_nil]; rfl) (by have hq := unlike47r_any l w10 A n c (HU.out w10 BD.out) (by omega); rw [HRR.out] at hq; exact hq) ?_)
        rintro _ w_1 ⟨rfl, h_2⟩
        refine ⟨_, rfl, hK_3 _ _ ?_⟩
        clear hK_3
        simp only [Act.put, List.setIfInBounds_toArray, List.set_cons_zero, List.set_cons_succ]
        have B_4 := Lib.hid (ext_trans BD.out h_2)
        have F_5 := Lib.hid (shaK_ext HKD.out h_2)
        have F_6 := Lib.hid (shaB_ext HBD.out h_2)
        clear BD HKD HBD
        clear h_2
        refine wpL_gF rfl (exBin (v := .bool true) rfl rfl (by rfl) (leqT U R HUR.out _)) ?_
        simp only [Act.put, List.setIfInBounds_toArray, List.set_cons_zero, List.set_cons_succ]
        refine wpL_gF rfl (exMove (v := .bool true) rfl) ?_
        simp only [Act.put, List.setIfInBounds_toArray, List.set_cons_zero, List.set_cons_succ]
        refine wpL_gF rfl (exMove (v := .int .i64 ((U : Nat) : Int)) rfl) ?_
        simp only [Act.put, List.setIfInBounds_toArray, List.set_cons_zero, List.set_cons_succ]
        refine wpL_gF rfl (exBin (v := .bool gu) rfl rfl (by rfl) (gtrU U gu HGU.out _)) ?_
        simp only [Act.put, List.setIfInBounds_toArray, List.set_cons_zero, List.set_cons_succ]
        refine wpL_gF rfl (exMove (v := .slice A n c) rfl) ?_
        simp only [Act.put, List.setIfInBounds_toArray, List.set_cons_zero, List.set_cons_succ]
        refine wpL_gF rfl (exLen Tryd.underlying22 rfl) ?_
        simp only [Act.put, List.setIfInBounds_toArray, List.set_cons_zero, List.set_cons_succ]
        refine wpL_gF rfl (exBin (v := .bool gu) rfl rfl (by rfl) (gtrU n gu HGN.out _)) ?_
        simp only [Act.put, List.setIfInBounds_toArray, List.set_cons_zero, List.set_cons_succ]
        refine wpL_gF rfl (exBin (v := .bool true) rfl rfl (by rfl) (eqBB gu _)) ?_
        simp only [Act.put, List.setIfInBounds_toArray, List.set_cons_zero, List.set_cons_succ]
        refine wpL_gF rfl (exPickT (v := .bool true) rfl rfl) ?_
        simp only [Act.put, List.setIfInBounds_toArray, List.set_cons_zero, List.set_cons_succ]
        refine wpL_gF rfl (exMove (v := .bool true) rfl) ?_
        simp only [Act.put, List.setIfInBounds_toArray, List.set_cons_zero, List.set_cons_succ]
        refine wpL_gF rfl (exMove (v := .slice A7 (n + m) c7) rfl) ?_
        simp only [Act.put, List.setIfInBounds_toArray, List.set_cons_zero, List.set_cons_succ]
        refine wpL_opF rfl fun K hK_9 => ?_
        refine (wp_called (args := #[.slice A7 (n + m) c7]) hcU (by simp only [List.map_toArray, List.map_cons, List.map_nil]; rfl) (HUT.out w_1 B_4.out F_5.out F_6.out) ?_)
        rintro _ w_7 ⟨rfl, h_8⟩
        refine ⟨_, rfl, hK_9 _ _ ?_⟩
        clear hK_9
        simp only [Act.put, List.setIfInBounds_toArray, List.set_cons_zero, List.set_cons_succ]
        have B_10 := Lib.hid (ext_trans B_4.out h_8)
        have F_11 := Lib.hid (shaK_ext F_5.out h_8)
        have F_12 := Lib.hid (shaB_ext F_6.out h_8)
        clear B_4 F_5 F_6
        clear h_8
        refine wpL_gF rfl (exMove (v := .int .i64 ((U : Nat) : Int)) rfl) ?_
        simp only [Act.put, List.setIfInBounds_toArray, List.set_cons_zero, List.set_cons_succ]
        refine wpL_gF rfl (exBin (v := .bool true) rfl rfl (by rfl) (eqNN U _)) ?_
        simp only [Act.put, List.setIfInBounds_toArray, List.set_cons_zero, List.set_cons_succ]
        refine wpL_gF rfl (exPickT (v := .bool true) rfl rfl) ?_
        simp only [Act.put, List.setIfInBounds_toArray, List.set_cons_zero, List.set_cons_succ]
        refine wpL_gF rfl (exMove (v := .bool true) rfl) ?_
        simp only [Act.put, List.setIfInBounds_toArray, List.set_cons_zero, List.set_cons_succ]
        refine wpL_opF rfl fun K hK_15 => ?_
        refine (wp_called (args := #[]) hcW (by simp) (works47 w_7 F_11.out F_12.out) ?_)
        rintro _ w_13 ⟨rfl, h_14⟩
        refine ⟨_, rfl, hK_15 _ _ ?_⟩
        clear hK_15
        simp only [Act.put, List.setIfInBounds_toArray, List.set_cons_zero, List.set_cons_succ]
        have B_16 := Lib.hid (ext_trans B_10.out h_14)
        have F_17 := Lib.hid (shaK_ext F_11.out h_14)
        have F_18 := Lib.hid (shaB_ext F_12.out h_14)
        clear B_10 F_11 F_12
        clear h_14
        refine wpL_gF rfl (exPickT (v := .bool true) rfl rfl) ?_
        simp only [Act.put, List.setIfInBounds_toArray, List.set_cons_zero, List.set_cons_succ]
        refine wpL_gF rfl (exAssign (v := .bool true) rfl) ?_
        simp only [Act.put, List.setIfInBounds_toArray, List.set_cons_zero, List.set_cons_succ]
        refine wpList_nil ?_
        have BF := Lib.hid (B10.out.trans (B_16.out.mono B10.out.size))
        clear B_16 F_17 F_18
        go_wp2_with fail
        go_ret
        exact ⟨rfl, BF.out⟩
theorem fingerSame_walkI (w : World) (l : List PatV) (A : Option Addr) (n c : Nat) (hm : n ≤ maxLen) (hnc : n ≤ c) (h : PatsAt w A n l) (a : Int) (h0 : 0 ≤ a) (h1 : a < 256) (hT : ShaK w ∧ ShaB w) :
    Calls Tryd.prog 3 #[.slice A n c, .int .u8 a] w (RetB w (.bool true)) := by
  obtain ⟨k, rfl⟩ := Int.eq_ofNat_of_zero_le h0
  exact fingerSame_walk w l A n c hm hnc h k (by omega) hT.1 hT.2
end Go.Proofs.YtihggkmjalofiaaDoor
