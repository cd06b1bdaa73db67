/- Trees: copied. -/
import Derived.Test.YtceapefjdiphpaaTreel
namespace Go.Proofs.Ytceapefjdiphpaa
open Go.RowKit

/-- a file whose lists are the call's own -/
structure OwnF (w : World) (B : Nat) (g : FileV) : Prop where
  a : w.ownsRow B 9 1 (.slice g.A g.also.length g.c) g.also.length (strsC g.also)
  l : w.ownsRow B 9 1 (.slice g.L g.lines.length g.d) g.lines.length (strsC g.lines)
  z : g.name.size ≤ maxLen ∧ (∀ s ∈ g.also, s.size ≤ maxLen) ∧ (∀ s ∈ g.lines, s.size ≤ maxLen)
theorem own_cap {w : World} {base : Nat} {e : TypeId} {size n m c : Nat} {A : Option Addr} {xs : List Value} (h : w.ownsRow base e size (.slice A m c) n xs) : m ≤ c ∧ c ≤ maxLen := by
  rcases h.2 with ⟨h1, h2⟩ | ⟨g, cap, cur, h1, _, _, hnc, hcm, _⟩
  · injection h1 with _ h1 h3
    subst h1 h3
    exact ⟨Nat.le_refl _, by simp⟩
  · injection h1 with _ h1 h3
    subst h1 h3
    exact ⟨hnc, hcm⟩
theorem OwnF.ok {w : World} {B : Nat} {g : FileV} (h : OwnF w B g) : FileOk w w.heap.size g := by
  obtain ⟨A1, c1, h1, _, h3⟩ := Sl.of_own h.a
  obtain ⟨A2, c2, k1, _, k3⟩ := Sl.of_own h.l
  injection h1 with e1 e2 e3
  injection k1 with f1 f2 f3
  subst e1 e3 f1 f3
  exact ⟨h.z.1, own_cap h.a, own_cap h.l, h3, k3, h.z.2.1, h.z.2.2⟩
theorem OwnF.ext {w w' : World} {B : Nat} {g : FileV} (h : OwnF w B g) (hb : Below w.heap.size w w') : OwnF w' B g := ⟨own_ext h.a hb, own_ext h.l hb, h.z⟩
theorem own_ne {w : World} {B B' : Nat} {e e' : TypeId} {s s' n n' g cap : Nat} {v : Value} {xs xs' : List Value} (h : w.ownsRow B e s v n xs) (h' : w.ownsRow B' e' s' (.slice (some ⟨g, 0, none⟩) n' cap) n' xs') (hne : e ≠ e') : v.ownBlock ≠ some g := by
  intro hv
  rcases h.2 with ⟨rfl, _⟩ | ⟨g1, c1, cur, rfl, _, hh, _⟩
  · simp [Value.ownBlock] at hv
  · simp only [Value.ownBlock, Option.some.injEq] at hv
    subst hv
    rcases h'.2 with ⟨h1, _⟩ | ⟨g2, c2, cur2, h1, _, hh2, _⟩
    · cases h1
    · injection h1 with h1
      injection h1 with h1
      injection h1 with h1
      subst h1
      rw [hh] at hh2
      simp only [Option.some.injEq, Obj.cells.injEq] at hh2
      exact hne hh2.2.1
theorem own_set {w : World} {B B' : Nat} {e e' : TypeId} {s s' n n' g cap j : Nat} {v u : Value} {xs xs' : List Value} (h : w.ownsRow B e s v n xs) (h' : w.ownsRow B' e' s' (.slice (some ⟨g, 0, none⟩) n' cap) n' xs') (hne : e ≠ e') : (w.setCell ⟨g, j, none⟩ u).ownsRow B e s v n xs :=
  h.kept (h'.stored j u).2 (.inr (own_ne h h' hne))
theorem OwnF.set_ {w : World} {B B' n' g cap j s' : Nat} {u : Value} {f : FileV} {xs' : List Value} {e' : TypeId} (h : OwnF w B f) (h' : w.ownsRow B' e' s' (.slice (some ⟨g, 0, none⟩) n' cap) n' xs') (hne : 9 ≠ e') : OwnF (w.setCell ⟨g, j, none⟩ u) B f :=
  ⟨own_set h.a h' hne, own_set h.l h' hne, h.z⟩
theorem row_set (gs rest : List FileV) (f : FileV) (v1 v2 : Value) : (((gs ++ f :: rest).flatMap fileC).set (gs.length * 3 + 1) v1).set (gs.length * 3 + 2) v2 = gs.flatMap fileC ++ ([.string f.name, v1, v2] ++ rest.flatMap fileC) := by
  have hl := flatMap_len fileC gs (size := 3) (fun _ _ => rfl)
  rw [List.flatMap_append, List.flatMap_cons, List.set_append_right _ _ (by omega), List.set_append_right _ _ (by omega)]
  have e1 : gs.length * 3 + 1 - (gs.flatMap fileC).length = 1 := by omega
  have e2 : gs.length * 3 + 2 - (gs.flatMap fileC).length = 2 := by omega
  rw [e1, e2]; rfl

theorem own_mono {w : World} {base base' : Nat} {e : TypeId} {size n : Nat} {v : Value} {xs : List Value} (h : w.ownsRow base e size v n xs) (hb : base' ≤ base) : w.ownsRow base' e size v n xs := by
  obtain ⟨hl, h2⟩ := h
  rcases h2 with h2 | ⟨g, cap, cur, rfl, hg, r⟩
  · exact ⟨hl, .inl h2⟩
  · exact ⟨hl, .inr ⟨g, cap, cur, rfl, Nat.le_trans hb hg, r⟩⟩
/-- a copy: the same files, and all of it the call's own -/
structure CopyOk (w' : World) (B n : Nat) (v : Value) (fs gs : List FileV) : Prop where
  len : gs.length = n
  same : gs.map plainF = fs.map plainF
  own : w'.ownsRow B 68 3 v n (gs.flatMap fileC)
  files : ∀ g ∈ gs, OwnF w' B g
def CopyRet (w : World) (n : Nat) (fs : List FileV) (e : Ending) (w' : World) : Prop := ∃ v gs, e = .returned v ∧ CopyOk w' w.heap.size n v fs gs ∧ Below w.heap.size w w'
theorem call70 (args : Array Value) (w : World) : (callFunc 70 args).run Try.prog w = .ok (.enter 70 args) w := by kernel_rfl
theorem take_val {P : Program} {ops : Array Oper} {Q : Exit → Act → World → Prop} {S : World → Prop} {a : Act} {w : World} {d : Tmp} {op : Op} {ty : TypeId} {pos : String} {after : Array Edge} {gd : Option (Nat × Bool)} {v : Value} {i fuel : Nat} {ls : Array Bool} {md : Region.Mode} (hi : ops[i]? = some ⟨some d, op, ty, pos, after, gd⟩)
    (hs : Region.noSelect ops = true) (hf : Region.free md ops ls i = true) (hr : (Region.ready md ops ls).contains i = true) (hQ : ∀ c (a : Act) (w : World), Q (.panic c) (a.put (some d) v) w → Q (.panic c) a w)
    (hw : Region.wanted ⟨some d, op, ty, pos, after, gd⟩ (yielded ops a.tmps) = true) (hx : ∀ w', S w' → (execOp a.eval ⟨some d, op, ty, pos, after, gd⟩).run P w' = .ok (.value v) w') (hS : S w)
    (h : wpAnyH P md ops Q S fuel (ls.setIfInBounds i true) (a.put (some d) v) w) : wpAnyH P md ops Q S (fuel + 1) ls a w :=
  wpAnyH_take (oi := ⟨some d, op, ty, pos, after, gd⟩) hi hs hf hr hQ (.inl ⟨hw, hx⟩) hS h
theorem ex_field {ρ : Operand → Value} {d : Option Tmp} {s ty : TypeId} {x : Operand} {i : Nat} {pos : String} {after : Array Edge} {gd : Option (Nat × Bool)} {v pv : Value} {P : Program} {w : World} (hx : ρ x = pv) (hr : (Instr.fieldAt s pv i).run P w = .ok v w) : (execOp ρ ⟨d, .fieldAddr s x i, ty, pos, after, gd⟩).run P w = .ok (.value v) w := by
  unfold execOp; simp only [hx, Sem.run_bind, hr, Result.andThen_ok, Sem.run_pure]
theorem ex_index {ρ : Operand → Value} {d : Option Tmp} {s ty : TypeId} {x y : Operand} {pos : String} {after : Array Edge} {gd : Option (Nat × Bool)} {v pv iv : Value} {P : Program} {w : World} (hx : ρ x = pv) (hy : ρ y = iv) (hr : (Instr.indexAt s pv iv).run P w = .ok v w) : (execOp ρ ⟨d, .indexAddr s x y, ty, pos, after, gd⟩).run P w = .ok (.value v) w := by
  unfold execOp; simp only [hx, hy, Sem.run_bind, hr, Result.andThen_ok, Sem.run_pure]
theorem ex_load {ρ : Operand → Value} {d : Option Tmp} {s ty : TypeId} {x : Operand} {pos : String} {after : Array Edge} {gd : Option (Nat × Bool)} {v pv : Value} {P : Program} {w : World} (hx : ρ x = pv) (hr : (Instr.loadAt s pv).run P w = .ok v w) : (execOp ρ ⟨d, .load s x, ty, pos, after, gd⟩).run P w = .ok (.value v) w := by
  unfold execOp; simp only [hx, Sem.run_bind, hr, Result.andThen_ok, Sem.run_pure]
theorem wp_stored1 {P : Program} {Q : Exit → Act → World → Prop} {K : Act → World → Prop} {a : Act} {w w' : World} {rt : TypeId} {pos : String} {after : Array Edge} {gd : Option (Nat × Bool)} {ty : TypeId} {x y : Operand} {pv v : Value} (hx : a.eval x = pv) (hy : a.eval y = v)
    (hr : (Instr.storeAt ty pv v).run P w = .ok () w') (h : K a w') : Oper.wp P ⟨none, .store ty x y, rt, pos, after, gd⟩ a w K Q := by
  unfold Oper.wp execOp
  simp only [hx, hy, Sem.run_bind, hr, Result.andThen_ok, Sem.run_pure]
  exact h
theorem loadStrs (b o : Nat) (w : World) (A : Option Addr) (n c : Nat) (h : w.cell? ⟨b, o, none⟩ = some (.slice A n c)) : (Instr.loadAt 66 (.pointer (some ⟨b, o, none⟩))).run Try.prog w = .ok (.slice A n c) w := by
  simp [go_sem, h]
theorem storeStrs (b o : Nat) (w : World) (A : Option Addr) (n c : Nat) {u : Value} (h : w.cell? ⟨b, o, none⟩ = some u) (hf : w.frozen? ⟨b, o, none⟩ = false) : (Instr.storeAt 66 (.pointer (some ⟨b, o, none⟩)) (.slice A n c)).run Try.prog w = .ok () (w.setCell ⟨b, o, none⟩ (.slice A n c)) := by
  simp [go_sem, h, hf]

set_option maxRecDepth 100000 in
set_option maxHeartbeats 4000000 in
theorem copy_any (fs : List FileV) (w : World) (A : Option Addr) (n c : Nat) (hn : fs.length = n) (hf : FewP fs) (h : TreeOk w w.heap.size A fs) :
    Calls Try.prog 49 #[.slice A n c] w (CopyRet w n fs) := by
  have hm : n ≤ 40 := by rw [← hn]; exact hf.len
  have HC := Lib.hid (cloneT_any fs w A n c hn hm h)
  have HL := Lib.hid hn
  have H := Lib.hid h
  have HF := Lib.hid hf
  clear h hn hf
  go_enter Try.func49, Try.ntmps49
  go_wp2_with fail
  refine HC.out.mono ?_
  rintro e w1 ⟨v, rfl, ho, hb1⟩
  clear HC
  rcases Nat.eq_zero_or_pos n with hn0 | hpos
  · subst hn0
    have hl : Hid (fs = []) := List.length_eq_zero_iff.1 HL.out
    have O1 := Lib.hid ho
    have B1 := Lib.hid hb1
    clear ho hb1
    obtain ⟨A2, c2, hv, _, _⟩ := Sl.of_own O1.out
    subst hv
    go_wp2_with fail
    go_loop [10] (fun i => i = .int .i64 0) (fun _ => 0)
    case atStart => rfl
    case round =>
      subst hrel
      go_wp2_with fail
      go_ret
      refine ⟨_, [], rfl, ⟨rfl, by rw [hl.out], ?_, by simp⟩, B1.out⟩
      have := O1.out
      rw [hl.out] at this
      exact this
  · obtain ⟨g, cap, cur, rfl, hg1, hg2, hg3, hg4, hg5, hg6⟩ : ∃ g cap cur, v = .slice (some ⟨g, 0, none⟩) n cap ∧ w.heap.size ≤ g ∧ w1.heap[g]? = some (.cells cur 68 (0, 0)) ∧ n ≤ cap ∧ cap ≤ maxLen ∧ cur.size = cap * 3 ∧ cur.toList.take (n * 3) = fs.flatMap fileC := by
      rcases ho.2 with ⟨_, h0⟩ | h'
      · omega
      · exact h'
    have O1 := Lib.hid ho
    have B1 := Lib.hid hb1
    have GB := Lib.hid hg1
    have CAP : cap ≤ maxLen := hg4
    clear ho hb1 hg1 hg2 hg3 hg4 hg5 hg6
    unfold maxLen at CAP
    go_wp2_with fail
    go_loopw [10] (fun i wr => ∃ (k : Nat) (gs : List FileV), k ≤ n ∧ i = .int .i64 k ∧ Hid (gs.length = k ∧ gs.map plainF = (fs.take k).map plainF) ∧ Hid (wr.ownsRow w.heap.size 68 3 (.slice (some ⟨g, 0, none⟩) n cap) n ((gs ++ fs.drop k).flatMap fileC)) ∧ Hid (∀ f ∈ gs, OwnF wr w.heap.size f) ∧ Hid (Below w.heap.size w wr)) (fun i _ => n - (intOf i).toNat)
    case atStart => exact ⟨0, [], by omega, rfl, ⟨rfl, by simp⟩, by simpa using O1, by simp [Hid], B1⟩
    case round =>
      clear O1 B1
      obtain ⟨k, gs, hk, rfl, GS, O, OF, B⟩ := hrel
      by_cases hlt : k < n
      · have hkl : k < fs.length := by rw [HL.out]; exact hlt
        have hmem := List.getElem_mem hkl
        have G := Lib.hid (H.out.ok _ hmem)
        have FW := Lib.hid (HF.out.ok _ hmem)
        have D1 : Hid (fs.drop k = fs[k]'hkl :: fs.drop (k + 1)) := List.drop_eq_getElem_cons hkl
        have P1 : Hid ((fs.take (k + 1)).map plainF = (fs.take k).map plainF ++ [plainF (fs[k]'hkl)]) := by rw [Hid, List.take_succ_eq_append_getElem hkl, List.map_append]; rfl
        generalize fs[k]'hkl = f at *
        clear hmem hkl
        have hcell : ∀ j u, (fileC f)[j]? = some u → wr.cell? ⟨g, k * 3 + j, none⟩ = some u := fun j u hu => by
          have hj : j < 3 := (List.getElem?_eq_some_iff.1 hu).1
          rw [O.out.cellAt (k * 3 + j) (by omega), D1.out]
          have hl := flatMap_len fileC gs (size := 3) (fun _ _ => rfl)
          rw [List.flatMap_append, List.flatMap_cons, List.getElem?_append_right (by rw [hl, GS.out.1]; omega), hl, GS.out.1, List.getElem?_append_left (by show _ < 3; omega)]
          rw [show k * 3 + j - k * 3 = j by omega]; exact hu
        have c0 : wr.cell? ⟨g, k * 3, none⟩ = some (.string f.name) := hcell 0 _ rfl
        have c1 : wr.cell? ⟨g, k * 3 + 1, none⟩ = some (.slice f.A f.also.length f.c) := hcell 1 _ rfl
        have c2 : wr.cell? ⟨g, k * 3 + 2, none⟩ = some (.slice f.L f.lines.length f.d) := hcell 2 _ rfl
        have hfz : Hid (∀ j, wr.frozen? ⟨g, j, none⟩ = false) := fun j => O.out.frozenAt j
        have hgl : Hid (g < wr.heap.size) := (O.out.lt g rfl).2
        have hlk : (k : Int) < (n : Int) := by omega
        have hk0 : (0 : Int) ≤ (k : Int) := by omega
        have b1 : Hid (Below wr.heap.size wr (wr.alloc (.cells #[.string f.name, .slice f.A f.also.length f.c, .slice f.L f.lines.length f.d] 68))) := below_new _ _
        have K1 : Hid (Blk (wr.alloc (.cells #[.string f.name, .slice f.A f.also.length f.c, .slice f.L f.lines.length f.d] 68)) wr.heap.size 68 #[.string f.name, .slice f.A f.also.length f.c, .slice f.L f.lines.length f.d]) := Blk.new _ _ _
        clear hcell
        go_wp2_with fail
        have O2 := Lib.hid (own_ext O.out b1.out)
        have OF2 : Hid (∀ f' ∈ gs, OwnF (wr.alloc (.cells #[.string f.name, .slice f.A f.also.length f.c, .slice f.L f.lines.length f.d] 68)) w.heap.size f') := fun f' hf' => (OF.out f' hf').ext b1.out
        have B2 := Lib.hid (B.out.trans (b1.out.mono B.out.size))
        have hgn : Hid (g ≠ wr.heap.size) := by have := hgl.out; rw [Hid]; omega
        clear c0 c1 c2 hfz b1 O OF B hgl
        generalize (wr.alloc (.cells #[.string f.name, .slice f.A f.also.length f.c, .slice f.L f.lines.length f.d] 68)) = w2 at *
        generalize wr.heap.size = gF at *
        refine wp_region_held (S := fun w' => Blk w' gF 68 #[.string f.name, .slice f.A f.also.length f.c, .slice f.L f.lines.length f.d]) mixedT ?_
        have Z1 : Blk w2.drew gF 68 #[.string f.name, .slice f.A f.also.length f.c, .slice f.L f.lines.length f.d] := K1.out
        have O3 : Hid (w2.drew.ownsRow w.heap.size 68 3 (.slice (some ⟨g, 0, none⟩) n cap) n ((gs ++ fs.drop k).flatMap fileC)) := own_ext O2.out (Below.refl _ _).drew
        have OF3 : Hid (∀ f' ∈ gs, OwnF w2.drew w.heap.size f') := fun f' hf' => (OF2.out f' hf').ext (Below.refl _ _).drew
        have B3 : Hid (Below w.heap.size w w2.drew) := B2.out.drew
        change wpAnyH _ _ _ _ _ _ _ _ w2.drew
        generalize w2.drew = wd at *
        clear O2 OF2 B2 K1
        simp only [List.size_toArray, List.length_cons, List.length_nil]
        refine take_move (i := 0) rfl (by kernel_rfl) (by kernel_rfl) (by kernel_rfl) (fun _ _ _ h => h) rfl rfl Z1 ?_
        simp only [Act.put, List.setIfInBounds_toArray, List.set_cons_zero, List.set_cons_succ]
        refine take_move (i := 1) rfl (by kernel_rfl) (by kernel_rfl) (by kernel_rfl) (fun _ _ _ h => h) rfl rfl Z1 ?_
        simp only [Act.put, List.setIfInBounds_toArray, List.set_cons_zero, List.set_cons_succ]
        refine take_move (i := 2) rfl (by kernel_rfl) (by kernel_rfl) (by kernel_rfl) (fun _ _ _ h => h) rfl rfl Z1 ?_
        simp only [Act.put, List.setIfInBounds_toArray, List.set_cons_zero, List.set_cons_succ]
        refine take_move (i := 3) rfl (by kernel_rfl) (by kernel_rfl) (by kernel_rfl) (fun _ _ _ h => h) rfl rfl Z1 ?_
        simp only [Act.put, List.setIfInBounds_toArray, List.set_cons_zero, List.set_cons_succ]
        refine take_val (i := 4) rfl (by kernel_rfl) (by kernel_rfl) (by kernel_rfl) (fun _ _ _ h => h) rfl (fun w' _ => ex_field rfl (fieldRun gF 0 1 (by omega) w')) Z1 ?_
        simp only [Act.put, List.setIfInBounds_toArray, List.set_cons_zero, List.set_cons_succ]
        refine take_val (i := 5) rfl (by kernel_rfl) (by kernel_rfl) (by kernel_rfl) (fun _ _ _ h => h) rfl (fun w' hS => ex_load rfl (loadStrs gF 1 w' _ _ _ (hS.cell 1))) Z1 ?_
        simp only [Act.put, List.setIfInBounds_toArray, List.set_cons_zero, List.set_cons_succ]
        refine take_val (i := 7) rfl (by kernel_rfl) (by kernel_rfl) (by kernel_rfl) (fun _ _ _ h => h) rfl (fun w' _ => ex_field rfl (fieldRun gF 0 2 (by omega) w')) Z1 ?_
        simp only [Act.put, List.setIfInBounds_toArray, List.set_cons_zero, List.set_cons_succ]
        refine take_val (i := 8) rfl (by kernel_rfl) (by kernel_rfl) (by kernel_rfl) (fun _ _ _ h => h) rfl (fun w' hS => ex_load rfl (loadStrs gF 2 w' _ _ _ (hS.cell 2))) Z1 ?_
        simp only [Act.put, List.setIfInBounds_toArray, List.set_cons_zero, List.set_cons_succ]
        refine wpAnyH_all (rs := [6]) (by kernel_rfl) (by simp) ?_
        intro i hi
        simp only [List.mem_cons, List.not_mem_nil, or_false] at hi
        subst hi
        refine wpOp_of rfl rfl (wp_called call70 (by simp only [List.map_toArray, List.map_cons, List.map_nil]; rfl) (cloneS_any f.also wd f.A f.also.length f.c rfl (by have := FW.out.al; omega) ((G.out.up B3.out).sa)) ?_)
        rintro e w3 ⟨v1, rfl, ho1, hb1⟩
        obtain ⟨A1, c1, hv1, _, _⟩ := Sl.of_own ho1
        subst hv1
        have Z2 : Blk w3 gF 68 #[.string f.name, .slice f.A f.also.length f.c, .slice f.L f.lines.length f.d] := Z1.ext hb1
        have O4 := Lib.hid (own_ext O3.out hb1)
        have OF4 : Hid (∀ f' ∈ gs, OwnF w3 w.heap.size f') := fun f' hf' => (OF3.out f' hf').ext hb1
        have B4 := Lib.hid (B3.out.trans (hb1.mono B3.out.size))
        have U1 : Hid (w3.ownsRow w.heap.size 9 1 (.slice A1 f.also.length c1) f.also.length (strsC f.also)) := own_mono ho1 B3.out.size
        clear ho1 hb1 O3 OF3
        refine ⟨_, rfl, Z2, ?_⟩
        simp only [Act.put, List.setIfInBounds_toArray, List.set_cons_zero, List.set_cons_succ]
        refine wpAnyH_all (rs := [9]) (by kernel_rfl) (by simp) ?_
        intro i hi
        simp only [List.mem_cons, List.not_mem_nil, or_false] at hi
        subst hi
        refine wpOp_of rfl rfl (wp_called call70 (by simp only [List.map_toArray, List.map_cons, List.map_nil]; rfl) (cloneS_any f.lines w3 f.L f.lines.length f.d rfl (by have := FW.out.ll; omega) ((G.out.up B4.out).sl)) ?_)
        rintro e w4 ⟨v2, rfl, ho2, hb2⟩
        obtain ⟨A2, c2, hv2, _, _⟩ := Sl.of_own ho2
        subst hv2
        have Z3 : Blk w4 gF 68 #[.string f.name, .slice f.A f.also.length f.c, .slice f.L f.lines.length f.d] := Z2.ext hb2
        have O5 := Lib.hid (own_ext O4.out hb2)
        have OF5 : Hid (∀ f' ∈ gs, OwnF w4 w.heap.size f') := fun f' hf' => (OF4.out f' hf').ext hb2
        have B5 := Lib.hid (B4.out.trans (hb2.mono B4.out.size))
        have U2 := Lib.hid (own_ext U1.out hb2)
        have U3 : Hid (w4.ownsRow w.heap.size 9 1 (.slice A2 f.lines.length c2) f.lines.length (strsC f.lines)) := own_mono ho2 B4.out.size
        clear ho2 hb2 O4 OF4 U1 B3 Z1 Z2 B4
        refine ⟨_, rfl, Z3, ?_⟩
        simp only [Act.put, List.setIfInBounds_toArray, List.set_cons_zero, List.set_cons_succ]
        have hrl : ((gs ++ fs.drop k).flatMap fileC).length = n * 3 := O5.out.1
        have hs1 := fun (a : Option Addr) (m d : Nat) => storeStrs g (k * 3 + 1) w4 a m d (u := ((gs ++ fs.drop k).flatMap fileC)[k * 3 + 1]'(by omega)) (by rw [O5.out.cellAt (k * 3 + 1) (by omega)]; exact List.getElem?_eq_getElem _) (O5.out.frozenAt _)
        have O6 := Lib.hid (O5.out.stored (k * 3 + 1) (.slice A1 f.also.length c1)).1
        have OF6 : Hid (∀ f' ∈ gs, OwnF (w4.setCell ⟨g, k * 3 + 1, none⟩ (.slice A1 f.also.length c1)) w.heap.size f') := fun f' hf' => (OF5.out f' hf').set_ O5.out (by decide)
        have U4 := Lib.hid (own_set (j := k * 3 + 1) (u := .slice A1 f.also.length c1) U2.out O5.out (by decide))
        have U5 := Lib.hid (own_set (j := k * 3 + 1) (u := .slice A1 f.also.length c1) U3.out O5.out (by decide))
        have B6 : Hid (Below w.heap.size w (w4.setCell ⟨g, k * 3 + 1, none⟩ (.slice A1 f.also.length c1))) := B5.out.setCell (p := ⟨g, k * 3 + 1, none⟩) GB.out _
        have Z4 : Blk (w4.setCell ⟨g, k * 3 + 1, none⟩ (.slice A1 f.also.length c1)) gF 68 #[.string f.name, .slice f.A f.also.length f.c, .slice f.L f.lines.length f.d] := Z3.far (fun e => hgn.out e.symm) _
        refine take_val (i := 10) rfl (by kernel_rfl) (by kernel_rfl) (by kernel_rfl) (fun _ _ _ h => h) rfl (fun w' _ => ex_index rfl rfl (indexRun g n cap k hlt w')) Z3 ?_
        simp only [Act.put, List.setIfInBounds_toArray, List.set_cons_zero, List.set_cons_succ]
        refine take_val (i := 11) rfl (by kernel_rfl) (by kernel_rfl) (by kernel_rfl) (fun _ _ _ h => h) rfl (fun w' _ => ex_field rfl (fieldRun g (k * 3) 1 (by omega) w')) Z3 ?_
        simp only [Act.put, List.setIfInBounds_toArray, List.set_cons_zero, List.set_cons_succ]
        refine wpAnyH_all (rs := [12]) (by kernel_rfl) (by simp) ?_
        intro i hi
        simp only [List.mem_cons, List.not_mem_nil, or_false] at hi
        subst hi
        refine wpOp_of rfl rfl (wp_stored1 rfl rfl (hs1 _ _ _) ?_)
        refine ⟨Z4, ?_⟩
        clear O5 OF5 U2 U3 B5 Z3 hs1
        generalize (w4.setCell ⟨g, k * 3 + 1, none⟩ (.slice A1 f.also.length c1)) = w5 at *
        have hrl2 : (((gs ++ fs.drop k).flatMap fileC).set (k * 3 + 1) (.slice A1 f.also.length c1)).length = n * 3 := O6.out.1
        have hs2 := fun (a : Option Addr) (m d : Nat) => storeStrs g (k * 3 + 2) w5 a m d (u := (((gs ++ fs.drop k).flatMap fileC).set (k * 3 + 1) (.slice A1 f.also.length c1))[k * 3 + 2]'(by omega)) (by rw [O6.out.cellAt (k * 3 + 2) (by omega)]; exact List.getElem?_eq_getElem _) (O6.out.frozenAt _)
        have O7 := Lib.hid (O6.out.stored (k * 3 + 2) (.slice A2 f.lines.length c2)).1
        have OF7 : Hid (∀ f' ∈ gs, OwnF (w5.setCell ⟨g, k * 3 + 2, none⟩ (.slice A2 f.lines.length c2)) w.heap.size f') := fun f' hf' => (OF6.out f' hf').set_ O6.out (by decide)
        have U6 := Lib.hid (own_set (j := k * 3 + 2) (u := .slice A2 f.lines.length c2) U4.out O6.out (by decide))
        have U7 := Lib.hid (own_set (j := k * 3 + 2) (u := .slice A2 f.lines.length c2) U5.out O6.out (by decide))
        have B7 : Hid (Below w.heap.size w (w5.setCell ⟨g, k * 3 + 2, none⟩ (.slice A2 f.lines.length c2))) := B6.out.setCell (p := ⟨g, k * 3 + 2, none⟩) GB.out _
        have Z5 : Blk (w5.setCell ⟨g, k * 3 + 2, none⟩ (.slice A2 f.lines.length c2)) gF 68 #[.string f.name, .slice f.A f.also.length f.c, .slice f.L f.lines.length f.d] := Z4.far (fun e => hgn.out e.symm) _
        refine take_val (i := 13) rfl (by kernel_rfl) (by kernel_rfl) (by kernel_rfl) (fun _ _ _ h => h) rfl (fun w' _ => ex_index rfl rfl (indexRun g n cap k hlt w')) Z4 ?_
        simp only [Act.put, List.setIfInBounds_toArray, List.set_cons_zero, List.set_cons_succ]
        refine take_val (i := 14) rfl (by kernel_rfl) (by kernel_rfl) (by kernel_rfl) (fun _ _ _ h => h) rfl (fun w' _ => ex_field rfl (fieldRun g (k * 3) 2 (by omega) w')) Z4 ?_
        simp only [Act.put, List.setIfInBounds_toArray, List.set_cons_zero, List.set_cons_succ]
        refine wpAnyH_all (rs := [15]) (by kernel_rfl) (by simp) ?_
        intro i hi
        simp only [List.mem_cons, List.not_mem_nil, or_false] at hi
        subst hi
        refine wpOp_of rfl rfl (wp_stored1 rfl rfl (hs2 _ _ _) ?_)
        refine ⟨Z5, ?_⟩
        refine wpAnyH_done (by kernel_rfl) ?_ _
        clear hs2 O6 OF6 U4 U5 B6 Z4 Z5
        generalize (w5.setCell ⟨g, k * 3 + 2, none⟩ (.slice A2 f.lines.length c2)) = w6 at *
        have GS2 : Hid ((gs ++ [(⟨f.name, A1, c1, f.also, A2, c2, f.lines⟩ : FileV)]).length = k + 1 ∧ (gs ++ [(⟨f.name, A1, c1, f.also, A2, c2, f.lines⟩ : FileV)]).map plainF = (fs.take (k + 1)).map plainF) := by
          refine ⟨by simp [GS.out.1], ?_⟩
          rw [P1.out, List.map_append, GS.out.2]; rfl
        have OF8 : Hid (∀ f' ∈ gs ++ [(⟨f.name, A1, c1, f.also, A2, c2, f.lines⟩ : FileV)], OwnF w6 w.heap.size f') := fun f' hf' => by
          rcases List.mem_append.1 hf' with h' | h'
          · exact OF7.out f' h'
          · rw [List.mem_singleton] at h'
            subst h'
            exact ⟨U6.out, U7.out, G.out.hn, G.out.za, G.out.zl⟩
        have O8 : Hid (w6.ownsRow w.heap.size 68 3 (.slice (some ⟨g, 0, none⟩) n cap) n (((gs ++ [(⟨f.name, A1, c1, f.also, A2, c2, f.lines⟩ : FileV)]) ++ fs.drop (k + 1)).flatMap fileC)) := by
          have h1 := O7.out
          rw [D1.out] at h1
          have h2 := row_set gs (fs.drop (k + 1)) f (.slice A1 f.also.length c1) (.slice A2 f.lines.length c2)
          rw [GS.out.1] at h2
          rw [h2] at h1
          have h3 : ((gs ++ [(⟨f.name, A1, c1, f.also, A2, c2, f.lines⟩ : FileV)]) ++ fs.drop (k + 1)).flatMap fileC = gs.flatMap fileC ++ ([.string f.name, .slice A1 f.also.length c1, .slice A2 f.lines.length c2] ++ (fs.drop (k + 1)).flatMap fileC) := by
            rw [List.append_assoc, List.flatMap_append, List.flatMap_append]; rfl
          rw [Hid, h3]
          exact h1
        clear GS O7 OF7 U6 U7 D1 P1 hrl hrl2
        go_wp2_with fail
        go_roundw
        case rel => exact ⟨k + 1, _, by omega, by go_num, GS2, O8, OF8, B7⟩
        case measure => simp [intOf]; omega
      · have hk' : k = n := by omega
        subst hk'
        go_wp2
        go_ret
        refine ⟨_, gs, rfl, ⟨GS.out.1, ?_, ?_, OF.out⟩, B.out⟩
        · have := GS.out.2
          rwa [List.take_of_length_le (by rw [HL.out]; exact Nat.le_refl _)] at this
        · have := O.out
          rwa [List.drop_eq_nil_of_le (by rw [HL.out]; exact Nat.le_refl _), List.append_nil] at this
end Go.Proofs.Ytceapefjdiphpaa
