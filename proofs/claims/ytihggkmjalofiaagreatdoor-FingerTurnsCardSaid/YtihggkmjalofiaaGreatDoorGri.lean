/- A graph: a patch is applied: walked. -/
import Derived.Test.YtihggkmjalofiaaGreatDoorGrgs
import Derived.Test.YtihggkmjalofiaaGreatDoorIdxw
namespace Go.Proofs.YtihggkmjalofiaaGreatDoor
open Go.RowKit
open Go.ChangeMaps (setBlock)

theorem rawP_cut0 (p : PatV) (v : VidV) : rawP (cutP p 0) v = none := by
  unfold rawP cutP
  split <;> simp
theorem vertV_cut0 (L : List PatV) (p : PatV) (v : VidV) : vertV (L ++ [cutP p 0]) v = vertV L v := by
  unfold vertV
  rw [rawV_snoc, rawP_cut0, deadV_snoc]
  have : deadP (cutP p 0) v = false := rfl
  rw [this, Bool.or_false]
  simp
theorem edgesOf_cut0 (L : List PatV) (p : PatV) : edgesOf (L ++ [cutP p 0]) = edgesOf L := by rw [edgesOf_snoc]; simp [edgesP, cutP]
theorem opsN_cut0 (L : List PatV) (p : PatV) : opsN (L ++ [cutP p 0]) = opsN L := by rw [opsN_snoc]; simp [cutP]
theorem fileV_cut0 (L : List PatV) (p : PatV) (v : VidV) : fileV (L ++ [cutP p 0]) v = fileV L v := by
  unfold fileV fileF
  rw [rawV_snoc, rawP_cut0]
  simp
theorem setCells_gr {w : World} {g gm ge : Nat} {t : TypeId} {v v' : List Int} (hv : VecOk v) (hv' : VecOk v') (h : Blk w g t (grC v gm ge)) : Blk (w.setCells g 0 (vecA v').toList) g t (grC v' gm ge) := by
  obtain ⟨cs', h1, h2, h3⟩ := Blk.setCells (vecA v').toList 0 w _ h
  have e : cs' = grC v' gm ge := by
    apply Array.ext_getElem?
    intro j
    rw [grC_size hv] at h2 h3
    have hl : (vecA v').toList.length = 64 := by rw [Array.length_toList, vecA_size, hv'.len]
    rcases Nat.lt_or_ge j 66 with hj | hj
    · rw [h3 j hj, hl]
      by_cases hc : j < 64
      · rw [if_pos (by omega)]
        unfold grC
        rw [Array.getElem?_append_left (by rw [vecA_size, hv'.len]; exact hc)]
        simp
      · rw [if_neg (by omega)]
        unfold grC
        rw [Array.getElem?_append_right (by rw [vecA_size, hv.len]; omega), Array.getElem?_append_right (by rw [vecA_size, hv'.len]; omega), vecA_size, vecA_size, hv.len, hv'.len]
    · rw [Array.getElem?_eq_none (by omega), Array.getElem?_eq_none (by rw [grC_size hv']; omega)]
  rw [← e]; exact h1
theorem there_gr {w : World} {g gm ge : Nat} {t : TypeId} {v v' : List Int} (hv : VecOk v) (hv' : VecOk v') (h : Blk w g t (grC v gm ge)) : w.there g 0 (vecA v').size := fun j hj => by
  rw [vecA_size, hv'.len] at hj
  refine ⟨?_, by rw [Nat.zero_add]; exact h.fr j⟩
  rw [Nat.zero_add, h.cell j, Array.getElem?_eq_getElem (by rw [grC_size hv]; omega)]; rfl
/-- the vector is written -/
theorem GrCells.setV {w : World} {F : Nat → Prop} {g gm ge : Nat} {L : List PatV} (h : GrCells w F g L gm ge) (hF : ∀ k, F k → k < w.heap.size) (hg : F g) (p : PatV) :
    GraphM (w.setCells g 0 (vecA (putW (vecL L) p.1)).toList) F g (L ++ [cutP p 0]) ∧ Kept F w (w.setCells g 0 (vecA (putW (vecL L) p.1)).toList) := by
  obtain ⟨f1, f2, f3, f4, f5⟩ := h.inF
  obtain ⟨E, m1, m2, m3⟩ := h.map
  obtain ⟨Ee, e1, e2, e3⟩ := h.emap
  have kep : Kept (fun k => k = g) w (w.setCells g 0 (vecA (putW (vecL L) p.1)).toList) := Kept.setCells (F := fun k => k = g) (.inl rfl) _ 0 _ (Kept.refl _ _)
  refine ⟨⟨fun k hk => Nat.lt_of_lt_of_le (hF k hk) kep.size, hg, gm, ge, E, Ee, ?_, h.inF, m1.keep (kep.block gm h.mlt (Ne.symm f3)), e1.keep (kep.block ge h.elt (Ne.symm f4)), m2.same fun v => vertV_cut0 L p v, e2.same (fun x => by rw [edgesOf_cut0]) (fun x _ => fileV_cut0 L p x.1), by rw [opsN_cut0]; exact m3, by rw [opsN_cut0]; exact e3⟩, kep.mono fun k e => by rw [e]; exact hg⟩
  have hv : vecL (L ++ [cutP p 0]) = putW (vecL L) p.1 := by rw [vecL_cut, vecL_snoc]
  rw [hv]
  exact setCells_gr (vecL_ok L) (putV_ok (vecL_ok L) _ _) h.blk
theorem PatIn.ops' {w : World} {G : Nat → Prop} {p : PatV} {A A' : Option Addr} {c c' : Nat} (h : PatIn w G (patC p.1 A p.2.1.length c A' p.2.2.length c') p) : OpsAt w A' p.2.2.length p.2.2 := by
  obtain ⟨⟨A1, c1, A2, c2, e, _, h2, _, _⟩, _, _⟩ := h
  unfold patC at e
  simp only [List.cons.injEq, Value.slice.injEq, true_and, and_true] at e
  obtain ⟨_, rfl, _⟩ := e
  exact h2
theorem fieldVert0 (g : Nat) (w : World) : (Instr.fieldAt 134 (.pointer (some ⟨g, 0, none⟩)) 0).run Tryz.prog w = .ok (.pointer (some ⟨g, 0, none⟩)) w := by simp [go_sem]
theorem fieldOp2 (g : Nat) (w : World) : (Instr.fieldAt 122 (.pointer (some ⟨g, 0, none⟩)) 2).run Tryz.prog w = .ok (.pointer (some ⟨g, 4, none⟩)) w := by simp [go_sem]
theorem fieldVert2 (x : VertV) (w : World) : (Instr.field 134 (.agg (encX x).toArray) 2).run Tryz.prog w = .ok (.agg (encV x.2.2.1).toArray) w := by kernel_rfl
theorem exFieldV {P : Program} {ρ : Operand → Value} {w : World} {d : Option Tmp} {ty s : TypeId} {pos : String} {after : Array Edge} {gd : Option (Nat × Bool)} {x : Operand} {xv v : Value} {i : Nat} (hx : ρ x = xv) (hr : (Instr.field s xv i).run P w = .ok v w) : (execOp ρ ⟨d, .field s x i, ty, pos, after, gd⟩).run P w = .ok (.value v) w := by
  unfold execOp
  simp only [hx, Sem.run_bind, hr, Result.andThen_ok, Sem.run_pure]
theorem buildEdge (a b : VidV) (w : World) : (Instr.build 137 #[(0, .agg (encV a).toArray), (1, .agg (encV b).toArray)]).run Tryz.prog w = .ok (.agg (encE (a, b)).toArray) w := by kernel_rfl
def ApplyRet (w : World) (F : Nat → Prop) (g : Nat) (L : List PatV) (p : PatV) (e : Ending) (w' : World) : Prop :=
  e = .returned (.int .i64 ((grE L p : Nat) : Int)) ∧ Kept F w w' ∧ GraphAt w' F g (grL L p)
set_option maxRecDepth 100000 in
set_option maxHeartbeats 8000000 in
theorem apply20_any {w : World} {F G : Nat → Prop} {g : Nat} {L : List PatV} (hI : GraphAt w F g L) (p : PatV) (cs : List Value) (hp : PatIn w G cs p) (hGF : ∀ k, G k → ¬ F k) :
    Calls Tryz.prog 15 #[.pointer (some ⟨g, 0, none⟩), .agg cs.toArray] w (ApplyRet w F g L p) := by
  have hp0 := hp
  obtain ⟨⟨A, c, A', c', rfl, _, _, _, _⟩, m1, m2⟩ := hp0
  unfold maxLen at m1 m2
  have K0 : Hid (Blk (w.alloc (.cells (patC p.1 A p.2.1.length c A' p.2.2.length c').toArray 31)) w.heap.size 31 (patC p.1 A p.2.1.length c A' p.2.2.length c').toArray) := Blk.new _ _ _
  have B0 : Hid (Below w.heap.size w (w.alloc (.cells (patC p.1 A p.2.1.length c A' p.2.2.length c').toArray 31))) := below_new _ _
  have HI := Lib.hid (hI.ext B0.out)
  have HPA := Lib.hid (hp.ext B0.out)
  have hFw : Hid (∀ k, F k → k < w.heap.size) := hI.mem.lt
  have hg : Hid (F g) := hI.mem.self
  have hGF := Lib.hid hGF
  have KW0 : Hid (Kept F w (w.alloc (.cells (patC p.1 A p.2.1.length c A' p.2.2.length c').toArray 31))) := Kept.of_below B0.out
  clear hI hp
  go_enter Tryz.func15, Tryz.ntmps15
  go_upto_region 1 with fail
  generalize (w.alloc (.cells (patC p.1 A p.2.1.length c A' p.2.2.length c').toArray 31)) = w2 at *
  obtain ⟨g3, hg3⟩ : ∃ g3, g3 = w.heap.size := ⟨_, rfl⟩
  rw [← hg3] at K0 ⊢
  have hg3F : Hid (¬ F g3) := fun h => by have := hFw.out g3 h; omega
  replace hg3 := Lib.hid hg3
  have HC := Lib.hid (check20_any HI.out p _ HPA.out.at_)
  go_wp2_with (refine wpList_load_row rfl 31 _ (by rfl) g3 (by rfl) _ _ _ _ K0.out underPat rfl infoPat ?_)
  refine HC.out.mono ?_
  rintro e w3 ⟨rfl, b3⟩
  have KW3 := Lib.hid (KW0.out.then b3)
  have K3 := Lib.hid (K0.out.ext b3)
  have HI3 := Lib.hid (HI.out.ext b3)
  have HP3 := Lib.hid (HPA.out.ext b3)
  clear b3 K0 HI HPA KW0 HC B0
  by_cases h0 : grE L p = 0
  · have e0 : ((grE L p : Nat) : Int) = 0 := by rw [h0]; rfl
    have hgrl : Hid (grL L p = L ++ [p]) := by rw [Hid]; unfold grL; rw [if_pos h0]
    have hEz : Hid (((grE L p : Nat) : Int) = ((0 : Nat) : Int)) := e0
    rw [e0]
    clear e0
    have h0 := Lib.hid h0
    have hL := Lib.hid HI3.out.ok
    obtain ⟨gm, ge, GC⟩ := HI3.out.mem.cells
    have RV := Lib.hid GC.v
    have gl := Lib.hid GC.lt
    have SV := Lib.hid (fun (u : World) (hu : Below w3.heap.size w3 u) => (HI3.out.mem.ext hu))
    have KG := Lib.hid GC.blk
    clear GC
    have RP := Lib.hid (patC_pid K3.out)
    have g3l : Hid (g3 < w3.heap.size) := K3.out.lt
    have HU : Hid (∀ u : World, Calls Tryz.prog 66 #[.agg ((vecL L).map (Value.int .u16)).toArray, .agg (encP p.1).toArray] u (RetB u (.tuple #[.agg (vecA (putW (vecL L) p.1)), .bool (putB (vecL L) p.1)]))) := fun u => put_any (vecL L) (vecL_ok L) p.1.1.val p.1.1.isLt _ ⟨by omega, by have := p.1.2.isLt; omega⟩ u
    have hcP : ∀ args u, (callFunc 66 args).run Tryz.prog u = .ok (.enter 66 args) u := enters_of Tryz.func66 (by kernel_rfl) rfl
    have hsz2 : Hid ((Tryz.prog.info? 75).map (·.size) = some (vecA (putW (vecL L) p.1)).size) := by rw [Hid, vecA_size, show (putW (vecL L) p.1).length = 64 from (putV_ok (vecL_ok L) p.1.1.val ((p.1.2.val : Nat) : Int)).len]; exact info64
    have hone := Lib.hid (vecA_one (putW (vecL L) p.1))
    go_upto_region 4 with fail
    refine wp_region_Z (S := fun w' => Below w3.heap.size w3 w') (Z := [13]) mixedS ?_
    have B5 : Hid (Below w3.heap.size w3 w3.drew) := (Below.refl _ _).drew
    change wpAnyZ _ _ _ _ _ _ _ _ _ w3.drew
    generalize w3.drew = w3d at *
    simp only [List.size_toArray, List.length_cons, List.length_nil]
    refine zV (i := 0) rfl (by kernel_rfl) (by kernel_rfl) (by kernel_rfl) (by kernel_rfl) (by kernel_rfl) (fun _ _ _ h => h) rfl (fun w' h => exMove (v := .pointer (some ⟨g, 0, none⟩)) rfl) B5.out ?_
    simp only [Act.put, List.setIfInBounds_toArray, List.set_cons_zero, List.set_cons_succ]
    refine zV (i := 1) rfl (by kernel_rfl) (by kernel_rfl) (by kernel_rfl) (by kernel_rfl) (by kernel_rfl) (fun _ _ _ h => h) rfl (fun w' h => exMove (v := .pointer (some ⟨g, 0, none⟩)) rfl) B5.out ?_
    simp only [Act.put, List.setIfInBounds_toArray, List.set_cons_zero, List.set_cons_succ]
    refine zV (i := 2) rfl (by kernel_rfl) (by kernel_rfl) (by kernel_rfl) (by kernel_rfl) (by kernel_rfl) (fun _ _ _ h => h) rfl (fun w' h => exNil rfl) B5.out ?_
    simp only [Act.put, List.setIfInBounds_toArray, List.set_cons_zero, List.set_cons_succ]
    refine zV (i := 3) rfl (by kernel_rfl) (by kernel_rfl) (by kernel_rfl) (by kernel_rfl) (by kernel_rfl) (fun _ _ _ h => h) rfl (fun w' h => exField rfl (fieldGr0 g w')) B5.out ?_
    simp only [Act.put, List.setIfInBounds_toArray, List.set_cons_zero, List.set_cons_succ]
    refine zV (i := 4) rfl (by kernel_rfl) (by kernel_rfl) (by kernel_rfl) (by kernel_rfl) (by kernel_rfl) (fun _ _ _ h => h) rfl (fun w' h => exMid rfl (rangeAt_below RV.out h gl.out) under64 rfl (info64' (vecL_ok L))) B5.out ?_
    simp only [Act.put, List.setIfInBounds_toArray, List.set_cons_zero, List.set_cons_succ]
    refine zV (i := 5) rfl (by kernel_rfl) (by kernel_rfl) (by kernel_rfl) (by kernel_rfl) (by kernel_rfl) (fun _ _ _ h => h) rfl (fun w' h => exField rfl (fieldPat0 g3 w')) B5.out ?_
    simp only [Act.put, List.setIfInBounds_toArray, List.set_cons_zero, List.set_cons_succ]
    refine zV (i := 6) rfl (by kernel_rfl) (by kernel_rfl) (by kernel_rfl) (by kernel_rfl) (by kernel_rfl) (fun _ _ _ h => h) rfl (fun w' h => exMid rfl (rangeAt_below RP.out h g3l.out) underPid rfl infoPid) B5.out ?_
    simp only [Act.put, List.setIfInBounds_toArray, List.set_cons_zero, List.set_cons_succ]
    refine wpAnyZ_all (rs := [7]) (by kernel_rfl) (by simp) ?_
    intro i hi
    simp only [List.mem_cons, List.not_mem_nil, or_false] at hi
    subst hi
    refine wpOp_of rfl rfl (wp_called (args := #[.agg ((vecL L).map (Value.int .u16)).toArray, .agg (encP p.1).toArray]) hcP (by simp only [List.map_toArray, List.map_cons, List.map_nil]; rfl) (HU.out w3d) ?_)
    rintro e w4 ⟨rfl, b6⟩
    have B6 := Lib.hid (ext_trans B5.out b6)
    refine ⟨_, rfl, fun _ => B6.out, ?_⟩
    simp only [Act.put, List.setIfInBounds_toArray, List.set_cons_zero, List.set_cons_succ]
    clear b6 B5
    refine zV (i := 8) rfl (by kernel_rfl) (by kernel_rfl) (by kernel_rfl) (by kernel_rfl) (by kernel_rfl) (fun _ _ _ h => h) rfl (fun w' h => exMove (v := .tuple #[.agg (vecA (putW (vecL L) p.1)), .bool (putB (vecL L) p.1)]) rfl) B6.out ?_
    simp only [Act.put, List.setIfInBounds_toArray, List.set_cons_zero, List.set_cons_succ]
    refine zV (i := 9) rfl (by kernel_rfl) (by kernel_rfl) (by kernel_rfl) (by kernel_rfl) (by kernel_rfl) (fun _ _ _ h => h) rfl (fun w' h => exExtract rfl rfl) B6.out ?_
    simp only [Act.put, List.setIfInBounds_toArray, List.set_cons_zero, List.set_cons_succ]
    refine zLight (i := 10) rfl (by kernel_rfl) (by kernel_rfl) (by kernel_rfl) (by kernel_rfl) (fun _ _ _ h => h) rfl (fun w' => exExtract rfl rfl) (fun _ => B6.out) ?_
    simp only [Act.put, List.setIfInBounds_toArray, List.set_cons_zero, List.set_cons_succ]
    refine zLight (i := 11) rfl (by kernel_rfl) (by kernel_rfl) (by kernel_rfl) (by kernel_rfl) (fun _ _ _ h => h) rfl (fun w' => exNil rfl) (fun _ => B6.out) ?_
    simp only [Act.put, List.setIfInBounds_toArray, List.set_cons_zero, List.set_cons_succ]
    refine zLight (i := 12) rfl (by kernel_rfl) (by kernel_rfl) (by kernel_rfl) (by kernel_rfl) (fun _ _ _ h => h) rfl (fun w' => exField rfl (fieldGr0 g w')) (fun _ => B6.out) ?_
    simp only [Act.put, List.setIfInBounds_toArray, List.set_cons_zero, List.set_cons_succ]
    have HM4 := Lib.hid (SV.out w4 B6.out)
    have K4 := Lib.hid (K3.out.ext B6.out)
    have HP4 := Lib.hid (HP3.out.ext B6.out)
    have KW4 := Lib.hid (KW3.out.then B6.out)
    clear SV KG K3 HP3 KW3 RV RP gl g3l HU HI3 B6
    obtain ⟨gm', ge', GC⟩ := HM4.out.cells
    have HTH := Lib.hid (there_gr (vecL_ok L) (putV_ok (vecL_ok L) p.1.1.val ((p.1.2.val : Nat) : Int)) GC.blk)
    have HSV := Lib.hid (GC.setV HM4.out.lt hg.out p)
    clear GC HM4
    refine wpAnyZ_all (rs := [13]) (by kernel_rfl) (by simp) ?_
    intro i hi
    simp only [List.mem_cons, List.not_mem_nil, or_false] at hi
    subst hi
    refine wpOp_of rfl rfl (wpStored1 rfl rfl (run_storeAt_mid w4 g 0 75 (vecA (putW (vecL L) p.1)) HTH.out hsz2.out hone.out) ?_)
    refine ⟨noZ (by kernel_rfl), ?_⟩
    have M5 := Lib.hid HSV.out.1
    have k5 := HSV.out.2
    have K5 := Lib.hid (k5.blk K4.out hg3F.out)
    have HP5 := Lib.hid (HP4.out.stay (k5.stay fun k _ h h2 => hGF.out k h h2))
    have KW5 := Lib.hid (KW4.out.trans k5 fun x e => .inl e)
    clear k5 HSV HTH hsz2 hone K4 HP4 KW4
    generalize (w4.setCells g 0 (vecA (putW (vecL L) p.1)).toList) = w5 at *
    refine wpAnyZ_done (by kernel_rfl) ?_ _
    have y3 : w5.cell? ⟨g3, 3, none⟩ = some (.slice A' p.2.2.length c') := K5.out.cell 3
    have KR0 : Hid (Kept F w5 w5) := Kept.refl _ _
    have n200 := Lib.hid (patB_parts (grE_zero h0.out).1).2.2.1
    go_wp2_with fail
    go_loopw [32] (fun i wr => ∃ k : Nat, k ≤ p.2.2.length ∧ i = .int .i64 k ∧ Hid (GraphM wr F g (L ++ [cutP p k])) ∧ Hid (Kept F w5 wr)) (fun i _ => p.2.2.length - (intOf i).toNat)
    case atStart => exact ⟨0, by omega, rfl, M5.out, KR0.out⟩
    case round =>
      clear M5 KR0
      obtain ⟨k, hk, rfl, M, KWr⟩ := hrel
      have hk0 : (0 : Int) ≤ (k : Int) := by omega
      by_cases hlt : k < p.2.2.length
      · have hlk : (k : Int) < (p.2.2.length : Int) := by omega
        have HPr := Lib.hid (HP5.out.stay (KWr.out.stay fun k _ h h2 => hGF.out k h h2))
        obtain ⟨b, oo, o, rfl, hb, hx, R, _⟩ := HPr.out.ops'.at_ hlt
        have R := Lib.hid R
        have Kr := Lib.hid (KWr.out.blk K5.out hg3F.out)
        have KZ : Hid (Blk (wr.alloc (.cells #[.int .u8 0, .int .u8 0, .int .u16 0, .int .u8 0, .int .u8 0, .int .u16 0, .int .u8 0, .string ByteArray.empty] 122)) wr.heap.size 122 #[.int .u8 0, .int .u8 0, .int .u16 0, .int .u8 0, .int .u8 0, .int .u16 0, .int .u8 0, .string ByteArray.empty]) := Blk.new _ _ _
        have KO6 : Hid (Blk ((wr.alloc (.cells #[.int .u8 0, .int .u8 0, .int .u16 0, .int .u8 0, .int .u8 0, .int .u16 0, .int .u8 0, .string ByteArray.empty] 122)).setRow wr.heap.size (encO o).toArray) wr.heap.size 122 (encO o).toArray) := KZ.out.row _
        have BN : Hid (Below wr.heap.size wr ((wr.alloc (.cells #[.int .u8 0, .int .u8 0, .int .u16 0, .int .u8 0, .int .u8 0, .int .u16 0, .int .u8 0, .string ByteArray.empty] 122)).setRow wr.heap.size (encO o).toArray)) := below_setRow (below_new wr _) (Nat.le_refl _) _
        have M6 := Lib.hid (M.out.ext BN.out)
        have HP6 := Lib.hid (HPr.out.ext BN.out)
        have K6 := Lib.hid (Kr.out.ext BN.out)
        have KW6 := Lib.hid (KWr.out.then BN.out)
        have hgoF : Hid (¬ F wr.heap.size) := fun h => by have := M.out.lt _ h; omega
        go_upto_region 11 with (first
          | (refine wpList_load_mid rfl 122 _ (by rfl) b (oo + k * 8) (by rfl) _ _ R.out underOp rfl infoOp ?_)
          | (refine wpList_alloced (allocOp _) ?_)
          | (refine wpList_store_row rfl 122 _ _ (by rfl) wr.heap.size (encO o).toArray (by rfl) (by rfl) _ _ KZ.out infoOp rfl (by simp [encO, Value.oneCell']) ?_))
        generalize ((wr.alloc (.cells #[.int .u8 0, .int .u8 0, .int .u16 0, .int .u8 0, .int .u8 0, .int .u16 0, .int .u8 0, .string ByteArray.empty] 122)).setRow wr.heap.size (encO o).toArray) = w6 at *
        clear KZ BN R M HPr Kr KWr
        generalize wr.heap.size = go at *
        have yk : w6.cell? ⟨go, 0, none⟩ = some (.int .u8 ((o.1.val : Nat) : Int)) := KO6.out.cell 0
        have HM := Lib.hid (makes_any ((o.1.val : Nat) : Int) w6 ⟨by omega, by have := o.1.isLt; omega⟩)
        rw [makesO_eq] at HM
        cases hm : makesO o
        · rw [hm] at HM
          have hk5 := (goodO_kind (gr_one h0.out hx)).2
          have hk4 : 4 ≤ o.1.val := by have := (goodO_kind (gr_one h0.out hx)).1; unfold makesO at hm; have := of_decide_eq_false hm; omega
          go_wp2_with fail
          refine HM.out.mono ?_
          rintro e _ ⟨rfl, rfl⟩
          by_cases h4 : o.1.val = 4
          · have z4 : (((o.1.val : Nat) : Int) == 4) = true := by rw [beq_iff_eq]; omega
            replace h4 := Lib.hid h4
            go_upto_region 15 with fail
            clear yk HM z4
            have D6 := (Below.refl w6.heap.size w6).drew
            have M8 := Lib.hid (M6.out.ext D6)
            have KO := Lib.hid (KO6.out.ext D6)
            have KW8 := Lib.hid (KW6.out.then D6)
            clear M6 HP6 K6 KO6 KW6 D6
            obtain ⟨gm, ge, GC⟩ := M8.out.cells
            refine wp_region_held (S := fun w' => Kept (fun k => k = ge) w6.drew w') mixedS ?_
            change wpAnyH _ _ _ _ _ _ _ _ w6.drew
            generalize w6.drew = w8 at *
            have hinF := Lib.hid GC.inF
            have KG := Lib.hid GC.blk
            have hgo : Hid (¬ (fun k => k = ge) go) := fun h => hgoF.out (by have h : go = ge := h; rw [h]; exact hinF.out.2.1)
            have HC1 : Hid (∀ w', Kept (fun k => k = ge) w8 w' → w'.cell? ⟨g, 64, none⟩ = some (.map (some gm))) := fun w' h => gr_m (vecL_ok _) (h.blk KG.out hinF.out.2.2.2.1)
            have HC2 : Hid (∀ w', Kept (fun k => k = ge) w8 w' → w'.cell? ⟨g, 65, none⟩ = some (.map (some ge))) := fun w' h => gr_e (vecL_ok _) (h.blk KG.out hinF.out.2.2.2.1)
            obtain ⟨E, hE1, hE2, hE3⟩ := GC.map
            have HL : Hid (∀ w', Kept (fun k => k = ge) w8 w' → (Instr.lookup 126 (.map (some gm)) (.agg (encV o.2.1).toArray) false).run Tryz.prog w' = .ok (.agg (encX (vertD (L ++ [cutP p k]) o.2.1)).toArray) w') := fun w' h => (hE2.look hE1 o.2.1).2 w' (h.block gm GC.mlt hinF.out.2.2.2.2)
            obtain ⟨Ee, hM1, hM2, hM3⟩ := GC.emap
            obtain ⟨kl, hkl⟩ := kKeyE (o.2.1, o.2.2.1)
            obtain ⟨ob, Ee', hrun, hput, hM'⟩ := hM1.put (val := .agg (encV (vertD (L ++ [cutP p k]) o.2.1).2.2.1).toArray) kLawE kMapEdge hkl
            have HST := Lib.hid (step_edge hL.out h0.out hx h4.out GC M8.out.lt hg.out hM2 hM1.apart hM3 hput hM')
            clear hE1 hE2 hE3 hM1 hM2 hM3 hput hM' hkl GC M8
            generalize vertD (L ++ [cutP p k]) o.2.1 = x at *
            have B9 : Hid (Kept (fun k => k = ge) w8 w8) := Kept.refl _ _
            simp only [List.size_toArray, List.length_cons, List.length_nil]
            refine takeV (i := 0) (d := 70) (v := .pointer (some ⟨g, 0, none⟩)) rfl (by kernel_rfl) (by kernel_rfl) (by kernel_rfl) (fun _ _ _ h => h) rfl (fun _ _ => exMove (v := .pointer (some ⟨g, 0, none⟩)) rfl) B9.out ?_
            simp only [Act.put, List.setIfInBounds_toArray, List.set_cons_zero, List.set_cons_succ]
            refine takeV (i := 1) (d := 71) (v := .pointer (some ⟨g, 0, none⟩)) rfl (by kernel_rfl) (by kernel_rfl) (by kernel_rfl) (fun _ _ _ h => h) rfl (fun _ _ => exNil rfl) B9.out ?_
            simp only [Act.put, List.setIfInBounds_toArray, List.set_cons_zero, List.set_cons_succ]
            refine takeV (i := 2) (d := 72) (v := .pointer (some ⟨g, 65, none⟩)) rfl (by kernel_rfl) (by kernel_rfl) (by kernel_rfl) (fun _ _ _ h => h) rfl (fun w' _ => exField rfl (fieldGr2 g w')) B9.out ?_
            simp only [Act.put, List.setIfInBounds_toArray, List.set_cons_zero, List.set_cons_succ]
            refine takeV (i := 3) (d := 73) (v := .map (some ge)) rfl (by kernel_rfl) (by kernel_rfl) (by kernel_rfl) (fun _ _ _ h => h) rfl (fun w' h => exLoad rfl (loadEdgeMap g 65 w' ge (HC2.out w' h))) B9.out ?_
            simp only [Act.put, List.setIfInBounds_toArray, List.set_cons_zero, List.set_cons_succ]
            refine takeV (i := 4) (d := 74) (v := .pointer (some ⟨go, 1, none⟩)) rfl (by kernel_rfl) (by kernel_rfl) (by kernel_rfl) (fun _ _ _ h => h) rfl (fun w' _ => exField rfl (fieldOp1 go w')) B9.out ?_
            simp only [Act.put, List.setIfInBounds_toArray, List.set_cons_zero, List.set_cons_succ]
            refine takeV (i := 5) (d := 75) (v := .agg (encV o.2.1).toArray) rfl (by kernel_rfl) (by kernel_rfl) (by kernel_rfl) (fun _ _ _ h => h) rfl (fun w' h => exMid rfl (op_at1 (h.blk KO.out hgo.out)) underVid rfl infoVid) B9.out ?_
            simp only [Act.put, List.setIfInBounds_toArray, List.set_cons_zero, List.set_cons_succ]
            refine takeV (i := 6) (d := 76) (v := .pointer (some ⟨go, 4, none⟩)) rfl (by kernel_rfl) (by kernel_rfl) (by kernel_rfl) (fun _ _ _ h => h) rfl (fun w' _ => exField rfl (fieldOp2 go w')) B9.out ?_
            simp only [Act.put, List.setIfInBounds_toArray, List.set_cons_zero, List.set_cons_succ]
            refine takeV (i := 7) (d := 77) (v := .agg (encV o.2.2.1).toArray) rfl (by kernel_rfl) (by kernel_rfl) (by kernel_rfl) (fun _ _ _ h => h) rfl (fun w' h => exMid rfl (op_at4 (h.blk KO.out hgo.out)) underVid rfl infoVid) B9.out ?_
            simp only [Act.put, List.setIfInBounds_toArray, List.set_cons_zero, List.set_cons_succ]
            refine takeV (i := 8) (d := 78) (v := .agg (encE (o.2.1, o.2.2.1)).toArray) rfl (by kernel_rfl) (by kernel_rfl) (by kernel_rfl) (fun _ _ _ h => h) rfl (fun w' _ => exBuild (vs := #[(0, .agg (encV o.2.1).toArray), (1, .agg (encV o.2.2.1).toArray)]) (by simp only [List.map_toArray, List.map_cons, List.map_nil]; rfl) (buildEdge _ _ w')) B9.out ?_
            simp only [Act.put, List.setIfInBounds_toArray, List.set_cons_zero, List.set_cons_succ]
            refine takeV (i := 9) (d := 79) (v := .pointer (some ⟨g, 0, none⟩)) rfl (by kernel_rfl) (by kernel_rfl) (by kernel_rfl) (fun _ _ _ h => h) rfl (fun _ _ => exMove (v := .pointer (some ⟨g, 0, none⟩)) rfl) B9.out ?_
            simp only [Act.put, List.setIfInBounds_toArray, List.set_cons_zero, List.set_cons_succ]
            refine takeV (i := 10) (d := 80) (v := .pointer (some ⟨g, 0, none⟩)) rfl (by kernel_rfl) (by kernel_rfl) (by kernel_rfl) (fun _ _ _ h => h) rfl (fun _ _ => exNil rfl) B9.out ?_
            simp only [Act.put, List.setIfInBounds_toArray, List.set_cons_zero, List.set_cons_succ]
            refine takeV (i := 11) (d := 81) (v := .pointer (some ⟨g, 64, none⟩)) rfl (by kernel_rfl) (by kernel_rfl) (by kernel_rfl) (fun _ _ _ h => h) rfl (fun w' _ => exField rfl (fieldGr1 g w')) B9.out ?_
            simp only [Act.put, List.setIfInBounds_toArray, List.set_cons_zero, List.set_cons_succ]
            refine takeV (i := 12) (d := 82) (v := .map (some gm)) rfl (by kernel_rfl) (by kernel_rfl) (by kernel_rfl) (fun _ _ _ h => h) rfl (fun w' h => exLoad rfl (loadVertMap g 64 w' gm (HC1.out w' h))) B9.out ?_
            simp only [Act.put, List.setIfInBounds_toArray, List.set_cons_zero, List.set_cons_succ]
            refine takeV (i := 13) (d := 83) (v := .pointer (some ⟨go, 1, none⟩)) rfl (by kernel_rfl) (by kernel_rfl) (by kernel_rfl) (fun _ _ _ h => h) rfl (fun w' _ => exField rfl (fieldOp1 go w')) B9.out ?_
            simp only [Act.put, List.setIfInBounds_toArray, List.set_cons_zero, List.set_cons_succ]
            refine takeV (i := 14) (d := 84) (v := .agg (encV o.2.1).toArray) rfl (by kernel_rfl) (by kernel_rfl) (by kernel_rfl) (fun _ _ _ h => h) rfl (fun w' h => exMid rfl (op_at1 (h.blk KO.out hgo.out)) underVid rfl infoVid) B9.out ?_
            simp only [Act.put, List.setIfInBounds_toArray, List.set_cons_zero, List.set_cons_succ]
            refine takeV (i := 15) (d := 85) (v := .agg (encX x).toArray) rfl (by kernel_rfl) (by kernel_rfl) (by kernel_rfl) (fun _ _ _ h => h) rfl (fun w' h => exLook rfl rfl (HL.out w' h)) B9.out ?_
            simp only [Act.put, List.setIfInBounds_toArray, List.set_cons_zero, List.set_cons_succ]
            refine takeV (i := 16) (d := 86) (v := .agg (encV x.2.2.1).toArray) rfl (by kernel_rfl) (by kernel_rfl) (by kernel_rfl) (fun _ _ _ h => h) rfl (fun w' _ => exFieldV rfl (fieldVert2 x w')) B9.out ?_
            simp only [Act.put, List.setIfInBounds_toArray, List.set_cons_zero, List.set_cons_succ]
            refine wpAnyH_all (rs := [17]) (by kernel_rfl) (by simp) ?_
            intro i hi
            simp only [List.mem_cons, List.not_mem_nil, or_false] at hi
            subst hi
            refine wpOp_of rfl rfl (wp_mapputted rfl rfl rfl hrun ?_)
            refine ⟨Kept.setBlock (F := fun k => k = ge) B9.out (.inl rfl) ob, ?_⟩
            refine wpAnyH_done (by kernel_rfl) ?_ _
            have HMn := Lib.hid HST.out.1
            have KWn := Lib.hid (KW8.out.trans HST.out.2 fun x e => .inl e)
            clear HST KW8 B9 hrun
            generalize setBlock w8 ge ob = w10 at *
            go_wp2_with fail
            go_roundw
            case rel => exact ⟨_, _, _, _, _, ⟨k + 1, by omega, by go_num, HMn.out⟩, rfl, rfl, rfl, rfl, rfl⟩
            case measure => simp [intOf]; omega
          · have h5 : Hid (o.1.val = 5) := by rw [Hid]; omega
            have z4 : (((o.1.val : Nat) : Int) == 4) = false := by rw [beq_eq_false_iff_ne]; omega
            replace h4 := Lib.hid h4
            go_upto_region 8 with fail
            clear yk HM z4
            obtain ⟨gm, ge, GC6⟩ := M6.out.cells
            obtain ⟨E, hE1, hE2, hE3⟩ := GC6.map
            have HC1 : Hid (∀ w', Below w6.heap.size w6 w' → w'.cell? ⟨g, 64, none⟩ = some (.map (some gm))) := fun w' h => GC6.m ⟨w', h⟩
            have HL : Hid (∀ w', Below w6.heap.size w6 w' → (Instr.lookup 126 (.map (some gm)) (.agg (encV o.2.1).toArray) false).run Tryz.prog w' = .ok (.agg (encX (vertD (L ++ [cutP p k]) o.2.1)).toArray) w') := fun w' h => (hE2.look hE1 o.2.1).2 w' (h.block gm GC6.mlt)
            clear hE1 hE2 hE3 GC6
            have KO := KO6
            clear KO6
            obtain ⟨x, hxx⟩ : ∃ x, x = vertD (L ++ [cutP p k]) o.2.1 := ⟨_, rfl⟩
            rw [← hxx] at HL
            replace hxx := Lib.hid hxx
            refine wp_region_held (S := fun w' => Below w6.heap.size w6 w') mixedS ?_
            change wpAnyH _ _ _ _ _ _ _ _ w6.drew
            have B7 : Hid (Below w6.heap.size w6 w6.drew) := (Below.refl _ _).drew
            generalize w6.drew = w7d at B7 ⊢
            simp only [List.size_toArray, List.length_cons, List.length_nil]
            refine takeV (i := 0) (d := 37) (v := .pointer (some ⟨g, 0, none⟩)) rfl (by kernel_rfl) (by kernel_rfl) (by kernel_rfl) (fun _ _ _ h => h) rfl (fun _ _ => exMove (v := .pointer (some ⟨g, 0, none⟩)) rfl) B7.out ?_
            simp only [Act.put, List.setIfInBounds_toArray, List.set_cons_zero, List.set_cons_succ]
            refine takeV (i := 1) (d := 38) (v := .pointer (some ⟨g, 0, none⟩)) rfl (by kernel_rfl) (by kernel_rfl) (by kernel_rfl) (fun _ _ _ h => h) rfl (fun _ _ => exNil rfl) B7.out ?_
            simp only [Act.put, List.setIfInBounds_toArray, List.set_cons_zero, List.set_cons_succ]
            refine takeV (i := 2) (d := 39) (v := .pointer (some ⟨g, 64, none⟩)) rfl (by kernel_rfl) (by kernel_rfl) (by kernel_rfl) (fun _ _ _ h => h) rfl (fun w' _ => exField rfl (fieldGr1 g w')) B7.out ?_
            simp only [Act.put, List.setIfInBounds_toArray, List.set_cons_zero, List.set_cons_succ]
            refine takeV (i := 3) (d := 40) (v := .map (some gm)) rfl (by kernel_rfl) (by kernel_rfl) (by kernel_rfl) (fun _ _ _ h => h) rfl (fun w' h => exLoad rfl (loadVertMap g 64 w' gm (HC1.out w' h))) B7.out ?_
            simp only [Act.put, List.setIfInBounds_toArray, List.set_cons_zero, List.set_cons_succ]
            refine takeV (i := 4) (d := 41) (v := .pointer (some ⟨go, 1, none⟩)) rfl (by kernel_rfl) (by kernel_rfl) (by kernel_rfl) (fun _ _ _ h => h) rfl (fun w' _ => exField rfl (fieldOp1 go w')) B7.out ?_
            simp only [Act.put, List.setIfInBounds_toArray, List.set_cons_zero, List.set_cons_succ]
            refine takeV (i := 5) (d := 42) (v := .agg (encV o.2.1).toArray) rfl (by kernel_rfl) (by kernel_rfl) (by kernel_rfl) (fun _ _ _ h => h) rfl (fun w' h => exMid rfl (op_at1 (KO.out.ext h)) underVid rfl infoVid) B7.out ?_
            simp only [Act.put, List.setIfInBounds_toArray, List.set_cons_zero, List.set_cons_succ]
            refine takeV (i := 6) (d := 43) (v := .agg (encX x).toArray) rfl (by kernel_rfl) (by kernel_rfl) (by kernel_rfl) (fun _ _ _ h => h) rfl (fun w' h => exLook rfl rfl (HL.out w' h)) B7.out ?_
            simp only [Act.put, List.setIfInBounds_toArray, List.set_cons_zero, List.set_cons_succ]
            refine wpAnyH_all (rs := [7]) (by kernel_rfl) (by simp) ?_
            intro i hi
            simp only [List.mem_cons, List.not_mem_nil, or_false] at hi
            subst hi
            refine wpOp_of rfl rfl (wp_alloced (allocVert _) ?_)
            refine ⟨ext_trans B7.out (below_new _ _), ?_⟩
            simp only [Act.put, List.setIfInBounds_toArray, List.set_cons_zero, List.set_cons_succ]
            have K_1 : Hid (Blk (w7d.alloc (.cells zeroX 134)) w7d.heap.size 134 zeroX) := Blk.new _ _ _
            have h_2 : Below w7d.heap.size w7d (w7d.alloc (.cells zeroX 134)) := below_new _ _
            have gz_4 : Hid (w6.heap.size ≤ w7d.heap.size) := B7.out.size
            generalize (w7d.alloc (.cells zeroX 134)) = w_3 at *
            have B_6 := Lib.hid (ext_trans B7.out h_2)
            clear B7
            clear h_2
            generalize w7d.heap.size = g_5 at *
            refine wpAnyH_all (rs := [8]) (by kernel_rfl) (by simp) ?_
            intro i hi
            simp only [List.mem_cons, List.not_mem_nil, or_false] at hi
            subst hi
            refine wpOp_of rfl rfl (wp_stored (cs := (encX x).toArray) rfl rfl K_1.out infoVert rfl (encX_all x) ?_)
            refine ⟨below_setRow B_6.out gz_4.out _, ?_⟩
            have K_7 := Lib.hid (K_1.out.row (encX x).toArray)
            have B_8 := Lib.hid (below_setRow B_6.out gz_4.out (encX x).toArray)
            clear B_6 K_1
            refine wpAnyH_done (by kernel_rfl) ?_ _
            have KX := K_7
            have BX := B_8
            clear B_8 K_7
            generalize (w_3.setRow g_5 (encX x).toArray) = w7 at *
            have hgx0 : Hid (w6.heap.size ≤ g_5) := gz_4.out
            generalize g_5 = gx at *
            have M7 := Lib.hid (M6.out.ext BX.out)
            have KO7 := Lib.hid (KO.out.ext BX.out)
            have KW7 := Lib.hid (KW6.out.then BX.out)
            have hgxF : Hid (¬ F gx) := fun h => by have := M6.out.lt _ h; have := hgx0.out; omega
            have hgxo : Hid (gx ≠ go) := by have := KO.out.lt; have := hgx0.out; rw [Hid]; omega
            have hgxw : Hid (w5.heap.size ≤ gx) := Nat.le_trans KW6.out.size hgx0.out
            clear HC1 HL KO M6 HP6 K6 KW6 BX hgx0
            have y8 : w7.cell? ⟨gx, 8, none⟩ = some (.bool x.2.2.2.2) := KX.out.cell 8
            have f8 : w7.frozen? ⟨gx, 8, none⟩ = false := KX.out.fr 8
            go_wp2_with fail
            have kx : Kept (fun k => k = gx) w7 (w7.setCell ⟨gx, 8, none⟩ (.bool true)) := (Kept.refl (fun k => k = gx) w7).setCell (p := ⟨gx, 8, none⟩) (.inl rfl) _
            have KX9 : Hid (Blk (w7.setCell ⟨gx, 8, none⟩ (.bool true)) gx 134 (encX (killX x)).toArray) := KX.out.set_ 8 (.bool true)
            have M9 := Lib.hid (M7.out.stay (kx.stay fun k _ h e => hgxF.out (by have e : k = gx := e; rw [← e]; exact h)))
            have KO9 := Lib.hid (kx.blk KO7.out (fun e => hgxo.out (by have e : go = gx := e; exact e.symm)))
            have KW9 := Lib.hid (KW7.out.trans kx fun y e => .inr (by have e : y = gx := e; rw [e]; exact hgxw.out))
            clear kx KX M7 KO7 KW7 y8 f8
            generalize (w7.setCell ⟨gx, 8, none⟩ (.bool true)) = w9 at *
            have D6 := (Below.refl w9.heap.size w9).drew
            have M8 := Lib.hid (M9.out.ext D6)
            have KO := Lib.hid (KO9.out.ext D6)
            have KX := Lib.hid (KX9.out.ext D6)
            have KW8 := Lib.hid (KW9.out.then D6)
            clear M9 KO9 KX9 KW9 D6
            obtain ⟨gm2, ge2, GC⟩ := M8.out.cells
            refine wp_region_held (S := fun w' => Kept (fun k => k = gm2) w9.drew w') mixedS ?_
            change wpAnyH _ _ _ _ _ _ _ _ w9.drew
            generalize w9.drew = w8 at *
            have hinF := Lib.hid GC.inF
            have KG := Lib.hid GC.blk
            have hgo : Hid (¬ (fun k => k = gm2) go) := fun h => hgoF.out (by have h : go = gm2 := h; rw [h]; exact hinF.out.1)
            have hgx : Hid (¬ (fun k => k = gm2) gx) := fun h => hgxF.out (by have h : gx = gm2 := h; rw [h]; exact hinF.out.1)
            have HC1 : Hid (∀ w', Kept (fun k => k = gm2) w8 w' → w'.cell? ⟨g, 64, none⟩ = some (.map (some gm2))) := fun w' h => gr_m (vecL_ok _) (h.blk KG.out hinF.out.2.2.1)
            obtain ⟨E, hM1, hM2, hM3⟩ := GC.map
            obtain ⟨kl, hkl⟩ := kKeyV o.2.1
            obtain ⟨ob, E', hrun, hput, hM'⟩ := hM1.put (val := .agg (encX (killX x)).toArray) kLawV kMapVert hkl
            have HST := Lib.hid (step_kill hL.out h0.out hx h5.out GC M8.out.lt hg.out hM2 hM1.apart hM3 (by rw [← hxx.out]; exact hput) hM')
            clear hM1 hM2 hM3 hput hM' hkl GC M8
            have B9 : Hid (Kept (fun k => k = gm2) w8 w8) := Kept.refl _ _
            simp only [List.size_toArray, List.length_cons, List.length_nil]
            refine takeV (i := 0) (d := 45) (v := .pointer (some ⟨g, 0, none⟩)) rfl (by kernel_rfl) (by kernel_rfl) (by kernel_rfl) (fun _ _ _ h => h) rfl (fun _ _ => exMove (v := .pointer (some ⟨g, 0, none⟩)) rfl) B9.out ?_
            simp only [Act.put, List.setIfInBounds_toArray, List.set_cons_zero, List.set_cons_succ]
            refine takeV (i := 1) (d := 46) (v := .pointer (some ⟨g, 0, none⟩)) rfl (by kernel_rfl) (by kernel_rfl) (by kernel_rfl) (fun _ _ _ h => h) rfl (fun _ _ => exNil rfl) B9.out ?_
            simp only [Act.put, List.setIfInBounds_toArray, List.set_cons_zero, List.set_cons_succ]
            refine takeV (i := 2) (d := 47) (v := .pointer (some ⟨g, 64, none⟩)) rfl (by kernel_rfl) (by kernel_rfl) (by kernel_rfl) (fun _ _ _ h => h) rfl (fun w' _ => exField rfl (fieldGr1 g w')) B9.out ?_
            simp only [Act.put, List.setIfInBounds_toArray, List.set_cons_zero, List.set_cons_succ]
            refine takeV (i := 3) (d := 48) (v := .map (some gm2)) rfl (by kernel_rfl) (by kernel_rfl) (by kernel_rfl) (fun _ _ _ h => h) rfl (fun w' h => exLoad rfl (loadVertMap g 64 w' gm2 (HC1.out w' h))) B9.out ?_
            simp only [Act.put, List.setIfInBounds_toArray, List.set_cons_zero, List.set_cons_succ]
            refine takeV (i := 4) (d := 49) (v := .pointer (some ⟨go, 1, none⟩)) rfl (by kernel_rfl) (by kernel_rfl) (by kernel_rfl) (fun _ _ _ h => h) rfl (fun w' _ => exField rfl (fieldOp1 go w')) B9.out ?_
            simp only [Act.put, List.setIfInBounds_toArray, List.set_cons_zero, List.set_cons_succ]
            refine takeV (i := 5) (d := 50) (v := .agg (encV o.2.1).toArray) rfl (by kernel_rfl) (by kernel_rfl) (by kernel_rfl) (fun _ _ _ h => h) rfl (fun w' h => exMid rfl (op_at1 (h.blk KO.out hgo.out)) underVid rfl infoVid) B9.out ?_
            simp only [Act.put, List.setIfInBounds_toArray, List.set_cons_zero, List.set_cons_succ]
            refine takeV (i := 6) (d := 51) (v := .agg (encX (killX x)).toArray) rfl (by kernel_rfl) (by kernel_rfl) (by kernel_rfl) (fun _ _ _ h => h) rfl (fun w' h => exMid rfl (blk_pat (h.blk KX.out hgx.out)) underVert rfl infoVert) B9.out ?_
            simp only [Act.put, List.setIfInBounds_toArray, List.set_cons_zero, List.set_cons_succ]
            refine wpAnyH_all (rs := [7]) (by kernel_rfl) (by simp) ?_
            intro i hi
            simp only [List.mem_cons, List.not_mem_nil, or_false] at hi
            subst hi
            refine wpOp_of rfl rfl (wp_mapputted rfl rfl rfl hrun ?_)
            refine ⟨Kept.setBlock (F := fun k => k = gm2) B9.out (.inl rfl) ob, ?_⟩
            refine wpAnyH_done (by kernel_rfl) ?_ _
            have HMn := Lib.hid HST.out.1
            have KWn := Lib.hid (KW8.out.trans HST.out.2 fun x e => .inl e)
            clear HST KW8 B9 hrun
            generalize setBlock w8 gm2 ob = w10 at *
            go_wp2_with fail
            go_roundw
            case rel => exact ⟨_, _, _, _, _, ⟨k + 1, by omega, by go_num, HMn.out⟩, rfl, rfl, rfl, rfl, rfl⟩
            case measure => simp [intOf]; omega
        · rw [hm] at HM
          go_wp2_with fail
          refine HM.out.mono ?_
          rintro e _ ⟨rfl, rfl⟩
          go_wp2_with (refine wpList_load_row rfl 31 _ (by rfl) g3 (by rfl) _ _ _ _ K6.out underPat rfl infoPat ?_)
          refine (made20_any p k o hx w6 _ HP6.out.at_).mono ?_
          rintro e w7 ⟨rfl, b7⟩
          have KZ : Hid (Blk (w7.alloc (.cells zeroX 134)) w7.heap.size 134 zeroX) := Blk.new _ _ _
          have KX7 : Hid (Blk ((w7.alloc (.cells zeroX 134)).setRow w7.heap.size (encX (madeX p k o)).toArray) w7.heap.size 134 (encX (madeX p k o)).toArray) := KZ.out.row _
          have BN : Hid (Below w7.heap.size w7 ((w7.alloc (.cells zeroX 134)).setRow w7.heap.size (encX (madeX p k o)).toArray)) := below_setRow (below_new w7 _) (Nat.le_refl _) _
          have M7 := Lib.hid ((M6.out.ext b7).ext BN.out)
          have KW7 := Lib.hid ((KW6.out.then b7).then BN.out)
          have hgxF : Hid (¬ F w7.heap.size) := fun h => by have := (M6.out.ext b7).lt _ h; omega
          clear b7 M6 HP6 K6 KO6 KW6 yk HM
          go_upto_region 13 with (first
            | (refine wpList_alloced (allocVert _) ?_)
            | (refine wpList_store_row rfl 134 _ _ (by rfl) w7.heap.size (encX (madeX p k o)).toArray (by rfl) (by rfl) _ _ KZ.out infoVert rfl (encX_all _) ?_))
          generalize ((w7.alloc (.cells zeroX 134)).setRow w7.heap.size (encX (madeX p k o)).toArray) = w9 at *
          clear KZ BN
          generalize w7.heap.size = gx at *
          have D6 := (Below.refl w9.heap.size w9).drew
          have M8 := Lib.hid (M7.out.ext D6)
          have KX := Lib.hid (KX7.out.ext D6)
          have KW8 := Lib.hid (KW7.out.then D6)
          clear M7 KX7 KW7 D6
          obtain ⟨gm, ge, GC⟩ := M8.out.cells
          refine wp_region_held (S := fun w' => Kept (fun k => k = gm) w9.drew w') mixedS ?_
          change wpAnyH _ _ _ _ _ _ _ _ w9.drew
          generalize w9.drew = w8 at *
          have hinF := Lib.hid GC.inF
          have KG := Lib.hid GC.blk
          have hgx : Hid (¬ (fun k => k = gm) gx) := fun h => hgxF.out (by have h : gx = gm := h; rw [h]; exact hinF.out.1)
          have HC1 : Hid (∀ w', Kept (fun k => k = gm) w8 w' → w'.cell? ⟨g, 64, none⟩ = some (.map (some gm))) := fun w' h => gr_m (vecL_ok _) (h.blk KG.out hinF.out.2.2.1)
          obtain ⟨E, hM1, hM2, hM3⟩ := GC.map
          obtain ⟨kl, hkl⟩ := kKeyV (vidOf p.1 (k : Int))
          obtain ⟨ob, E', hrun, hput, hM'⟩ := hM1.put (val := .agg (encX (madeX p k o)).toArray) kLawV kMapVert hkl
          have HST := Lib.hid (step_made hL.out h0.out hx hm GC M8.out.lt hg.out hM2 hM1.apart hM3 hput hM')
          clear hM1 hM2 hM3 hput hM' hkl GC M8
          have B9 : Hid (Kept (fun k => k = gm) w8 w8) := Kept.refl _ _
          simp only [List.size_toArray, List.length_cons, List.length_nil]
          refine takeV (i := 0) (d := 59) (v := .pointer (some ⟨g, 0, none⟩)) rfl (by kernel_rfl) (by kernel_rfl) (by kernel_rfl) (fun _ _ _ h => h) rfl (fun _ _ => exMove (v := .pointer (some ⟨g, 0, none⟩)) rfl) B9.out ?_
          simp only [Act.put, List.setIfInBounds_toArray, List.set_cons_zero, List.set_cons_succ]
          refine takeV (i := 1) (d := 60) (v := .pointer (some ⟨g, 0, none⟩)) rfl (by kernel_rfl) (by kernel_rfl) (by kernel_rfl) (fun _ _ _ h => h) rfl (fun _ _ => exNil rfl) B9.out ?_
          simp only [Act.put, List.setIfInBounds_toArray, List.set_cons_zero, List.set_cons_succ]
          refine takeV (i := 2) (d := 61) (v := .pointer (some ⟨g, 64, none⟩)) rfl (by kernel_rfl) (by kernel_rfl) (by kernel_rfl) (fun _ _ _ h => h) rfl (fun w' _ => exField rfl (fieldGr1 g w')) B9.out ?_
          simp only [Act.put, List.setIfInBounds_toArray, List.set_cons_zero, List.set_cons_succ]
          refine takeV (i := 3) (d := 62) (v := .map (some gm)) rfl (by kernel_rfl) (by kernel_rfl) (by kernel_rfl) (fun _ _ _ h => h) rfl (fun w' h => exLoad rfl (loadVertMap g 64 w' gm (HC1.out w' h))) B9.out ?_
          simp only [Act.put, List.setIfInBounds_toArray, List.set_cons_zero, List.set_cons_succ]
          refine takeV (i := 4) (d := 63) (v := .pointer (some ⟨gx, 0, none⟩)) rfl (by kernel_rfl) (by kernel_rfl) (by kernel_rfl) (fun _ _ _ h => h) rfl (fun w' _ => exField rfl (fieldVert0 gx w')) B9.out ?_
          simp only [Act.put, List.setIfInBounds_toArray, List.set_cons_zero, List.set_cons_succ]
          refine takeV (i := 5) (d := 64) (v := .agg (encV (vidOf p.1 (k : Int))).toArray) rfl (by kernel_rfl) (by kernel_rfl) (by kernel_rfl) (fun _ _ _ h => h) rfl (fun w' h => exMid rfl (vx_id (blk_pat (h.blk KX.out hgx.out))) underVid rfl infoVid) B9.out ?_
          simp only [Act.put, List.setIfInBounds_toArray, List.set_cons_zero, List.set_cons_succ]
          refine takeV (i := 6) (d := 65) (v := .agg (encX (madeX p k o)).toArray) rfl (by kernel_rfl) (by kernel_rfl) (by kernel_rfl) (fun _ _ _ h => h) rfl (fun w' h => exMid rfl (blk_pat (h.blk KX.out hgx.out)) underVert rfl infoVert) B9.out ?_
          simp only [Act.put, List.setIfInBounds_toArray, List.set_cons_zero, List.set_cons_succ]
          refine wpAnyH_all (rs := [7]) (by kernel_rfl) (by simp) ?_
          intro i hi
          simp only [List.mem_cons, List.not_mem_nil, or_false] at hi
          subst hi
          refine wpOp_of rfl rfl (wp_mapputted rfl rfl rfl hrun ?_)
          refine ⟨Kept.setBlock (F := fun k => k = gm) B9.out (.inl rfl) ob, ?_⟩
          refine wpAnyH_done (by kernel_rfl) ?_ _
          have HMn := Lib.hid HST.out.1
          have KWn := Lib.hid (KW8.out.trans HST.out.2 fun x e => .inl e)
          clear HST KW8 B9 hrun
          generalize setBlock w8 gm ob = w10 at *
          go_wp2_with fail
          go_roundw
          case rel => exact ⟨_, _, _, _, _, ⟨k + 1, by omega, by go_num, HMn.out⟩, rfl, rfl, rfl, rfl, rfl⟩
          case measure => simp [intOf]; omega
      · have hlk : ¬ (k : Int) < (p.2.2.length : Int) := by omega
        rw [cutP_all p (by omega)] at M
        have KF := Lib.hid (KW5.out.trans KWr.out fun x e => .inl e)
        clear KWr HP5 K5 y3
        go_wp2
        go_ret
        refine ⟨by rw [h0.out]; rfl, KF.out, ?_⟩
        rw [hgrl.out]
        exact ⟨hL.out.snoc h0.out, M.out⟩
  · have hgrl : Hid (grL L p = L) := by rw [Hid]; unfold grL; rw [if_neg h0]
    obtain ⟨n, hn⟩ : ∃ n, n = grE L p := ⟨_, rfl⟩
    rw [← hn] at h0 ⊢
    have zE : (((n : Nat) : Int) != 0) = true := by rw [bne_iff_ne]; omega
    replace hn := Lib.hid hn
    replace h0 := Lib.hid h0
    go_wp2
    go_ret
    refine ⟨by rw [hn.out]; rfl, KW3.out, ?_⟩
    rw [hgrl.out]
    exact HI3.out
end Go.Proofs.YtihggkmjalofiaaGreatDoor
