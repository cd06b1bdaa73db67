/- A fingerprint's first digits; the chapter's example. -/
import Derived.Test.YtihggkmjalofiaaDoorFinc
import Derived.Test.YtihggkmjalofiaaDoorFina
import Derived.Test.YtihggkmjalofiaaDoorGen
namespace Go.Proofs.YtihggkmjalofiaaDoor
open Go.RowKit

theorem sliceF8 (S : ByteArray) (n : Nat) (h : (n : Int) ≤ ((S.size : Nat) : Int)) (w : World) : (Instr.sliceAt 9 (.string S) none (some (.int .i64 (n : Int))) none).run Tryd.prog w = .ok (.string (S.extract 0 n)) w := by
  have h0 : (0 : Int) ≤ (n : Int) := by omega
  simp [go_sem, h, h0]
theorem exSliceF {P : Program} {ρ : Operand → Value} {w : World} {d : Option Tmp} {ty t : TypeId} {pos : String} {after : Array Edge} {gd : Option (Nat × Bool)} {x : Operand} {lo hi mx : Option Operand} {xv v : Value} {lv hv mv : Option Value} (hx : ρ x = xv) (hl : lo.map ρ = lv) (hh : hi.map ρ = hv) (hm : mx.map ρ = mv) (hr : (Instr.sliceAt t xv lv hv mv).run P w = .ok v w) : (execOp ρ ⟨d, .slice t x lo hi mx, ty, pos, after, gd⟩).run P w = .ok (.value v) w := by
  unfold execOp
  simp only [hx, hl, hh, hm, Sem.run_bind, hr, Result.andThen_ok, Sem.run_pure]
theorem bytesOf_size (l : List UInt8) : (bytesOf l).size = l.length := by unfold bytesOf; simp [ByteArray.size]
set_option maxRecDepth 100000 in
set_option maxHeartbeats 4000000 in
theorem short_any (b : List UInt8) (hb : b.length = 32) (w : World) : Calls Tryd.prog 12 #[.agg (bytesS b)] w (RetB w (.string ((bytesOf (hexL b)).extract 0 8))) := by
  have K0 : Hid (Blk (w.alloc (.cells (bytesS b) 25)) w.heap.size 25 (bytesS b)) := Blk.new _ _ _
  have B0 : Hid (Below w.heap.size w (w.alloc (.cells (bytesS b) 25))) := below_new _ _
  have HL := Lib.hid hb
  have SL := Lib.hid (fun u : World => sliceF8 (bytesOf (hexL b)) 8 (by rw [bytesOf_size, hexL_len, hb]; decide) u)
  clear hb
  go_enter Tryd.func12, Tryd.ntmps12
  go_upto_region 1 with fail
  generalize (w.alloc (.cells (bytesS b) 25)) = w1 at *
  generalize hg : w.heap.size = g1 at *
  have HH := Lib.hid (hex_any b HL.out w1)
  go_wp2_with (refine wpList_load_row rfl 25 _ (by rfl) g1 (by rfl) _ _ _ _ K0.out Tryd.underlying25 rfl (by rw [infoB32, bytesS_size, HL.out]) ?_)
  refine HH.out.mono ?_
  rintro e w2 ⟨rfl, b2⟩
  have B2 := Lib.hid (B0.out.trans (b2.mono (by rw [← hg] at *; exact B0.out.size)))
  clear b2 HH K0 B0
  go_wp2_with (refine wpL_val rfl (exSliceF rfl rfl rfl rfl (SL.out _)) ?_)
  go_ret
  exact ⟨rfl, by rw [hg]; exact B2.out⟩
def intsF (b : List UInt8) : List Int := b.map fun x => ((x.toNat : Nat) : Int)
theorem bytesS_ints (b : List UInt8) : bytesS b = ((intsF b).map (Value.int .u8)).toArray := by
  unfold bytesS intsF
  congr 1
  induction b with
  | nil => rfl
  | cons x xs ih =>
    rw [List.map_cons, List.map_cons, ← ih]
    rfl
theorem intsF_inj {a b : List UInt8} : intsF a = intsF b ↔ a = b := by
  refine ⟨fun h => ?_, fun h => by rw [h]⟩
  unfold intsF at h
  induction a generalizing b with
  | nil => cases b with
    | nil => rfl
    | cons y ys => simp at h
  | cons x xs ih => cases b with
    | nil => simp at h
    | cons y ys =>
      simp only [List.map_cons, List.cons.injEq] at h
      have hxy : x = y := UInt8.toNat_inj.1 (by have := h.1; omega)
      rw [hxy, ih h.2]
theorem underU8 : Tryd.prog.underlying 5 = some (.int .u8) := by kernel_rfl
theorem eqlF (a b : List UInt8) (ha : a.length = 32) (hb : b.length = 32) (w : World) : (binOp .eql 25 (.agg (bytesS a)) (.agg (bytesS b))).run Tryd.prog w = .ok (.bool (decide (a = b))) w := by
  rw [bytesS_ints, bytesS_ints, run_eql_ints under32F underU8 isAggF8 sizeOfF8 _ _ (by unfold intsF; rw [List.length_map, ha]) (by unfold intsF; rw [List.length_map, hb])]
  simp only [intsF_inj]
theorem neqF (a b : List UInt8) (ha : a.length = 32) (hb : b.length = 32) (w : World) : (binOp .neq 25 (.agg (bytesS a)) (.agg (bytesS b))).run Tryd.prog w = .ok (.bool (!decide (a = b))) w := by
  rw [bytesS_ints, bytesS_ints, run_neq_ints under32F underU8 isAggF8 sizeOfF8 _ _ (by unfold intsF; rw [List.length_map, ha]) (by unfold intsF; rw [List.length_map, hb])]
  simp only [intsF_inj]
theorem eqF (b : List UInt8) (hb : b.length = 32) (w : World) : (binOp .eql 25 (.agg (bytesS b)) (.agg (bytesS b))).run Tryd.prog w = .ok (.bool true) w := by
  rw [eqlF b b hb hb, decide_eq_true rfl]
theorem grdF (x y : Operand) (a b : List UInt8) (w : World) : (eqGuard .eql 25 x y (.agg (bytesS a)) (.agg (bytesS b))).run Tryd.prog w = .ok () w := by kernel_rfl
theorem eqStrF (s : ByteArray) (w : World) : (binOp .eql 9 (.string s) (.string s)).run Tryd.prog w = .ok (.bool true) w := by
  simp [go_sem]
theorem eq88 (w : World) : (binOp .eql 3 (.int .i64 8) (.int .i64 8)).run Tryd.prog w = .ok (.bool true) w := by
  simp [go_sem]
theorem buildP0 (w : World) : (Instr.build 33 #[]).run Tryd.prog w = .ok (.agg #[.int .u8 0, .int .u16 0, .slice none 0 0, .slice none 0 0]) w := by kernel_rfl
theorem buildZ_32 (w : World) : (Instr.build 25 #[]).run Tryd.prog w = .ok (.agg (bytesS (List.replicate 32 0))) w := by kernel_rfl
theorem pat0_at (w : World) : PatAt w [.int .u8 0, .int .u16 0, .slice none 0 0, .slice none 0 0] ((0, 0), [], []) :=
  ⟨⟨none, 0, none, 0, rfl, ⟨rfl, rfl, fun h => absurd h (by decide)⟩, ⟨rfl, ⟨rfl, fun h => absurd h (by decide)⟩, fun o ho => by cases ho⟩⟩, by decide, by decide⟩
theorem fp0 : fpB ((0, 0), [], []) = List.replicate 32 0 := by
  unfold fpB
  rw [if_neg (by decide)]
theorem fp1 : fpB w19p = sumS kS hS [1, 1, 1, 1] := by
  unfold fpB
  rw [if_pos w19_ok, w19_bytes]
theorem buildB4 (w : World) : (Instr.buildSlice 43 4 #[(0, .int .u8 1), (1, .int .u8 1), (2, .int .u8 1), (3, .int .u8 1)]).run Tryd.prog w = .ok (.slice (some ⟨w.heap.size, 0, none⟩) 4 4) (w.alloc (.cells #[.int .u8 1, .int .u8 1, .int .u8 1, .int .u8 1] 5)) := by kernel_rfl
theorem exB4 {ρ : Operand → Value} {w : World} {d : Option Tmp} {ty : TypeId} {pos : String} {after : Array Edge} {gd : Option (Nat × Bool)} {parts : Array (Nat × Operand)} (hp : (parts.map fun (i, x) => (i, ρ x)) = #[(0, .int .u8 1), (1, .int .u8 1), (2, .int .u8 1), (3, .int .u8 1)]) : (execOp ρ ⟨d, .buildSlice 43 4 parts, ty, pos, after, gd⟩).run Tryd.prog w = .ok (.value (.slice (some ⟨w.heap.size, 0, none⟩) 4 4)) (w.alloc (.cells #[.int .u8 1, .int .u8 1, .int .u8 1, .int .u8 1] 5)) := by
  unfold execOp
  simp only [hp, Sem.run_bind, buildB4, Result.andThen_ok, Sem.run_pure]
theorem buildBss (A : Option Addr) (n c : Nat) (w : World) : (Instr.buildSlice 53 1 #[(0, .slice A n c)]).run Tryd.prog w = .ok (.slice (some ⟨w.heap.size, 0, none⟩) 1 1) (w.alloc (.cells #[.slice A n c] 43)) := by kernel_rfl
theorem exBss {ρ : Operand → Value} {w : World} {d : Option Tmp} {ty : TypeId} {pos : String} {after : Array Edge} {gd : Option (Nat × Bool)} {x : Operand} {A : Option Addr} {n c : Nat} (hx : ρ x = .slice A n c) : (execOp ρ ⟨d, .buildSlice 53 1 #[(0, x)], ty, pos, after, gd⟩).run Tryd.prog w = .ok (.value (.slice (some ⟨w.heap.size, 0, none⟩) 1 1)) (w.alloc (.cells #[.slice A n c] 43)) := by
  unfold execOp
  simp only [List.map_toArray, List.map_cons, List.map_nil, hx, Sem.run_bind, buildBss, Result.andThen_ok, Sem.run_pure]
theorem ones_at (w : World) : BytesAt (w.alloc (.cells #[.int .u8 1, .int .u8 1, .int .u8 1, .int .u8 1] 5)) (some ⟨w.heap.size, 0, none⟩) 4 4 [1, 1, 1, 1] :=
  ⟨rfl, Nat.le_refl _, by unfold maxLen; omega, sl_fresh w _ 5 1 4 (encB [1, 1, 1, 1]) rfl rfl⟩
theorem lenF64 (u : World) : (Builtin.len_ #[9] 3 #[.string (bytesOf (hexL (fpB w19p)))]).run Tryd.prog u = .ok (.int .i64 64) u := by
  have e : (((bytesOf (hexL (fpB w19p))).size : Nat) : Int) = 64 := by rw [bytesOf_size, hexL_len, fpB_len]; rfl
  simp [go_sem, e]
theorem lenF8 (u : World) : (Builtin.len_ #[9] 3 #[.string ((bytesOf (hexL (fpB w19p))).extract 0 8)]).run Tryd.prog u = .ok (.int .i64 8) u := by
  have e : ((min 8 (bytesOf (hexL (fpB w19p))).size : Nat) : Int) = 8 := by rw [bytesOf_size, hexL_len, fpB_len]; rfl
  simp [go_sem, e]
theorem exLenS {P : Program} {ρ : Operand → Value} {w : World} {d : Option Tmp} {ty t : TypeId} {pos : String} {after : Array Edge} {gd : Option (Nat × Bool)} {x : Operand} {v : Value} (hr : (Builtin.len_ #[t] ty #[ρ x]).run P w = .ok v w) : (execOp ρ ⟨d, .call { callee := .builtin .len, args := #[x], argTypes := #[t] }, ty, pos, after, gd⟩).run P w = .ok (.value v) w := by
  simp [execOp, resolve, invoke, builtin, hr, Result.andThen]
theorem exMin8 {P : Program} {ρ : Operand → Value} {w : World} {d : Option Tmp} {ty : TypeId} {ts : Array TypeId} {pos : String} {after : Array Edge} {gd : Option (Nat × Bool)} {x y : Operand} (hx : ρ x = .int .i64 8) (hy : ρ y = .int .i64 64) : (execOp ρ ⟨d, .call { callee := .builtin .min, args := #[x, y], argTypes := ts }, ty, pos, after, gd⟩).run P w = .ok (.value (.int .i64 8)) w := by
  have hr : (Builtin.min_ ts ty #[.int .i64 8, .int .i64 64]).run P w = .ok (.int .i64 8) w := by
    simp only [Builtin.min_, List.foldlM, Builtin.min2]
    simp
  unfold execOp
  simp only [resolve, invoke, builtin, Sem.run_bind, Sem.run_pure, Result.andThen_ok, List.map_toArray, List.map_cons, List.map_nil, hx, hy, hr]
set_option maxRecDepth 100000 in
set_option maxHeartbeats 8000000 in
theorem works47 (w : World) (hK : ShaK w) (hB : ShaB w) : Calls Tryd.prog 5 #[] w (RetB w (.bool true)) := by
  have PA : Hid (PatAt (w.alloc (.cells #[.int .u8 1, .int .u8 0, .int .u16 0, .int .u8 0, .int .u8 0, .int .u16 0, .int .u8 0, .string ⟨#[]⟩] 41)) [.int .u8 1, .int .u16 1, .slice none 0 0, .slice (some ⟨w.heap.size, 0, none⟩) 1 1] w19p) := ⟨⟨none, 0, some ⟨w.heap.size, 0, none⟩, 1, rfl, ⟨rfl, rfl, fun h => absurd h (by decide)⟩, op19_at w⟩, by decide, by decide⟩
  have BA : Hid (Below w.heap.size w (w.alloc (.cells #[.int .u8 1, .int .u8 0, .int .u16 0, .int .u8 0, .int .u8 0, .int .u16 0, .int .u8 0, .string ⟨#[]⟩] 41))) := below_new _ _
  have HF := Lib.hid (fpatch_any w19p (w.alloc (.cells #[.int .u8 1, .int .u8 0, .int .u16 0, .int .u8 0, .int .u8 0, .int .u16 0, .int .u8 0, .string ⟨#[]⟩] 41)) [.int .u8 1, .int .u16 1, .slice none 0 0, .slice (some ⟨w.heap.size, 0, none⟩) 1 1] PA.out (shaK_ext hK BA.out) (shaB_ext hB BA.out))
  have HKA := Lib.hid (shaK_ext hK BA.out)
  have HBA := Lib.hid (shaB_ext hB BA.out)
  clear hK hB PA
  go_enter Tryd.func5, Tryd.ntmps5
  go_wp2_with fail
  refine HF.out.mono ?_
  rintro e w0 ⟨rfl, b1⟩
  have B0 := Lib.hid (BA.out.trans (b1.mono BA.out.size))
  have HK0 := Lib.hid (shaK_ext HKA.out b1)
  have HB0 := Lib.hid (shaB_ext HBA.out b1)
  clear b1 BA HKA HBA HF
  have KZ : Hid (Blk (w0.alloc (.cells #[.int .u8 0, .int .u8 0, .int .u8 0, .int .u8 0, .int .u8 0, .int .u8 0, .int .u8 0, .int .u8 0, .int .u8 0, .int .u8 0, .int .u8 0, .int .u8 0, .int .u8 0, .int .u8 0, .int .u8 0, .int .u8 0, .int .u8 0, .int .u8 0, .int .u8 0, .int .u8 0, .int .u8 0, .int .u8 0, .int .u8 0, .int .u8 0, .int .u8 0, .int .u8 0, .int .u8 0, .int .u8 0, .int .u8 0, .int .u8 0, .int .u8 0, .int .u8 0] 25)) w0.heap.size 25 #[.int .u8 0, .int .u8 0, .int .u8 0, .int .u8 0, .int .u8 0, .int .u8 0, .int .u8 0, .int .u8 0, .int .u8 0, .int .u8 0, .int .u8 0, .int .u8 0, .int .u8 0, .int .u8 0, .int .u8 0, .int .u8 0, .int .u8 0, .int .u8 0, .int .u8 0, .int .u8 0, .int .u8 0, .int .u8 0, .int .u8 0, .int .u8 0, .int .u8 0, .int .u8 0, .int .u8 0, .int .u8 0, .int .u8 0, .int .u8 0, .int .u8 0, .int .u8 0]) := Blk.new _ _ _
  have KN : Hid (Blk ((w0.alloc (.cells #[.int .u8 0, .int .u8 0, .int .u8 0, .int .u8 0, .int .u8 0, .int .u8 0, .int .u8 0, .int .u8 0, .int .u8 0, .int .u8 0, .int .u8 0, .int .u8 0, .int .u8 0, .int .u8 0, .int .u8 0, .int .u8 0, .int .u8 0, .int .u8 0, .int .u8 0, .int .u8 0, .int .u8 0, .int .u8 0, .int .u8 0, .int .u8 0, .int .u8 0, .int .u8 0, .int .u8 0, .int .u8 0, .int .u8 0, .int .u8 0, .int .u8 0, .int .u8 0] 25)).setRow w0.heap.size (bytesS (fpB w19p))) w0.heap.size 25 (bytesS (fpB w19p))) := KZ.out.row _
  have BN : Hid (Below w0.heap.size w0 ((w0.alloc (.cells #[.int .u8 0, .int .u8 0, .int .u8 0, .int .u8 0, .int .u8 0, .int .u8 0, .int .u8 0, .int .u8 0, .int .u8 0, .int .u8 0, .int .u8 0, .int .u8 0, .int .u8 0, .int .u8 0, .int .u8 0, .int .u8 0, .int .u8 0, .int .u8 0, .int .u8 0, .int .u8 0, .int .u8 0, .int .u8 0, .int .u8 0, .int .u8 0, .int .u8 0, .int .u8 0, .int .u8 0, .int .u8 0, .int .u8 0, .int .u8 0, .int .u8 0, .int .u8 0] 25)).setRow w0.heap.size (bytesS (fpB w19p)))) := below_setRow (below_new w0 _) (Nat.le_refl _) _
  go_upto_region 2 with (refine wpList_store_row rfl 25 _ _ (by rfl) w0.heap.size (bytesS (fpB w19p)) (by rfl) (by rfl) _ _ KZ.out (by rw [infoB32, bytesS_size, fpB_len]) (by rw [bytesS_size, fpB_len]; rfl) (bytesS_one _) ?_)
  have B1 := Lib.hid (B0.out.trans (BN.out.mono B0.out.size))
  have HK1 := Lib.hid (shaK_ext HK0.out BN.out)
  have HB1 := Lib.hid (shaB_ext HB0.out BN.out)
  clear KZ B0 HK0 HB0 BN
  generalize (w0.alloc (.cells #[.int .u8 0, .int .u8 0, .int .u8 0, .int .u8 0, .int .u8 0, .int .u8 0, .int .u8 0, .int .u8 0, .int .u8 0, .int .u8 0, .int .u8 0, .int .u8 0, .int .u8 0, .int .u8 0, .int .u8 0, .int .u8 0, .int .u8 0, .int .u8 0, .int .u8 0, .int .u8 0, .int .u8 0, .int .u8 0, .int .u8 0, .int .u8 0, .int .u8 0, .int .u8 0, .int .u8 0, .int .u8 0, .int .u8 0, .int .u8 0, .int .u8 0, .int .u8 0] 25)).setRow w0.heap.size (bytesS (fpB w19p)) = w1 at *
  generalize w0.heap.size = g1 at *
  have K1 := KN
  clear KN
  have hcS : ∀ args u, (callFunc 11 args).run Tryd.prog u = .ok (.enter 11 args) u := enters_of Tryd.func11 (by kernel_rfl) rfl
  have hcT : ∀ args u, (callFunc 12 args).run Tryd.prog u = .ok (.enter 12 args) u := enters_of Tryd.func12 (by kernel_rfl) rfl
  have hcH : ∀ args u, (callFunc 13 args).run Tryd.prog u = .ok (.enter 13 args) u := enters_of Tryd.func13 (by kernel_rfl) rfl
  have hcP : ∀ args u, (callFunc 6 args).run Tryd.prog u = .ok (.enter 6 args) u := enters_of Tryd.func6 (by kernel_rfl) rfl
  have LN := Lib.hid (fun u : World => lenF64 u)
  have LN8 := Lib.hid (fun u : World => lenF8 u)
  have SL8 := Lib.hid (fun u : World => sliceF8 (bytesOf (hexL (fpB w19p))) 8 (by rw [bytesOf_size, hexL_len, fpB_len]; decide) u)
  try go_frame
  refine wp_region_held (S := fun w' => Below w1.heap.size w1 w') mixedS ?_
  change wpAnyH _ _ _ _ _ _ _ _ w1.drew
  have BD : Hid (Below w1.heap.size w1 w1.drew) := (Below.refl _ _).drew
  have HKD := Lib.hid (shaK_ext HK1.out BD.out)
  have HBD := Lib.hid (shaB_ext HB1.out BD.out)
  clear HK1 HB1
  generalize w1.drew = wd at *
  simp only [List.size_toArray, List.length_cons, List.length_nil]
  refine takeV (i := 0) (d := 7) (v := .agg (bytesS (fpB w19p))) rfl (by kernel_rfl) (by kernel_rfl) (by kernel_rfl) (fun _ _ _ h => h) rfl (fun w' h => exRow_sh rfl (K1.out.ext h) Tryd.underlying25 rfl (by rw [infoB32, bytesS_size, fpB_len])) BD.out ?_
  simp only [Act.put, List.setIfInBounds_toArray, List.set_cons_zero, List.set_cons_succ]
  refine wpAnyH_all (rs := [1]) (by kernel_rfl) (by simp) ?_
  intro i hi
  simp only [List.mem_cons, List.not_mem_nil, or_false] at hi
  subst hi
  refine wpOp_of rfl rfl (wpPureW (v := .slice (some ⟨wd.heap.size, 0, none⟩) 4 4) (w' := wd.alloc (.cells #[.int .u8 1, .int .u8 1, .int .u8 1, .int .u8 1] 5)) (exB4 (by simp only [List.map_toArray, List.map_cons, List.map_nil]; rfl)) ?_)
  refine ⟨ext_trans BD.out (below_new _ _), ?_⟩
  simp only [Act.put, List.setIfInBounds_toArray, List.set_cons_zero, List.set_cons_succ]
  have h_1 : Below wd.heap.size wd (wd.alloc (.cells #[.int .u8 1, .int .u8 1, .int .u8 1, .int .u8 1] 5)) := below_new _ _
  have X_3 := Lib.hid (ones_at wd)
  generalize (wd.alloc (.cells #[.int .u8 1, .int .u8 1, .int .u8 1, .int .u8 1] 5)) = w_2 at *
  have B_5 := Lib.hid (ext_trans BD.out h_1)
  have F_6 := Lib.hid (shaK_ext HKD.out h_1)
  have F_7 := Lib.hid (shaB_ext HBD.out h_1)
  clear BD HKD HBD
  clear h_1
  generalize wd.heap.size = g_4 at *
  refine wpAnyH_all (rs := [2]) (by kernel_rfl) (by simp) ?_
  intro i hi
  simp only [List.mem_cons, List.not_mem_nil, or_false] at hi
  subst hi
  refine wpOp_of rfl rfl (wpPureW (v := .slice (some ⟨w_2.heap.size, 0, none⟩) 1 1) (w' := (w_2.alloc (.cells #[.slice (some ⟨g_4, 0, none⟩) 4 4] 43))) (exBss rfl) ?_)
  refine ⟨ext_trans B_5.out (below_new _ _), ?_⟩
  simp only [Act.put, List.setIfInBounds_toArray, List.set_cons_zero, List.set_cons_succ]
  have h_8 : Below w_2.heap.size w_2 (w_2.alloc (.cells #[.slice (some ⟨g_4, 0, none⟩) 4 4] 43)) := below_new _ _
  have Y_10 : Hid ((w_2.alloc (.cells #[.slice (some ⟨g_4, 0, none⟩) 4 4] 43)).cell? ⟨w_2.heap.size, 0, none⟩ = some (.slice (some ⟨g_4, 0, none⟩) 4 4)) := (Blk.new w_2 43 #[.slice (some ⟨g_4, 0, none⟩) 4 4]).cell 0
  have L_11 : Hid (w_2.heap.size < (w_2.alloc (.cells #[.slice (some ⟨g_4, 0, none⟩) 4 4] 43)).heap.size) := by rw [Hid, World.alloc]; simp only [Array.size_push]; omega
  generalize (w_2.alloc (.cells #[.slice (some ⟨g_4, 0, none⟩) 4 4] 43)) = w_9 at *
  have B_13 := Lib.hid (ext_trans B_5.out h_8)
  have F_14 := Lib.hid (shaK_ext F_6.out h_8)
  have F_15 := Lib.hid (shaB_ext F_7.out h_8)
  have F_16 := Lib.hid (X_3.out.ext h_8)
  clear B_5 F_6 F_7 X_3
  clear h_8
  generalize w_2.heap.size = g_12 at *
  refine wpAnyH_all (rs := [3]) (by kernel_rfl) (by simp) ?_
  intro i hi
  simp only [List.mem_cons, List.not_mem_nil, or_false] at hi
  subst hi
  refine wpOp_of rfl rfl (wp_called (args := #[.slice (some ⟨g_12, 0, none⟩) 1 1]) hcS (by simp only [List.map_toArray, List.map_cons, List.map_nil]; rfl) (sum_any [1, 1, 1, 1] w_9 g_12 1 _ 4 4 Y_10.out L_11.out F_16.out (by omega) F_14.out F_15.out) ?_)
  rintro e w_17 ⟨rfl, h_18⟩
  refine ⟨_, rfl, ext_trans B_13.out h_18, ?_⟩
  simp only [Act.put, List.setIfInBounds_toArray, List.set_cons_zero, List.set_cons_succ]
  have B_19 := Lib.hid (ext_trans B_13.out h_18)
  have F_20 := Lib.hid (shaK_ext F_14.out h_18)
  have F_21 := Lib.hid (shaB_ext F_15.out h_18)
  have F_22 := Lib.hid (F_16.out.ext h_18)
  clear B_13 F_14 F_15 F_16
  clear h_18
  refine takeV (i := 4) (d := 11) (v := .bool true) rfl (by kernel_rfl) (by kernel_rfl) (by kernel_rfl) (fun _ _ _ h => h) rfl (fun w' _ => exBin rfl rfl (grdF _ _ _ _ _) (by rw [← fp1]; exact eqF _ (fpB_len _) _)) B_19.out ?_
  simp only [Act.put, List.setIfInBounds_toArray, List.set_cons_zero, List.set_cons_succ]
  refine takeV (i := 5) (d := 12) (v := .bool true) rfl (by kernel_rfl) (by kernel_rfl) (by kernel_rfl) (fun _ _ _ h => h) rfl (fun _ _ => exMove (v := .bool true) rfl) B_19.out ?_
  simp only [Act.put, List.setIfInBounds_toArray, List.set_cons_zero, List.set_cons_succ]
  refine takeV (i := 6) (d := 13) (v := .agg (bytesS (fpB w19p))) rfl (by kernel_rfl) (by kernel_rfl) (by kernel_rfl) (fun _ _ _ h => h) rfl (fun w' h => exRow_sh rfl (K1.out.ext h) Tryd.underlying25 rfl (by rw [infoB32, bytesS_size, fpB_len])) B_19.out ?_
  simp only [Act.put, List.setIfInBounds_toArray, List.set_cons_zero, List.set_cons_succ]
  refine takeV (i := 8) (d := 15) (v := .agg (bytesS (fpB w19p))) rfl (by kernel_rfl) (by kernel_rfl) (by kernel_rfl) (fun _ _ _ h => h) rfl (fun w' h => exRow_sh rfl (K1.out.ext h) Tryd.underlying25 rfl (by rw [infoB32, bytesS_size, fpB_len])) B_19.out ?_
  simp only [Act.put, List.setIfInBounds_toArray, List.set_cons_zero, List.set_cons_succ]
  refine takeV (i := 10) (d := 17) (v := .agg (bytesS (fpB w19p))) rfl (by kernel_rfl) (by kernel_rfl) (by kernel_rfl) (fun _ _ _ h => h) rfl (fun w' h => exRow_sh rfl (K1.out.ext h) Tryd.underlying25 rfl (by rw [infoB32, bytesS_size, fpB_len])) B_19.out ?_
  simp only [Act.put, List.setIfInBounds_toArray, List.set_cons_zero, List.set_cons_succ]
  refine wpAnyH_all (rs := [7]) (by kernel_rfl) (by simp) ?_
  intro i hi
  simp only [List.mem_cons, List.not_mem_nil, or_false] at hi
  subst hi
  refine wpOp_of rfl rfl (wp_called (args := #[.agg (bytesS (fpB w19p))]) hcT (by simp only [List.map_toArray, List.map_cons, List.map_nil]; rfl) (short_any (fpB w19p) (fpB_len _) w_17) ?_)
  rintro e w_23 ⟨rfl, h_24⟩
  refine ⟨_, rfl, ext_trans B_19.out h_24, ?_⟩
  simp only [Act.put, List.setIfInBounds_toArray, List.set_cons_zero, List.set_cons_succ]
  have B_25 := Lib.hid (ext_trans B_19.out h_24)
  have F_26 := Lib.hid (shaK_ext F_20.out h_24)
  have F_27 := Lib.hid (shaB_ext F_21.out h_24)
  have F_28 := Lib.hid (F_22.out.ext h_24)
  clear B_19 F_20 F_21 F_22
  clear h_24
  refine wpAnyH_all (rs := [9]) (by kernel_rfl) (by simp) ?_
  intro i hi
  simp only [List.mem_cons, List.not_mem_nil, or_false] at hi
  subst hi
  refine wpOp_of rfl rfl (wp_called (args := #[.agg (bytesS (fpB w19p))]) hcH (by simp only [List.map_toArray, List.map_cons, List.map_nil]; rfl) (hex_any (fpB w19p) (fpB_len _) w_23) ?_)
  rintro e w_29 ⟨rfl, h_30⟩
  refine ⟨_, rfl, ext_trans B_25.out h_30, ?_⟩
  simp only [Act.put, List.setIfInBounds_toArray, List.set_cons_zero, List.set_cons_succ]
  have B_31 := Lib.hid (ext_trans B_25.out h_30)
  have F_32 := Lib.hid (shaK_ext F_26.out h_30)
  have F_33 := Lib.hid (shaB_ext F_27.out h_30)
  have F_34 := Lib.hid (F_28.out.ext h_30)
  clear B_25 F_26 F_27 F_28
  clear h_30
  refine wpAnyH_all (rs := [11]) (by kernel_rfl) (by simp) ?_
  intro i hi
  simp only [List.mem_cons, List.not_mem_nil, or_false] at hi
  subst hi
  refine wpOp_of rfl rfl (wp_called (args := #[.agg (bytesS (fpB w19p))]) hcH (by simp only [List.map_toArray, List.map_cons, List.map_nil]; rfl) (hex_any (fpB w19p) (fpB_len _) w_29) ?_)
  rintro e w_35 ⟨rfl, h_36⟩
  refine ⟨_, rfl, ext_trans B_31.out h_36, ?_⟩
  simp only [Act.put, List.setIfInBounds_toArray, List.set_cons_zero, List.set_cons_succ]
  have B_37 := Lib.hid (ext_trans B_31.out h_36)
  have F_38 := Lib.hid (shaK_ext F_32.out h_36)
  have F_39 := Lib.hid (shaB_ext F_33.out h_36)
  have F_40 := Lib.hid (F_34.out.ext h_36)
  clear B_31 F_32 F_33 F_34
  clear h_36
  refine takeV (i := 12) (d := 19) (v := .int .i64 64) rfl (by kernel_rfl) (by kernel_rfl) (by kernel_rfl) (fun _ _ _ h => h) rfl (fun w' _ => exLenS (LN.out w')) B_37.out ?_
  simp only [Act.put, List.setIfInBounds_toArray, List.set_cons_zero, List.set_cons_succ]
  refine takeV (i := 13) (d := 20) (v := .int .i64 8) rfl (by kernel_rfl) (by kernel_rfl) (by kernel_rfl) (fun _ _ _ h => h) rfl (fun w' _ => exMin8 rfl rfl) B_37.out ?_
  simp only [Act.put, List.setIfInBounds_toArray, List.set_cons_zero, List.set_cons_succ]
  refine takeV (i := 14) (d := 21) (v := .string ((bytesOf (hexL (fpB w19p))).extract 0 8)) rfl (by kernel_rfl) (by kernel_rfl) (by kernel_rfl) (fun _ _ _ h => h) rfl (fun w' _ => exSliceF rfl rfl rfl rfl (SL8.out w')) B_37.out ?_
  simp only [Act.put, List.setIfInBounds_toArray, List.set_cons_zero, List.set_cons_succ]
  refine takeV (i := 15) (d := 22) (v := .bool true) rfl (by kernel_rfl) (by kernel_rfl) (by kernel_rfl) (fun _ _ _ h => h) rfl (fun w' _ => exBin rfl rfl (by rfl) (eqStrF _ _)) B_37.out ?_
  simp only [Act.put, List.setIfInBounds_toArray, List.set_cons_zero, List.set_cons_succ]
  refine takeV (i := 16) (d := 23) (v := .bool true) rfl (by kernel_rfl) (by kernel_rfl) (by kernel_rfl) (fun _ _ _ h => h) rfl (fun _ _ => exPickT (v := .bool true) rfl rfl) B_37.out ?_
  simp only [Act.put, List.setIfInBounds_toArray, List.set_cons_zero, List.set_cons_succ]
  refine takeV (i := 17) (d := 24) (v := .bool true) rfl (by kernel_rfl) (by kernel_rfl) (by kernel_rfl) (fun _ _ _ h => h) rfl (fun _ _ => exMove (v := .bool true) rfl) B_37.out ?_
  simp only [Act.put, List.setIfInBounds_toArray, List.set_cons_zero, List.set_cons_succ]
  refine takeV (i := 18) (d := 25) (v := .agg #[.int .u8 0, .int .u16 0, .slice none 0 0, .slice none 0 0]) rfl (by kernel_rfl) (by kernel_rfl) (by kernel_rfl) (fun _ _ _ h => h) rfl (fun w' _ => exBuild (vs := #[]) (by simp only [List.map_toArray, List.map_nil]) (buildP0 w')) B_37.out ?_
  simp only [Act.put, List.setIfInBounds_toArray, List.set_cons_zero, List.set_cons_succ]
  refine takeV (i := 20) (d := 27) (v := .agg (bytesS (List.replicate 32 0))) rfl (by kernel_rfl) (by kernel_rfl) (by kernel_rfl) (fun _ _ _ h => h) rfl (fun w' _ => exBuild (vs := #[]) (by simp only [List.map_toArray, List.map_nil]) (buildZ_32 w')) B_37.out ?_
  simp only [Act.put, List.setIfInBounds_toArray, List.set_cons_zero, List.set_cons_succ]
  refine wpAnyH_all (rs := [19]) (by kernel_rfl) (by simp) ?_
  intro i hi
  simp only [List.mem_cons, List.not_mem_nil, or_false] at hi
  subst hi
  refine wpOp_of rfl rfl (wp_called (args := #[.agg #[.int .u8 0, .int .u16 0, .slice none 0 0, .slice none 0 0]]) hcP (by simp only [List.map_toArray, List.map_cons, List.map_nil]; rfl) (fpatch_any ((0, 0), [], []) w_35 [.int .u8 0, .int .u16 0, .slice none 0 0, .slice none 0 0] (pat0_at _) F_38.out F_39.out) ?_)
  rintro e w_41 ⟨rfl, h_42⟩
  refine ⟨_, rfl, ext_trans B_37.out h_42, ?_⟩
  simp only [Act.put, List.setIfInBounds_toArray, List.set_cons_zero, List.set_cons_succ]
  have B_43 := Lib.hid (ext_trans B_37.out h_42)
  have F_44 := Lib.hid (shaK_ext F_38.out h_42)
  have F_45 := Lib.hid (shaB_ext F_39.out h_42)
  have F_46 := Lib.hid (F_40.out.ext h_42)
  clear B_37 F_38 F_39 F_40
  clear h_42
  refine takeV (i := 21) (d := 28) (v := .bool true) rfl (by kernel_rfl) (by kernel_rfl) (by kernel_rfl) (fun _ _ _ h => h) rfl (fun w' _ => exBin rfl rfl (grdF _ _ _ _ _) (by rw [fp0]; exact eqF _ (List.length_replicate) _)) B_43.out ?_
  simp only [Act.put, List.setIfInBounds_toArray, List.set_cons_zero, List.set_cons_succ]
  refine takeV (i := 22) (d := 29) (v := .bool true) rfl (by kernel_rfl) (by kernel_rfl) (by kernel_rfl) (fun _ _ _ h => h) rfl (fun _ _ => exPickT (v := .bool true) rfl rfl) B_43.out ?_
  simp only [Act.put, List.setIfInBounds_toArray, List.set_cons_zero, List.set_cons_succ]
  refine takeV (i := 23) (d := 30) (v := .bool true) rfl (by kernel_rfl) (by kernel_rfl) (by kernel_rfl) (fun _ _ _ h => h) rfl (fun _ _ => exMove (v := .bool true) rfl) B_43.out ?_
  simp only [Act.put, List.setIfInBounds_toArray, List.set_cons_zero, List.set_cons_succ]
  refine takeV (i := 24) (d := 31) (v := .agg (bytesS (fpB w19p))) rfl (by kernel_rfl) (by kernel_rfl) (by kernel_rfl) (fun _ _ _ h => h) rfl (fun w' h => exRow_sh rfl (K1.out.ext h) Tryd.underlying25 rfl (by rw [infoB32, bytesS_size, fpB_len])) B_43.out ?_
  simp only [Act.put, List.setIfInBounds_toArray, List.set_cons_zero, List.set_cons_succ]
  refine wpAnyH_all (rs := [25]) (by kernel_rfl) (by simp) ?_
  intro i hi
  simp only [List.mem_cons, List.not_mem_nil, or_false] at hi
  subst hi
  refine wpOp_of rfl rfl (wp_called (args := #[.agg (bytesS (fpB w19p))]) hcT (by simp only [List.map_toArray, List.map_cons, List.map_nil]; rfl) (short_any (fpB w19p) (fpB_len _) w_41) ?_)
  rintro e w_47 ⟨rfl, h_48⟩
  refine ⟨_, rfl, ext_trans B_43.out h_48, ?_⟩
  simp only [Act.put, List.setIfInBounds_toArray, List.set_cons_zero, List.set_cons_succ]
  have B_49 := Lib.hid (ext_trans B_43.out h_48)
  have F_50 := Lib.hid (shaK_ext F_44.out h_48)
  have F_51 := Lib.hid (shaB_ext F_45.out h_48)
  have F_52 := Lib.hid (F_46.out.ext h_48)
  clear B_43 F_44 F_45 F_46
  clear h_48
  refine takeV (i := 26) (d := 33) (v := .int .i64 8) rfl (by kernel_rfl) (by kernel_rfl) (by kernel_rfl) (fun _ _ _ h => h) rfl (fun w' _ => exLenS (LN8.out w')) B_49.out ?_
  simp only [Act.put, List.setIfInBounds_toArray, List.set_cons_zero, List.set_cons_succ]
  refine takeV (i := 27) (d := 34) (v := .bool true) rfl (by kernel_rfl) (by kernel_rfl) (by kernel_rfl) (fun _ _ _ h => h) rfl (fun w' _ => exBin rfl rfl (by rfl) (eq88 _)) B_49.out ?_
  simp only [Act.put, List.setIfInBounds_toArray, List.set_cons_zero, List.set_cons_succ]
  refine takeV (i := 28) (d := 35) (v := .bool true) rfl (by kernel_rfl) (by kernel_rfl) (by kernel_rfl) (fun _ _ _ h => h) rfl (fun _ _ => exPickT (v := .bool true) rfl rfl) B_49.out ?_
  simp only [Act.put, List.setIfInBounds_toArray, List.set_cons_zero, List.set_cons_succ]
  refine takeV (i := 29) (d := 0) (v := .bool true) rfl (by kernel_rfl) (by kernel_rfl) (by kernel_rfl) (fun _ _ _ h => h) rfl (fun _ _ => exAssign (v := .bool true) rfl) B_49.out ?_
  simp only [Act.put, List.setIfInBounds_toArray, List.set_cons_zero]
  refine wpAnyH_done (by kernel_rfl) ?_ _
  have BE := Lib.hid (B1.out.trans (B_49.out.mono B1.out.size))
  clear B_49 F_50 F_51 F_52
  go_wp2_with fail
  go_ret
  exact ⟨rfl, BE.out⟩
end Go.Proofs.YtihggkmjalofiaaDoor
