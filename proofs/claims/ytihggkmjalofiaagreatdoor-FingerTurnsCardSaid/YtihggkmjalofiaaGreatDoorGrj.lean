/- A graph's vertices and steps: the comparisons of the sorts, the library's sorts at them: walked. -/
import Derived.Test.YtihggkmjalofiaaGreatDoorGre
import Derived.Test.YtihggkmjalofiaaGreatDoorVids
import Derived.Test.YtihggkmjalofiaaGreatDoorSort
namespace Go.Proofs.YtihggkmjalofiaaGreatDoor
open Go.RowKit Go.Sort

theorem orV_sign (a b c d : Int) (h1 : 0 ≤ c ∧ c < 4294967296) (h2 : 0 ≤ d ∧ d < 4294967296) : orV (signV a b) (signV c d) = signV (a * 4294967296 + c) (b * 4294967296 + d) := by
  unfold orV signV
  rcases Int.lt_trichotomy a b with h | h | h
  · have e1 : a * 4294967296 + c < b * 4294967296 + d := by omega
    simp [h, e1]
  · subst h
    simp
  · have n1 : ¬ a < b := by omega
    have e1 : ¬ a * 4294967296 + c < b * 4294967296 + d := by omega
    have e2 : b * 4294967296 + d < a * 4294967296 + c := by omega
    simp [h, n1, e1, e2]
theorem signE (x y : EdgeV) : orV (signV (keyV x.1) (keyV y.1)) (signV (keyV x.2) (keyV y.2)) = signV (keyE x) (keyE y) := orV_sign _ _ _ _ (keyV_bd _) (keyV_bd _)
theorem encX_vid (x : VertV) : ∀ (j : Nat) (v : Value), (encV x.1)[j]? = some v → (encX x).toArray[0 + j]? = some v
  | 0, _, h => h
  | 1, _, h => h
  | 2, _, h => h
  | j + 3, _, h => by simp [encV] at h
theorem encE_1 (x : EdgeV) : ∀ (j : Nat) (v : Value), (encV x.1)[j]? = some v → (encE x).toArray[0 + j]? = some v
  | 0, _, h => h
  | 1, _, h => h
  | 2, _, h => h
  | j + 3, _, h => by simp [encV] at h
theorem encE_2 (x : EdgeV) : ∀ (j : Nat) (v : Value), (encV x.2)[j]? = some v → (encE x).toArray[3 + j]? = some v
  | 0, _, h => h
  | 1, _, h => h
  | 2, _, h => h
  | j + 3, _, h => by simp [encV] at h
set_option maxRecDepth 100000 in
set_option maxHeartbeats 1000000 in
theorem someCmpG (x y : VertV) (w : World) : Calls Tryz.prog 230 #[.agg (encX x).toArray, .agg (encX y).toArray] w (RetG w (.int .i64 (signV (keyX x) (keyX y)))) := by
  have HC := Lib.hid (fun w0 => vcmpG x.1 y.1 w0)
  have B0 : Hid (Grew w ((w.alloc (.cells (encX x).toArray 134)).alloc (.cells (encX y).toArray 134))) := ((Grew.refl _).alloc _).alloc _
  have K1 : Hid (Blk ((w.alloc (.cells (encX x).toArray 134)).alloc (.cells (encX y).toArray 134)) w.heap.size 134 (encX x).toArray) := (Blk.new _ _ _).alloc _
  have K2 : Hid (Blk ((w.alloc (.cells (encX x).toArray 134)).alloc (.cells (encX y).toArray 134)) (w.heap.size + 1) 134 (encX y).toArray) := Blk.newAt (by simp) _ _
  have R1 := Lib.hid (blk_sub K1.out (encX_vid x))
  have R2 := Lib.hid (blk_sub K2.out (encX_vid y))
  have E : Hid (signV (keyX x) (keyX y) = signV (keyV x.1) (keyV y.1)) := rfl
  rw [E.out]
  clear E K1 K2
  generalize signV (keyV x.1) (keyV y.1) = sg at *
  go_enter Tryz.func230, Tryz.ntmps230
  go_wp2_with (first | (refine wpList_load_mid rfl 120 _ rfl _ _ (by rfl) _ _ R1.out underVid rfl infoVid ?_) | (refine wpList_load_mid rfl 120 _ rfl _ _ (by rfl) _ _ R2.out underVid rfl infoVid ?_))
  refine (HC.out _).mono ?_
  rintro e w1 ⟨rfl, b1⟩
  have B1 := Lib.hid (B0.out.trans b1)
  clear b1
  go_wp2
  go_ret
  exact ⟨rfl, B1.out⟩
set_option maxRecDepth 100000 in
set_option maxHeartbeats 1000000 in
theorem stepsCmpG (x y : EdgeV) (w : World) : Calls Tryz.prog 233 #[.agg (encE x).toArray, .agg (encE y).toArray] w (RetG w (.int .i64 (signV (keyE x) (keyE y)))) := by
  have HC := Lib.hid (fun w0 => vcmpG x.1 y.1 w0)
  have HD := Lib.hid (fun w0 => vcmpG x.2 y.2 w0)
  have B0 : Hid (Grew w ((w.alloc (.cells (encE x).toArray 137)).alloc (.cells (encE y).toArray 137))) := ((Grew.refl _).alloc _).alloc _
  have K1 : Hid (Blk ((w.alloc (.cells (encE x).toArray 137)).alloc (.cells (encE y).toArray 137)) w.heap.size 137 (encE x).toArray) := (Blk.new _ _ _).alloc _
  have K2 : Hid (Blk ((w.alloc (.cells (encE x).toArray 137)).alloc (.cells (encE y).toArray 137)) (w.heap.size + 1) 137 (encE y).toArray) := Blk.newAt (by simp) _ _
  rw [← signE]
  go_enter Tryz.func233, Tryz.ntmps233
  go_wp2_with fail
  generalize signV (keyV x.1) (keyV y.1) = s1 at *
  generalize signV (keyV x.2) (keyV y.2) = s2 at *
  generalize ((w.alloc (.cells (encE x).toArray 137)).alloc (.cells (encE y).toArray 137)) = w0 at *
  refine wp_region_tail (C := fun w' => ∃ z : GExt w0, w' = z.w) 10 mixedS (by kernel_rfl) ⟨⟨_, (Grew.refl _).drew⟩, rfl⟩ ?_
  simp only [List.take_succ_cons, List.take_zero, List.drop_succ_cons, List.drop_zero]
  repeat (first
    | (refine wpQuiet_load_mid (gext_sub K1.out (encE_1 x)) underVid rfl infoVid rfl rfl ?_; simp only [List.set_cons_succ, List.set_cons_zero])
    | (refine wpQuiet_load_mid (gext_sub K2.out (encE_1 y)) underVid rfl infoVid rfl rfl ?_; simp only [List.set_cons_succ, List.set_cons_zero])
    | (refine wpQuiet_load_mid (gext_sub K1.out (encE_2 x)) underVid rfl infoVid rfl rfl ?_; simp only [List.set_cons_succ, List.set_cons_zero])
    | (refine wpQuiet_load_mid (gext_sub K2.out (encE_2 y)) underVid rfl infoVid rfl rfl ?_; simp only [List.set_cons_succ, List.set_cons_zero])
    | go_big_quiet_step ((first | (go_at_call 231; with_reducible exact gext_call (HC.out _)) | (go_at_call 231; with_reducible exact gext_call (HD.out _)))))
  refine wpQuiet_nil ?_
  rintro _ ⟨z, rfl⟩
  have B1 := Lib.hid (B0.out.trans z.h)
  generalize z.w = w1 at *
  have c0 : (w1.alloc (.cells #[.int .i64 s1, .int .i64 s2] 3)).cell? ⟨w1.heap.size, 0, none⟩ = some (.int .i64 s1) := (Blk.new w1 _ _).cell 0
  have c1 : (w1.alloc (.cells #[.int .i64 s1, .int .i64 s2] 3)).cell? ⟨w1.heap.size, 1, none⟩ = some (.int .i64 s2) := (Blk.new w1 _ _).cell 1
  have HO := Lib.hid (or_any s1 s2 _ _ 2 c0 c1)
  clear c0 c1
  go_wp2_with fail
  refine HO.out.mono ?_
  rintro e w2 ⟨rfl, rfl⟩
  have B2 := Lib.hid (B1.out.alloc (.cells #[.int .i64 s1, .int .i64 s2] 3))
  go_wp2
  go_ret
  exact ⟨rfl, B2.out⟩
theorem cmpLaysX (blk off size : Nat) (w : World) : CmpLays Tryz.prog 230 #[] encX 9 (fun x y => signV (keyX x) (keyX y)) blk off size w :=
  fun _ _ _ _ x y => (someCmpG x y _).mono fun _ _ ⟨he, hg⟩ => ⟨he, hg.grow⟩
theorem cmpLaysE (blk off size : Nat) (w : World) : CmpLays Tryz.prog 233 #[] encE 6 (fun x y => signV (keyE x) (keyE y)) blk off size w :=
  fun _ _ _ _ x y => (stepsCmpG x y _).mono fun _ _ ⟨he, hg⟩ => ⟨he, hg.grow⟩
theorem isAggX (w : World) : (isAgg 134).run Tryz.prog w = .ok true w := by kernel_rfl
theorem sizeX (w : World) : (Go.sizeOf 134).run Tryz.prog w = .ok 9 w := by kernel_rfl
theorem isAggE (w : World) : (isAgg 137).run Tryz.prog w = .ok true w := by kernel_rfl
theorem sizeE (w : World) : (Go.sizeOf 137).run Tryz.prog w = .ok 6 w := by kernel_rfl
instance : Inhabited VertV := ⟨zeroVert⟩
instance : Inhabited EdgeV := ⟨(vid0, vid0)⟩
theorem sortX (l : List VertV) (w : World) (base n : Nat) (v : Value) (hn : l.length = n) (hm : n ≤ 100000) (h : w.ownsRow base 134 9 v n (l.flatMap encX)) :
    Calls Tryz.prog 229 #[v, .func (.func 230) #[] #[]] w fun e w' => e = .returned (.tuple #[]) ∧ Below base w w' ∧
      ∃ d : List VertV, d.Perm l ∧ (d.Pairwise fun a b => keyX a ≤ keyX b) ∧ w'.ownsRow base 134 9 v n (d.flatMap encX) := by
  rcases h.2 with ⟨rfl, hx⟩ | ⟨g, cap, cur, rfl, hg, hh, hnc, hrest⟩
  · subst hx
    have hl : l = [] := List.length_eq_zero_iff.1 hn
    subst hl
    refine (AnyF.slices_SortFunc_none Tryz.sortVert none 0 _ w).mono ?_
    rintro e w' ⟨rfl, rfl⟩
    exact ⟨rfl, Below.refl _ _, [], List.Perm.refl _, List.Pairwise.nil, h⟩
  · have eg : ∀ args w, (callFunc 230 args).run Tryz.prog w = .ok (.enter 230 args) w := enters_of Tryz.func230 (by kernel_rfl) rfl
    have hblk := (h.lt g rfl).2
    have hcon := AnyQ.slices_SortFunc Tryz.sortVert 9 isAggX sizeX encX encX_len encX_one (fun x y => signV (keyX x) (keyX y)) (swo_sign keyX) 230 #[] g 0 cap l.toArray w eg (cmpLaysX g 0 l.toArray.size w) (own_holds encX_len h hn) hblk (by simp only [List.size_toArray]; omega)
    rw [show l.toArray.size = n by simp [hn]] at hcon
    refine Calls.mono hcon ?_
    rintro e w' ⟨rfl, d', m, os, hp, hs, rfl⟩
    obtain ⟨d, rfl⟩ : ∃ d : List VertV, d' = d.toArray := ⟨d'.toList, by simp⟩
    have hp' : PermIn 0 l.toArray.size l.toArray d.toArray := by rw [show l.toArray.size = n by simp [hn]]; exact hp
    obtain ⟨p1, p2⟩ := perm_of_in hp'
    have hs' : SortedIn (ltOf fun x y : VertV => signV (keyX x) (keyX y)) 0 d.length d.toArray := by rw [show d.length = n by omega]; exact hs
    obtain ⟨o1, o2⟩ := own_sorted encX_len h d (by omega) m os
    exact ⟨rfl, o2, d, p1, pair_of_sorted (ltOf_sign keyX) hs', o1⟩
theorem sortE (l : List EdgeV) (w : World) (base n : Nat) (v : Value) (hn : l.length = n) (hm : n ≤ 100000) (h : w.ownsRow base 137 6 v n (l.flatMap encE)) :
    Calls Tryz.prog 232 #[v, .func (.func 233) #[] #[]] w fun e w' => e = .returned (.tuple #[]) ∧ Below base w w' ∧
      ∃ d : List EdgeV, d.Perm l ∧ (d.Pairwise fun a b => keyE a ≤ keyE b) ∧ w'.ownsRow base 137 6 v n (d.flatMap encE) := by
  rcases h.2 with ⟨rfl, hx⟩ | ⟨g, cap, cur, rfl, hg, hh, hnc, hrest⟩
  · subst hx
    have hl : l = [] := List.length_eq_zero_iff.1 hn
    subst hl
    refine (AnyF.slices_SortFunc_none Tryz.sortEdge none 0 _ w).mono ?_
    rintro e w' ⟨rfl, rfl⟩
    exact ⟨rfl, Below.refl _ _, [], List.Perm.refl _, List.Pairwise.nil, h⟩
  · have eg : ∀ args w, (callFunc 233 args).run Tryz.prog w = .ok (.enter 233 args) w := enters_of Tryz.func233 (by kernel_rfl) rfl
    have hblk := (h.lt g rfl).2
    have hcon := AnyQ.slices_SortFunc Tryz.sortEdge 6 isAggE sizeE encE encE_len encE_one (fun x y => signV (keyE x) (keyE y)) (swo_sign keyE) 233 #[] g 0 cap l.toArray w eg (cmpLaysE g 0 l.toArray.size w) (own_holds encE_len h hn) hblk (by simp only [List.size_toArray]; omega)
    rw [show l.toArray.size = n by simp [hn]] at hcon
    refine Calls.mono hcon ?_
    rintro e w' ⟨rfl, d', m, os, hp, hs, rfl⟩
    obtain ⟨d, rfl⟩ : ∃ d : List EdgeV, d' = d.toArray := ⟨d'.toList, by simp⟩
    have hp' : PermIn 0 l.toArray.size l.toArray d.toArray := by rw [show l.toArray.size = n by simp [hn]]; exact hp
    obtain ⟨p1, p2⟩ := perm_of_in hp'
    have hs' : SortedIn (ltOf fun x y : EdgeV => signV (keyE x) (keyE y)) 0 d.length d.toArray := by rw [show d.length = n by omega]; exact hs
    obtain ⟨o1, o2⟩ := own_sorted encE_len h d (by omega) m os
    exact ⟨rfl, o2, d, p1, pair_of_sorted (ltOf_sign keyE) hs', o1⟩
end Go.Proofs.YtihggkmjalofiaaGreatDoor
