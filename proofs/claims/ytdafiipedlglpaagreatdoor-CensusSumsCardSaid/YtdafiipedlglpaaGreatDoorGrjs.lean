/- Texts of general use, one behind another. -/
import Derived.Test.YtdafiipedlglpaaGreatDoorGre
import Derived.Test.YtdafiipedlglpaaGreatDoorVids
import Derived.Test.YtdafiipedlglpaaGreatDoorSort
import Derived.Test.YtdafiipedlglpaaGreatDoorMrc
import Derived.Test.YtdafiipedlglpaaGreatDoorKinds

/- A graph's vertices and steps: the comparisons of the sorts, the library's sorts at them: walked. -/
namespace Go.Proofs.YtdafiipedlglpaaGreatDoor
open Go.RowKit Go.Sort

theorem orV_sign (a b c d : Int) (h1 : 0 ≤ c ∧ c < 4294967296) (h2 : 0 ≤ d ∧ d < 4294967296) : orV (signV a b) (signV c d) = signV (a * 4294967296 + c) (b * 4294967296 + d) := by
  unfold orV signV
  rcases Int.lt_trichotomy a b with h | h | h
  · have e1 : a * 4294967296 + c < b * 4294967296 + d := by omega
    simp [h, e1]
  · subst h
    simp
  · have n1 : ¬ a < b := by omega
    have e1 : ¬ a * 4294967296 + c < b * 4294967296 + d := by omega
    have e2 : b * 4294967296 + d < a * 4294967296 + c := by omega
    simp [h, n1, e1, e2]
theorem signE (x y : EdgeV) : orV (signV (keyV x.1) (keyV y.1)) (signV (keyV x.2) (keyV y.2)) = signV (keyE x) (keyE y) := orV_sign _ _ _ _ (keyV_bd _) (keyV_bd _)
theorem encX_vid (x : VertV) : ∀ (j : Nat) (v : Value), (encV x.1)[j]? = some v → (encX x).toArray[0 + j]? = some v
  | 0, _, h => h
  | 1, _, h => h
  | 2, _, h => h
  | j + 3, _, h => by simp [encV] at h
theorem encE_1 (x : EdgeV) : ∀ (j : Nat) (v : Value), (encV x.1)[j]? = some v → (encE x).toArray[0 + j]? = some v
  | 0, _, h => h
  | 1, _, h => h
  | 2, _, h => h
  | j + 3, _, h => by simp [encV] at h
theorem encE_2 (x : EdgeV) : ∀ (j : Nat) (v : Value), (encV x.2)[j]? = some v → (encE x).toArray[3 + j]? = some v
  | 0, _, h => h
  | 1, _, h => h
  | 2, _, h => h
  | j + 3, _, h => by simp [encV] at h
set_option maxRecDepth 100000 in
set_option maxHeartbeats 1000000 in
theorem someCmpG (x y : VertV) (w : World) : Calls Tryz.prog 189 #[.agg (encX x).toArray, .agg (encX y).toArray] w (RetG w (.int .i64 (signV (keyX x) (keyX y)))) := by
  have HC := Lib.hid (fun w0 => vcmpG x.1 y.1 w0)
  have B0 : Hid (Grew w ((w.alloc (.cells (encX x).toArray 100)).alloc (.cells (encX y).toArray 100))) := ((Grew.refl _).alloc _).alloc _
  have K1 : Hid (Blk ((w.alloc (.cells (encX x).toArray 100)).alloc (.cells (encX y).toArray 100)) w.heap.size 100 (encX x).toArray) := (Blk.new _ _ _).alloc _
  have K2 : Hid (Blk ((w.alloc (.cells (encX x).toArray 100)).alloc (.cells (encX y).toArray 100)) (w.heap.size + 1) 100 (encX y).toArray) := Blk.newAt (by simp) _ _
  have R1 := Lib.hid (blk_sub K1.out (encX_vid x))
  have R2 := Lib.hid (blk_sub K2.out (encX_vid y))
  have E : Hid (signV (keyX x) (keyX y) = signV (keyV x.1) (keyV y.1)) := rfl
  rw [E.out]
  clear E K1 K2
  generalize signV (keyV x.1) (keyV y.1) = sg at *
  go_enter Tryz.func189, Tryz.ntmps189
  go_wp2_with (first | (refine wpList_load_mid rfl 98 _ rfl _ _ (by rfl) _ _ R1.out underVid rfl infoVid ?_) | (refine wpList_load_mid rfl 98 _ rfl _ _ (by rfl) _ _ R2.out underVid rfl infoVid ?_))
  refine (HC.out _).mono ?_
  rintro e w1 ⟨rfl, b1⟩
  have B1 := Lib.hid (B0.out.trans b1)
  clear b1
  go_wp2
  go_ret
  exact ⟨rfl, B1.out⟩
set_option maxRecDepth 100000 in
set_option maxHeartbeats 1000000 in
theorem stepsCmpG (x y : EdgeV) (w : World) : Calls Tryz.prog 192 #[.agg (encE x).toArray, .agg (encE y).toArray] w (RetG w (.int .i64 (signV (keyE x) (keyE y)))) := by
  have HC := Lib.hid (fun w0 => vcmpG x.1 y.1 w0)
  have HD := Lib.hid (fun w0 => vcmpG x.2 y.2 w0)
  have B0 : Hid (Grew w ((w.alloc (.cells (encE x).toArray 194)).alloc (.cells (encE y).toArray 194))) := ((Grew.refl _).alloc _).alloc _
  have K1 : Hid (Blk ((w.alloc (.cells (encE x).toArray 194)).alloc (.cells (encE y).toArray 194)) w.heap.size 194 (encE x).toArray) := (Blk.new _ _ _).alloc _
  have K2 : Hid (Blk ((w.alloc (.cells (encE x).toArray 194)).alloc (.cells (encE y).toArray 194)) (w.heap.size + 1) 194 (encE y).toArray) := Blk.newAt (by simp) _ _
  rw [← signE]
  go_enter Tryz.func192, Tryz.ntmps192
  go_wp2_with fail
  generalize signV (keyV x.1) (keyV y.1) = s1 at *
  generalize signV (keyV x.2) (keyV y.2) = s2 at *
  generalize ((w.alloc (.cells (encE x).toArray 194)).alloc (.cells (encE y).toArray 194)) = w0 at *
  refine wp_region_tail (C := fun w' => ∃ z : GExt w0, w' = z.w) 10 mixedS (by kernel_rfl) ⟨⟨_, (Grew.refl _).drew⟩, rfl⟩ ?_
  simp only [List.take_succ_cons, List.take_zero, List.drop_succ_cons, List.drop_zero]
  repeat (first
    | (refine wpQuiet_load_mid (gext_sub K1.out (encE_1 x)) underVid rfl infoVid rfl rfl ?_; simp only [List.set_cons_succ, List.set_cons_zero])
    | (refine wpQuiet_load_mid (gext_sub K2.out (encE_1 y)) underVid rfl infoVid rfl rfl ?_; simp only [List.set_cons_succ, List.set_cons_zero])
    | (refine wpQuiet_load_mid (gext_sub K1.out (encE_2 x)) underVid rfl infoVid rfl rfl ?_; simp only [List.set_cons_succ, List.set_cons_zero])
    | (refine wpQuiet_load_mid (gext_sub K2.out (encE_2 y)) underVid rfl infoVid rfl rfl ?_; simp only [List.set_cons_succ, List.set_cons_zero])
    | go_big_quiet_step ((first | (go_at_call 190; with_reducible exact gext_call (HC.out _)) | (go_at_call 190; with_reducible exact gext_call (HD.out _)))))
  refine wpQuiet_nil ?_
  rintro _ ⟨z, rfl⟩
  have B1 := Lib.hid (B0.out.trans z.h)
  generalize z.w = w1 at *
  have c0 : (w1.alloc (.cells #[.int .i64 s1, .int .i64 s2] 3)).cell? ⟨w1.heap.size, 0, none⟩ = some (.int .i64 s1) := (Blk.new w1 _ _).cell 0
  have c1 : (w1.alloc (.cells #[.int .i64 s1, .int .i64 s2] 3)).cell? ⟨w1.heap.size, 1, none⟩ = some (.int .i64 s2) := (Blk.new w1 _ _).cell 1
  have HO := Lib.hid (or_any s1 s2 _ _ 2 c0 c1)
  clear c0 c1
  go_wp2_with fail
  refine HO.out.mono ?_
  rintro e w2 ⟨rfl, rfl⟩
  have B2 := Lib.hid (B1.out.alloc (.cells #[.int .i64 s1, .int .i64 s2] 3))
  go_wp2
  go_ret
  exact ⟨rfl, B2.out⟩
theorem cmpLaysX (blk off size : Nat) (w : World) : CmpLays Tryz.prog 189 #[] encX 9 (fun x y => signV (keyX x) (keyX y)) blk off size w :=
  fun _ _ _ _ x y => (someCmpG x y _).mono fun _ _ ⟨he, hg⟩ => ⟨he, hg.grow⟩
theorem cmpLaysE (blk off size : Nat) (w : World) : CmpLays Tryz.prog 192 #[] encE 6 (fun x y => signV (keyE x) (keyE y)) blk off size w :=
  fun _ _ _ _ x y => (stepsCmpG x y _).mono fun _ _ ⟨he, hg⟩ => ⟨he, hg.grow⟩
theorem isAggX (w : World) : (isAgg 100).run Tryz.prog w = .ok true w := by kernel_rfl
theorem sizeX (w : World) : (Go.sizeOf 100).run Tryz.prog w = .ok 9 w := by kernel_rfl
theorem isAggE (w : World) : (isAgg 194).run Tryz.prog w = .ok true w := by kernel_rfl
theorem sizeE (w : World) : (Go.sizeOf 194).run Tryz.prog w = .ok 6 w := by kernel_rfl
instance : Inhabited VertV := ⟨zeroVert⟩
instance : Inhabited EdgeV := ⟨(vid0, vid0)⟩
theorem sortX (l : List VertV) (w : World) (base n : Nat) (v : Value) (hn : l.length = n) (hm : n ≤ 100000) (h : w.ownsRow base 100 9 v n (l.flatMap encX)) :
    Calls Tryz.prog 188 #[v, .func (.func 189) #[] #[]] w fun e w' => e = .returned (.tuple #[]) ∧ Below base w w' ∧
      ∃ d : List VertV, d.Perm l ∧ (d.Pairwise fun a b => keyX a ≤ keyX b) ∧ w'.ownsRow base 100 9 v n (d.flatMap encX) := by
  rcases h.2 with ⟨rfl, hx⟩ | ⟨g, cap, cur, rfl, hg, hh, hnc, hrest⟩
  · subst hx
    have hl : l = [] := List.length_eq_zero_iff.1 hn
    subst hl
    refine (AnyF.slices_SortFunc_none Tryz.sortVert none 0 _ w).mono ?_
    rintro e w' ⟨rfl, rfl⟩
    exact ⟨rfl, Below.refl _ _, [], List.Perm.refl _, List.Pairwise.nil, h⟩
  · have eg : ∀ args w, (callFunc 189 args).run Tryz.prog w = .ok (.enter 189 args) w := enters_of Tryz.func189 (by kernel_rfl) rfl
    have hblk := (h.lt g rfl).2
    have hcon := AnyQ.slices_SortFunc Tryz.sortVert 9 isAggX sizeX encX encX_len encX_one (fun x y => signV (keyX x) (keyX y)) (swo_sign keyX) 189 #[] g 0 cap l.toArray w eg (cmpLaysX g 0 l.toArray.size w) (own_holds encX_len h hn) hblk (by simp only [List.size_toArray]; omega)
    rw [show l.toArray.size = n by simp [hn]] at hcon
    refine Calls.mono hcon ?_
    rintro e w' ⟨rfl, d', m, os, hp, hs, rfl⟩
    obtain ⟨d, rfl⟩ : ∃ d : List VertV, d' = d.toArray := ⟨d'.toList, by simp⟩
    have hp' : PermIn 0 l.toArray.size l.toArray d.toArray := by rw [show l.toArray.size = n by simp [hn]]; exact hp
    obtain ⟨p1, p2⟩ := perm_of_in hp'
    have hs' : SortedIn (ltOf fun x y : VertV => signV (keyX x) (keyX y)) 0 d.length d.toArray := by rw [show d.length = n by omega]; exact hs
    obtain ⟨o1, o2⟩ := own_sorted encX_len h d (by omega) m os
    exact ⟨rfl, o2, d, p1, pair_of_sorted (ltOf_sign keyX) hs', o1⟩
theorem sortE (l : List EdgeV) (w : World) (base n : Nat) (v : Value) (hn : l.length = n) (hm : n ≤ 100000) (h : w.ownsRow base 194 6 v n (l.flatMap encE)) :
    Calls Tryz.prog 191 #[v, .func (.func 192) #[] #[]] w fun e w' => e = .returned (.tuple #[]) ∧ Below base w w' ∧
      ∃ d : List EdgeV, d.Perm l ∧ (d.Pairwise fun a b => keyE a ≤ keyE b) ∧ w'.ownsRow base 194 6 v n (d.flatMap encE) := by
  rcases h.2 with ⟨rfl, hx⟩ | ⟨g, cap, cur, rfl, hg, hh, hnc, hrest⟩
  · subst hx
    have hl : l = [] := List.length_eq_zero_iff.1 hn
    subst hl
    refine (AnyF.slices_SortFunc_none Tryz.sortEdge none 0 _ w).mono ?_
    rintro e w' ⟨rfl, rfl⟩
    exact ⟨rfl, Below.refl _ _, [], List.Perm.refl _, List.Pairwise.nil, h⟩
  · have eg : ∀ args w, (callFunc 192 args).run Tryz.prog w = .ok (.enter 192 args) w := enters_of Tryz.func192 (by kernel_rfl) rfl
    have hblk := (h.lt g rfl).2
    have hcon := AnyQ.slices_SortFunc Tryz.sortEdge 6 isAggE sizeE encE encE_len encE_one (fun x y => signV (keyE x) (keyE y)) (swo_sign keyE) 192 #[] g 0 cap l.toArray w eg (cmpLaysE g 0 l.toArray.size w) (own_holds encE_len h hn) hblk (by simp only [List.size_toArray]; omega)
    rw [show l.toArray.size = n by simp [hn]] at hcon
    refine Calls.mono hcon ?_
    rintro e w' ⟨rfl, d', m, os, hp, hs, rfl⟩
    obtain ⟨d, rfl⟩ : ∃ d : List EdgeV, d' = d.toArray := ⟨d'.toList, by simp⟩
    have hp' : PermIn 0 l.toArray.size l.toArray d.toArray := by rw [show l.toArray.size = n by simp [hn]]; exact hp
    obtain ⟨p1, p2⟩ := perm_of_in hp'
    have hs' : SortedIn (ltOf fun x y : EdgeV => signV (keyE x) (keyE y)) 0 d.length d.toArray := by rw [show d.length = n by omega]; exact hs
    obtain ⟨o1, o2⟩ := own_sorted encE_len h d (by omega) m os
    exact ⟨rfl, o2, d, p1, pair_of_sorted (ltOf_sign keyE) hs', o1⟩
end Go.Proofs.YtdafiipedlglpaaGreatDoor

/- A graph: the vertices, and the steps, of which something holds: walked. -/
namespace Go.Proofs.YtdafiipedlglpaaGreatDoor
open Go.RowKit
open Go.ChangeMaps (setBlock)

theorem own_ne_iter {P : Program} {kt : TypeId} {w : World} {base size n : Nat} {e : TypeId} {v : Value} {xs : List Value} {b r k : Nat} {l todo : List (Value × Value)} (h : w.ownsRow base e size v n xs) (hm : RangeIs P kt w b r l todo) (hk : v.ownBlock = some k) : k ≠ r := by
  rintro rfl
  obtain ⟨cur, hh⟩ := own_type h hk
  obtain ⟨es, clock, since, seen, c0, _, _, _, _, hr, _⟩ := hm
  rw [hh] at hr; cases hr
section
variable {α : Type} {key : α → Int} {pr : α → Value × Value} {id : α → Value}
theorem perm_rise (inj : ∀ x y : α, key x = key y → id x = id y) (hpr : ∀ x, (pr x).1 = id x) {E : List (Value × Value)} {ds d : List α} {q : α → Bool} (hap : E.Pairwise fun a b => a.1 ≠ b.1) (hp : (ds.map pr).Perm E) (hd : d.Perm (ds.filter q)) (hs : d.Pairwise fun a b => key a ≤ key b) : RiseK key d := by
  have h1 : (ds.map pr).Pairwise fun a b => a.1 ≠ b.1 := (hp.pairwise_iff fun h => h.symm).2 hap
  rw [List.pairwise_map] at h1
  have h2 : ds.Pairwise fun a b => id a ≠ id b := h1.imp fun {a b} h => by rw [← hpr, ← hpr]; exact h
  have h3 : (ds.filter q).Pairwise fun a b => id a ≠ id b := h2.sublist List.filter_sublist
  have h4 : d.Pairwise fun a b => id a ≠ id b := (hd.pairwise_iff fun h => h.symm).2 h3
  exact (hs.and h4).imp fun {a b} h => by
    have : key a ≠ key b := fun e => h.2 (inj a b e)
    omega
end
def prX (x : VertV) : Value × Value := (.agg (encV x.1).toArray, .agg (encX x).toArray)
theorem ents_X {L : List PatV} {E : List (Value × Value)} (hE : VertsM L E) : ∀ pr ∈ E, ∃ x, pr = prX x := by
  intro pr hpr
  obtain ⟨v, x, hv, rfl⟩ := (hE pr).1 hpr
  exact ⟨x, by rw [prX, vertV_id hv]⟩
theorem prX_mem {L : List PatV} {E : List (Value × Value)} (hE : VertsM L E) (z : VertV) : prX z ∈ E ↔ vertV L z.1 = some z := by
  rw [hE]
  constructor
  · rintro ⟨v, x, hv, e⟩
    have e1 : Value.agg (encV z.1).toArray = .agg (encV v).toArray := congrArg Prod.fst e
    have e2 : Value.agg (encX z).toArray = .agg (encX x).toArray := congrArg Prod.snd e
    obtain rfl := encVa_inj e1
    have e3 : encX z = encX x := by
      have := congrArg (fun v => match v with | .agg a => a.toList | _ => []) e2
      exact this
    rw [encX_inj e3] at hv ⊢
    exact hv
  · intro h
    exact ⟨z.1, z, h, rfl⟩
theorem prX_inj {x y : VertV} (h : prX x = prX y) : x = y := by
  have e2 : Value.agg (encX x).toArray = .agg (encX y).toArray := congrArg Prod.snd h
  refine encX_inj ?_
  have := congrArg (fun v => match v with | .agg a => a.toList | _ => []) e2
  exact this
theorem some_end {L : List PatV} {E : List (Value × Value)} {ds d : List VertV} {q : VertV → Bool} (hG : GrOk L) (hE : VertsM L E) (hap : E.Pairwise fun a b => a.1 ≠ b.1) (hp : (ds.map prX).Perm E) (hd : d.Perm (ds.filter q)) (hs : d.Pairwise fun a b => keyX a ≤ keyX b) : d = (vertsL L).filter q := by
  refine rise_eqX (perm_rise (id := fun x : VertV => .agg (encV x.1).toArray) (fun x y h => by rw [keyV_inj _ _ h]) (fun x => rfl) hap hp hd hs) (hG.verts_rise.sublist List.filter_sublist) fun z => ?_
  rw [hd.mem_iff, List.mem_filter, List.mem_filter, hG.verts, ← prX_mem hE, ← hp.mem_iff, List.mem_map]
  constructor
  · rintro ⟨h1, h2⟩; exact ⟨⟨z, h1, rfl⟩, h2⟩
  · rintro ⟨⟨x, h1, e⟩, h2⟩
    obtain rfl := prX_inj e
    exact ⟨h1, h2⟩
def prE (L : List PatV) (e : EdgeV) : Value × Value := (.agg (encE e).toArray, .agg (encV (fileV L e.1)).toArray)
theorem ents_E {L : List PatV} {E : List (Value × Value)} (hE : EdgesM L E) : ∀ pr ∈ E, ∃ x, pr = prE L x := by
  intro pr hpr
  obtain ⟨e, _, rfl⟩ := (hE pr).1 hpr
  exact ⟨e, rfl⟩
theorem prE_inj {L : List PatV} {x y : EdgeV} (h : prE L x = prE L y) : x = y := by
  have e2 : Value.agg (encE x).toArray = .agg (encE y).toArray := congrArg Prod.fst h
  exact encEa_inj e2
theorem prE_mem {L : List PatV} {E : List (Value × Value)} (hE : EdgesM L E) (z : EdgeV) : prE L z ∈ E ↔ z ∈ edgesL L := by
  rw [hE]
  unfold edgesL
  rw [setK_mem keyE_inj]
  constructor
  · rintro ⟨e, he, h⟩
    have e2 : Value.agg (encE z).toArray = .agg (encE e).toArray := congrArg Prod.fst h
    rw [encEa_inj e2]; exact he
  · intro h; exact ⟨z, h, rfl⟩
theorem steps_end {L : List PatV} {E : List (Value × Value)} {ds d : List EdgeV} {q : EdgeV → Bool} (hE : EdgesM L E) (hap : E.Pairwise fun a b => a.1 ≠ b.1) (hp : (ds.map (prE L)).Perm E) (hd : d.Perm (ds.filter q)) (hs : d.Pairwise fun a b => keyE a ≤ keyE b) : d = (edgesL L).filter q := by
  refine rise_eq (perm_rise (id := fun x : EdgeV => .agg (encE x).toArray) (fun x y h => by rw [keyE_inj _ _ h]) (fun x => rfl) hap hp hd hs) ((setK_rise keyE_inj _).sublist List.filter_sublist) fun z => ?_
  rw [hd.mem_iff, List.mem_filter, List.mem_filter, ← prE_mem hE, ← hp.mem_iff, List.mem_map]
  constructor
  · rintro ⟨h1, h2⟩; exact ⟨⟨z, h1, rfl⟩, h2⟩
  · rintro ⟨⟨x, h1, e⟩, h2⟩
    obtain rfl := prE_inj e
    exact ⟨h1, h2⟩
theorem filt_snoc_t {α : Type} {q : α → Bool} {ds : List α} {x : α} (h : q x = true) : (ds ++ [x]).filter q = ds.filter q ++ [x] := by rw [List.filter_append]; simp [h]
theorem filt_snoc_f {α : Type} {q : α → Bool} {ds : List α} {x : α} (h : q x = false) : (ds ++ [x]).filter q = ds.filter q := by rw [List.filter_append]; simp [h]
theorem allocEdge (w : World) : (Instr.alloc 194 true (.tuple #[])).run Tryz.prog w = .ok (.pointer (some ⟨w.heap.size, 0, none⟩)) (w.alloc (.cells (encE (vid0, vid0)).toArray 194)) := by kernel_rfl
theorem allocVidZ (w : World) : (Instr.alloc 98 true (.tuple #[])).run Tryz.prog w = .ok (.pointer (some ⟨w.heap.size, 0, none⟩)) (w.alloc (.cells (encV vid0).toArray 98)) := by kernel_rfl
theorem encE_all (e : EdgeV) : (encE e).toArray.all (·.oneCell') = true := by simp [encE, Value.oneCell']
theorem encV_all (e : VidV) : (encV e).toArray.all (·.oneCell') = true := by simp [encV, Value.oneCell']
set_option maxRecDepth 100000 in
set_option maxHeartbeats 4000000 in
theorem some20_any {w : World} {F : Nat → Prop} {g : Nat} {L : List PatV} (hI : GraphAt w F g L) (hfew : L.length ≤ 400) (q : VertV → Bool) (f : FuncId) (hF : ∀ args w, (callFunc f args).run Tryz.prog w = .ok (.enter f args) w) (caps : Array Value)
    (HC : ∀ (x : VertV) (wr : World), Below w.heap.size w wr → Calls Tryz.prog f (#[.agg (encX x).toArray] ++ caps) wr (RetB wr (.bool (q x)))) :
    Calls Tryz.prog 127 #[.pointer (some ⟨g, 0, none⟩), .func (.func f) #[] caps] w (OwnedRet w 100 9 ((vertsL L).filter q).length (((vertsL L).filter q).flatMap encX)) := by
  obtain ⟨gm, ge, GC⟩ := hI.mem.cells
  obtain ⟨E, kM, kE, hlen⟩ := GC.map
  have hE8 : E.length ≤ 80000 := by have := hI.ok.opsN; omega
  have KM := Lib.hid kM
  have hgm := Lib.hid kM.lt
  have HK := Lib.hid (ents_X kE)
  have HEND := Lib.hid (fun ds d hp hd hs => some_end (L := L) hI.ok (ds := ds) (d := d) (q := q) kE kM.apart hp hd hs)
  have y1 : w.cell? ⟨g, 64, none⟩ = some (.map (some gm)) := GC.m ⟨w, Below.refl _ _⟩
  have HC := Lib.hid HC
  clear GC kM kE hI
  go_enter Tryz.func127, Tryz.ntmps127
  go_wp2_with (at_range; refine wpList_rangeIs rfl _ 187 rfl _ kMapVert (by rfl) KM.out ?_; intro ob R1)
  go_frame
  have B2 := Lib.hid (below_new w ob)
  have R2 := Lib.hid R1
  clear R1 y1
  generalize w.alloc ob = w2 at *
  generalize hrr : w.heap.size = r at R2 ⊢
  replace hrr := Lib.hid hrr
  have hrw : Hid (w.heap.size ≤ r) := by have := hrr.out; rw [Hid]; omega
  go_loopw [5] (fun v wr => ∃ (ds : List VertV) (todo : List (Value × Value)), Hid (wr.ownsRow w.heap.size 100 9 v (ds.filter q).length ((ds.filter q).flatMap encX)) ∧ Hid (RangeIs Tryz.prog 98 wr gm r E todo) ∧ Hid ((ds.map prX ++ todo).Perm E) ∧ Hid (Below w.heap.size w wr)) (fun _ wr => wr.rangeLeft gm r)
  case atStart => exact ⟨[], E, World.ownsRow_nil _ _ _ _, R2.out, List.Perm.refl _, B2.out⟩
  case round =>
    clear R2 B2
    obtain ⟨ds, todo, OW, R, PM, B⟩ := hrel
    have hlk := PM.out.length_eq
    rw [List.length_append, List.length_map] at hlk
    have hfl := List.length_filter_le q ds
    go_wp2_with (at_next; refine wpList_nextIs rfl _ rfl (by rfl) R.out ?_ ?_)
    · intro h0
      subst h0
      have hpe : Hid ((ds.map prX).Perm E) := by have := PM.out; rw [List.append_nil] at this; exact this
      have HS := Lib.hid (sortX (ds.filter q) wr w.heap.size _ _ rfl (by omega) OW.out)
      obtain ⟨A9, c9, rfl, _, _⟩ := Sl.of_own OW.out
      clear OW R PM
      generalize (ds.filter q).length = nf at *
      go_wp2_with fail
      refine HS.out.mono ?_
      rintro e w5 ⟨rfl, b5, d, dp, dr, o5⟩
      have e1 := HEND.out ds d hpe.out dp dr
      have B5 := Lib.hid (B.out.trans b5)
      have O5 : Hid (w5.ownsRow w.heap.size 100 9 (.slice A9 nf c9) ((vertsL L).filter q).length (((vertsL L).filter q).flatMap encX)) := by
        have hl := o5.1
        rw [flatMap_len encX d (fun x _ => encX_len x)] at hl
        have : nf = d.length := Nat.eq_of_mul_eq_mul_right (by decide : 0 < 9) hl.symm
        rw [Hid, ← e1, ← this]; exact o5
      clear dp dr o5 b5 HS hpe e1
      go_wp2
      go_ret
      exact ⟨_, rfl, O5.out, B5.out⟩
    · intro pk pv todo' w3 hp hpl hR3 hB hoth hsz hen
      obtain ⟨x, hx⟩ := HK.out _ hpl
      have hx1 : pk = .agg (encV x.1).toArray := congrArg Prod.fst hx
      have hx2 : pv = .agg (encX x).toArray := congrArg Prod.snd hx
      subst hx1 hx2
      have O3 : Hid (w3.ownsRow w.heap.size 100 9 _ (ds.filter q).length ((ds.filter q).flatMap encX)) := own_keepF OW.out fun k e => hoth k (own_ne_iter OW.out R.out e)
      have B3 := Lib.hid (B.out.trans (hB w.heap.size hrw.out))
      have hpl2 := hp.length_eq
      simp only [List.length_cons] at hpl2
      have P3 : Hid (((ds ++ [x]).map prX ++ todo').Perm E) := by
        refine List.Perm.trans ?_ PM.out
        rw [List.map_append, List.append_assoc]
        exact (hp.symm.append_left _)
      have R3 := Lib.hid hR3
      have hml : Hid (wr.rangeLeft gm r = todo.length) := R.out.left_eq
      have hlt2 : Hid (todo'.length < todo.length) := by rw [Hid]; omega
      clear hp hR3 hpl hB hoth hsz OW R B PM hx hpl2
      have KZ : Hid (Blk (w3.alloc (.cells zeroX 100)) w3.heap.size 100 zeroX) := Blk.new _ _ _
      have KX : Hid (Blk ((w3.alloc (.cells zeroX 100)).setRow w3.heap.size (encX x).toArray) w3.heap.size 100 (encX x).toArray) := KZ.out.row _
      have BN : Hid (Below w3.heap.size w3 ((w3.alloc (.cells zeroX 100)).setRow w3.heap.size (encX x).toArray)) := below_setRow (below_new w3 _) (Nat.le_refl _) _
      have O4 := Lib.hid (own_ext O3.out BN.out)
      have R4 := Lib.hid (R3.out.keep (BN.out.block gm R3.out.map.lt) (BN.out.block r R3.out.lt))
      have B4 := Lib.hid (B3.out.trans (BN.out.mono B3.out.size))
      go_upto_region 7 with (first
        | (refine wpList_alloced (allocVert _) ?_)
        | (refine wpList_store_row rfl 100 _ _ (by rfl) w3.heap.size (encX x).toArray (by rfl) (by rfl) _ _ KZ.out infoVert rfl (encX_all _) ?_))
      generalize ((w3.alloc (.cells zeroX 100)).setRow w3.heap.size (encX x).toArray) = w4 at *
      clear KZ BN O3 R3 B3 hen
      generalize w3.heap.size = gx at *
      have KQ := Lib.hid KX.out
      have HQ := Lib.hid (HC.out x w4 B4.out)
      have hfd := (List.length_filter_le q ds)
      cases hq : q x
      · rw [hq] at HQ
        have EF := Lib.hid (filt_snoc_f (q := q) (ds := ds) (x := x) hq)
        go_wp2_with (first
          | (refine wpList_load_row rfl 100 _ (by rfl) gx (by rfl) _ _ _ _ KQ.out underVert rfl infoVert ?_)
          | ((with_reducible refine wpList_calledV hF ?_ ?_ HQ.out ?_); rfl; rfl; rintro e w5 ⟨rfl, b5⟩; refine ⟨_, rfl, ?_⟩; simp only [Act.put, List.setIfInBounds_toArray, List.set_cons_zero, List.set_cons_succ]))
        have O5 := Lib.hid (own_ext O4.out b5)
        have R5 := Lib.hid (R4.out.keep (b5.block gm R4.out.map.lt) (b5.block r R4.out.lt))
        have B5 := Lib.hid (B4.out.trans (b5.mono B4.out.size))
        have hme : Hid (w5.rangeLeft gm r < wr.rangeLeft gm r) := by rw [Hid, R5.out.left_eq, hml.out]; exact hlt2.out
        clear b5 O4 R4 B4 KQ HQ hml hlt2 KX
        go_roundw
        case rel => exact ⟨ds ++ [x], todo', by rw [EF.out]; exact O5.out, R5.out, P3.out, B5.out⟩
        case measure => exact hme.out
      · rw [hq] at HQ
        have EF := Lib.hid (filt_snoc_t (q := q) (ds := ds) (x := x) hq)
        go_upto_region 8 with (first
          | (refine wpList_load_row rfl 100 _ (by rfl) gx (by rfl) _ _ _ _ KQ.out underVert rfl infoVert ?_)
          | ((with_reducible refine wpList_calledV hF ?_ ?_ HQ.out ?_); rfl; rfl; rintro e w5 ⟨rfl, b5⟩; refine ⟨_, rfl, ?_⟩; simp only [Act.put, List.setIfInBounds_toArray, List.set_cons_zero, List.set_cons_succ]))
        have O5 := Lib.hid (own_ext O4.out b5)
        have R5 := Lib.hid (R4.out.keep (b5.block gm R4.out.map.lt) (b5.block r R4.out.lt))
        have B5 := Lib.hid (B4.out.trans (b5.mono B4.out.size))
        have KX5 := Lib.hid (KX.out.ext b5)
        clear b5 O4 R4 B4 KQ HQ KX
        have hbs := B5.out.size
        obtain ⟨nf, hnf⟩ : ∃ nf, nf = (ds.filter q).length := ⟨_, rfl⟩
        rw [← hnf] at O5 hfd
        replace hnf := Lib.hid hnf
        go_wp2_with (first
          | (refine wpList_load_row rfl 100 _ (by rfl) gx (by rfl) _ _ _ _ KX5.out underVert rfl infoVert ?_)
          | (refine wpList_lit1 vertSl (encX_len x) (by omega) (by rfl) ?_)
          | (at_builtin; refine wpList_pushF vertSl O5.out (encX x) (encX_len x) (encX_one x) hbs (by omega) (by unfold maxLen; omega) (by rfl) (by rfl) (by rfl) ?_; intro v1 w6 own1 kp hv1))
        have O6 : Hid (w6.ownsRow w.heap.size 100 9 v1 ((ds ++ [x]).filter q).length (((ds ++ [x]).filter q).flatMap encX)) := by
          rw [Hid, EF.out, List.length_append, List.flatMap_append, ← hnf.out]; simpa using own1
        have R6 : Hid (RangeIs Tryz.prog 98 w6 gm r E todo') := R5.out.keep (kp.block gm R5.out.map.lt fun e => own_ne_map O5.out R5.out.map e rfl) (kp.block r R5.out.lt fun e => own_ne_iter O5.out R5.out e rfl)
        have B6 := Lib.hid (B5.out.trans (kp.below (fun k e => (O5.out.lt k e).1) B5.out.size))
        have hme : Hid (w6.rangeLeft gm r < wr.rangeLeft gm r) := by rw [Hid, R6.out.left_eq, hml.out]; exact hlt2.out
        clear own1 kp hv1 O5 B5 R5 KX5 hml hlt2
        go_roundw
        case rel => exact ⟨ds ++ [x], todo', O6.out, R6.out, P3.out, B6.out⟩
        case measure => exact hme.out
set_option maxRecDepth 100000 in
set_option maxHeartbeats 4000000 in
theorem steps20_any {w : World} {F : Nat → Prop} {g : Nat} {L : List PatV} (hI : GraphAt w F g L) (hfew : L.length ≤ 400) (q : VidV → Bool) (f : FuncId) (hF : ∀ args w, (callFunc f args).run Tryz.prog w = .ok (.enter f args) w) (caps : Array Value)
    (HC : ∀ (x : VidV) (wr : World), Below w.heap.size w wr → Calls Tryz.prog f (#[.agg (encV x).toArray] ++ caps) wr (RetB wr (.bool (q x)))) :
    Calls Tryz.prog 130 #[.pointer (some ⟨g, 0, none⟩), .func (.func f) #[] caps] w (OwnedRet w 194 6 ((edgesL L).filter (fun e => q (fileV L e.1))).length (((edgesL L).filter (fun e => q (fileV L e.1))).flatMap encE)) := by
  obtain ⟨gm, ge, GC⟩ := hI.mem.cells
  obtain ⟨E, kM, kE, hlen⟩ := GC.emap
  have hE8 : E.length ≤ 80000 := by have := hI.ok.opsN; omega
  have KM := Lib.hid kM
  have hgm := Lib.hid kM.lt
  have HK := Lib.hid (ents_E kE)
  have HEND := Lib.hid (fun ds d hp hd hs => steps_end (L := L) (ds := ds) (d := d) (q := (fun e => q (fileV L e.1))) kE kM.apart hp hd hs)
  have y1 : w.cell? ⟨g, 65, none⟩ = some (.map (some ge)) := GC.e ⟨w, Below.refl _ _⟩
  have HC := Lib.hid HC
  clear GC kM kE hI
  go_enter Tryz.func130, Tryz.ntmps130
  go_wp2_with (at_range; refine wpList_rangeIs rfl _ 188 rfl _ kMapEdge (by rfl) KM.out ?_; intro ob R1)
  go_frame
  have B2 := Lib.hid (below_new w ob)
  have R2 := Lib.hid R1
  clear R1 y1
  generalize w.alloc ob = w2 at *
  generalize hrr : w.heap.size = r at R2 ⊢
  replace hrr := Lib.hid hrr
  have hrw : Hid (w.heap.size ≤ r) := by have := hrr.out; rw [Hid]; omega
  go_loopw [5] (fun v wr => ∃ (ds : List EdgeV) (todo : List (Value × Value)), Hid (wr.ownsRow w.heap.size 194 6 v (ds.filter (fun e => q (fileV L e.1))).length ((ds.filter (fun e => q (fileV L e.1))).flatMap encE)) ∧ Hid (RangeIs Tryz.prog 194 wr ge r E todo) ∧ Hid ((ds.map (prE L) ++ todo).Perm E) ∧ Hid (Below w.heap.size w wr)) (fun _ wr => wr.rangeLeft ge r)
  case atStart => exact ⟨[], E, World.ownsRow_nil _ _ _ _, R2.out, List.Perm.refl _, B2.out⟩
  case round =>
    clear R2 B2
    obtain ⟨ds, todo, OW, R, PM, B⟩ := hrel
    have hlk := PM.out.length_eq
    rw [List.length_append, List.length_map] at hlk
    have hfl := List.length_filter_le (fun e => q (fileV L e.1)) ds
    go_wp2_with (at_next; refine wpList_nextIs rfl _ rfl (by rfl) R.out ?_ ?_)
    · intro h0
      subst h0
      have hpe : Hid ((ds.map (prE L)).Perm E) := by have := PM.out; rw [List.append_nil] at this; exact this
      have HS := Lib.hid (sortE (ds.filter (fun e => q (fileV L e.1))) wr w.heap.size _ _ rfl (by omega) OW.out)
      obtain ⟨A9, c9, rfl, _, _⟩ := Sl.of_own OW.out
      clear OW R PM
      generalize (ds.filter (fun e => q (fileV L e.1))).length = nf at *
      go_wp2_with fail
      refine HS.out.mono ?_
      rintro e w5 ⟨rfl, b5, d, dp, dr, o5⟩
      have e1 := HEND.out ds d hpe.out dp dr
      have B5 := Lib.hid (B.out.trans b5)
      have O5 : Hid (w5.ownsRow w.heap.size 194 6 (.slice A9 nf c9) ((edgesL L).filter (fun e => q (fileV L e.1))).length (((edgesL L).filter (fun e => q (fileV L e.1))).flatMap encE)) := by
        have hl := o5.1
        rw [flatMap_len encE d (fun x _ => encE_len x)] at hl
        have : nf = d.length := Nat.eq_of_mul_eq_mul_right (by decide : 0 < 6) hl.symm
        rw [Hid, ← e1, ← this]; exact o5
      clear dp dr o5 b5 HS hpe e1
      go_wp2
      go_ret
      exact ⟨_, rfl, O5.out, B5.out⟩
    · intro pk pv todo' w3 hp hpl hR3 hB hoth hsz hen
      obtain ⟨x, hx⟩ := HK.out _ hpl
      have hx1 : pk = .agg (encE x).toArray := congrArg Prod.fst hx
      have hx2 : pv = .agg (encV (fileV L x.1)).toArray := congrArg Prod.snd hx
      subst hx1 hx2
      have O3 : Hid (w3.ownsRow w.heap.size 194 6 _ (ds.filter (fun e => q (fileV L e.1))).length ((ds.filter (fun e => q (fileV L e.1))).flatMap encE)) := own_keepF OW.out fun k e => hoth k (own_ne_iter OW.out R.out e)
      have B3 := Lib.hid (B.out.trans (hB w.heap.size hrw.out))
      have hpl2 := hp.length_eq
      simp only [List.length_cons] at hpl2
      have P3 : Hid (((ds ++ [x]).map (prE L) ++ todo').Perm E) := by
        refine List.Perm.trans ?_ PM.out
        rw [List.map_append, List.append_assoc]
        exact (hp.symm.append_left _)
      have R3 := Lib.hid hR3
      have hml : Hid (wr.rangeLeft ge r = todo.length) := R.out.left_eq
      have hlt2 : Hid (todo'.length < todo.length) := by rw [Hid]; omega
      clear hp hR3 hpl hB hoth hsz OW R B PM hx hpl2
      obtain ⟨fx, hfx⟩ : ∃ fx, fx = fileV L x.1 := ⟨_, rfl⟩
      rw [← hfx] at hen
      have KZ : Hid (Blk ((w3.alloc (.cells (encE (vid0, vid0)).toArray 194)).alloc (.cells (encV vid0).toArray 98)) w3.heap.size 194 (encE (vid0, vid0)).toArray) := (Blk.new _ _ _).alloc _
      have KY : Hid (Blk (((w3.alloc (.cells (encE (vid0, vid0)).toArray 194)).alloc (.cells (encV vid0).toArray 98)).setRow w3.heap.size (encE x).toArray) (w3.heap.size + 1) 98 (encV vid0).toArray) := (Blk.newAt (by simp) _ _).rowFar (by omega) _
      have KX : Hid (Blk ((((w3.alloc (.cells (encE (vid0, vid0)).toArray 194)).alloc (.cells (encV vid0).toArray 98)).setRow w3.heap.size (encE x).toArray).setRow (w3.heap.size + 1) (encV fx).toArray) w3.heap.size 194 (encE x).toArray) := (KZ.out.row _).rowFar (by omega) _
      have KQ : Hid (Blk ((((w3.alloc (.cells (encE (vid0, vid0)).toArray 194)).alloc (.cells (encV vid0).toArray 98)).setRow w3.heap.size (encE x).toArray).setRow (w3.heap.size + 1) (encV fx).toArray) (w3.heap.size + 1) 98 (encV fx).toArray) := KY.out.row _
      have BN : Hid (Below w3.heap.size w3 ((((w3.alloc (.cells (encE (vid0, vid0)).toArray 194)).alloc (.cells (encV vid0).toArray 98)).setRow w3.heap.size (encE x).toArray).setRow (w3.heap.size + 1) (encV fx).toArray)) := below_setRow (below_setRow (((Below.refl _ _).alloc (Nat.le_refl _) _).alloc (by simp) _) (Nat.le_refl _) _) (Nat.le_succ _) _
      have O4 := Lib.hid (own_ext O3.out BN.out)
      have R4 := Lib.hid (R3.out.keep (BN.out.block ge R3.out.map.lt) (BN.out.block r R3.out.lt))
      have B4 := Lib.hid (B3.out.trans (BN.out.mono B3.out.size))
      have hs3 : (w3.alloc (.cells (encE (vid0, vid0)).toArray 194)).heap.size = w3.heap.size + 1 := by simp
      replace hfx := Lib.hid hfx
      go_upto_region 7 with (first
        | (refine wpList_alloced (allocEdge _) ?_)
        | (refine wpList_alloced (allocVidZ _) ?_; rw [hs3])
        | (refine wpList_store_row rfl 194 _ _ (by rfl) w3.heap.size (encE x).toArray (by rfl) (by rfl) _ _ KZ.out infoEdge rfl (encE_all _) ?_)
        | (refine wpList_store_row rfl 98 _ _ (by rfl) (w3.heap.size + 1) (encV fx).toArray (by rfl) (by rfl) _ _ KY.out infoVid rfl (encV_all _) ?_))
      generalize ((((w3.alloc (.cells (encE (vid0, vid0)).toArray 194)).alloc (.cells (encV vid0).toArray 98)).setRow w3.heap.size (encE x).toArray).setRow (w3.heap.size + 1) (encV fx).toArray) = w4 at *
      clear KZ KY BN O3 R3 B3 hen hs3
      generalize w3.heap.size + 1 = gq at *
      generalize w3.heap.size = gx at *
      rw [hfx.out] at KQ ⊢
      have HQ := Lib.hid (HC.out (fileV L x.1) w4 B4.out)
      have hfd := (List.length_filter_le (fun e => q (fileV L e.1)) ds)
      cases hq : q (fileV L x.1)
      · rw [hq] at HQ
        have EF := Lib.hid (filt_snoc_f (q := (fun e => q (fileV L e.1))) (ds := ds) (x := x) hq)
        go_wp2_with (first
          | (refine wpList_load_row rfl 98 _ (by rfl) gq (by rfl) _ _ _ _ KQ.out underVid rfl infoVid ?_)
          | ((with_reducible refine wpList_calledV hF ?_ ?_ HQ.out ?_); rfl; rfl; rintro e w5 ⟨rfl, b5⟩; refine ⟨_, rfl, ?_⟩; simp only [Act.put, List.setIfInBounds_toArray, List.set_cons_zero, List.set_cons_succ]))
        have O5 := Lib.hid (own_ext O4.out b5)
        have R5 := Lib.hid (R4.out.keep (b5.block ge R4.out.map.lt) (b5.block r R4.out.lt))
        have B5 := Lib.hid (B4.out.trans (b5.mono B4.out.size))
        have hme : Hid (w5.rangeLeft ge r < wr.rangeLeft ge r) := by rw [Hid, R5.out.left_eq, hml.out]; exact hlt2.out
        clear b5 O4 R4 B4 KQ HQ hml hlt2 KX
        go_roundw
        case rel => exact ⟨ds ++ [x], todo', by rw [EF.out]; exact O5.out, R5.out, P3.out, B5.out⟩
        case measure => exact hme.out
      · rw [hq] at HQ
        have EF := Lib.hid (filt_snoc_t (q := (fun e => q (fileV L e.1))) (ds := ds) (x := x) hq)
        go_upto_region 8 with (first
          | (refine wpList_load_row rfl 98 _ (by rfl) gq (by rfl) _ _ _ _ KQ.out underVid rfl infoVid ?_)
          | ((with_reducible refine wpList_calledV hF ?_ ?_ HQ.out ?_); rfl; rfl; rintro e w5 ⟨rfl, b5⟩; refine ⟨_, rfl, ?_⟩; simp only [Act.put, List.setIfInBounds_toArray, List.set_cons_zero, List.set_cons_succ]))
        have O5 := Lib.hid (own_ext O4.out b5)
        have R5 := Lib.hid (R4.out.keep (b5.block ge R4.out.map.lt) (b5.block r R4.out.lt))
        have B5 := Lib.hid (B4.out.trans (b5.mono B4.out.size))
        have KX5 := Lib.hid (KX.out.ext b5)
        clear b5 O4 R4 B4 KQ HQ KX
        have hbs := B5.out.size
        obtain ⟨nf, hnf⟩ : ∃ nf, nf = (ds.filter (fun e => q (fileV L e.1))).length := ⟨_, rfl⟩
        rw [← hnf] at O5 hfd
        replace hnf := Lib.hid hnf
        go_wp2_with (first
          | (refine wpList_load_row rfl 194 _ (by rfl) gx (by rfl) _ _ _ _ KX5.out underEdge rfl infoEdge ?_)
          | (refine wpList_lit1 edgeSl (encE_len x) (by omega) (by rfl) ?_)
          | (at_builtin; refine wpList_pushF edgeSl O5.out (encE x) (encE_len x) (encE_one x) hbs (by omega) (by unfold maxLen; omega) (by rfl) (by rfl) (by rfl) ?_; intro v1 w6 own1 kp hv1))
        have O6 : Hid (w6.ownsRow w.heap.size 194 6 v1 ((ds ++ [x]).filter (fun e => q (fileV L e.1))).length (((ds ++ [x]).filter (fun e => q (fileV L e.1))).flatMap encE)) := by
          rw [Hid, EF.out, List.length_append, List.flatMap_append, ← hnf.out]; simpa using own1
        have R6 : Hid (RangeIs Tryz.prog 194 w6 ge r E todo') := R5.out.keep (kp.block ge R5.out.map.lt fun e => own_ne_map O5.out R5.out.map e rfl) (kp.block r R5.out.lt fun e => own_ne_iter O5.out R5.out e rfl)
        have B6 := Lib.hid (B5.out.trans (kp.below (fun k e => (O5.out.lt k e).1) B5.out.size))
        have hme : Hid (w6.rangeLeft ge r < wr.rangeLeft ge r) := by rw [Hid, R6.out.left_eq, hml.out]; exact hlt2.out
        clear own1 kp hv1 O5 B5 R5 KX5 hml hlt2
        go_roundw
        case rel => exact ⟨ds ++ [x], todo', O6.out, R6.out, P3.out, B6.out⟩
        case measure => exact hme.out
end Go.Proofs.YtdafiipedlglpaaGreatDoor

/- A graph: all vertices, those of a file, all files; all steps, those of a file: walked. -/
namespace Go.Proofs.YtdafiipedlglpaaGreatDoor
open Go.RowKit

def filesL (L : List PatV) : List VidV := ((vertsL L).filter fun x => decide (x.2.1.val = 1)).map (·.1)
set_option maxRecDepth 100000 in
set_option maxHeartbeats 1000000 in
theorem verts1_any (x : VertV) (w : World) : Calls Tryz.prog 128 #[.agg (encX x).toArray] w (RetB w (.bool true)) := by
  have B0 : Hid (Below w.heap.size w (w.alloc (.cells (encX x).toArray 100))) := below_new _ _
  go_enter Tryz.func128, Tryz.ntmps128
  go_wp2
  go_ret
  exact ⟨rfl, B0.out⟩
set_option maxRecDepth 100000 in
set_option maxHeartbeats 1000000 in
theorem edges1_any (x : VidV) (w : World) : Calls Tryz.prog 131 #[.agg (encV x).toArray] w (RetB w (.bool true)) := by
  have B0 : Hid (Below w.heap.size w (w.alloc (.cells (encV x).toArray 98))) := below_new _ _
  go_enter Tryz.func131, Tryz.ntmps131
  go_wp2
  go_ret
  exact ⟨rfl, B0.out⟩
set_option maxRecDepth 100000 in
set_option maxHeartbeats 1000000 in
theorem files1_any (x : VertV) (w : World) : Calls Tryz.prog 129 #[.agg (encX x).toArray] w (RetB w (.bool (decide (x.2.1.val = 1)))) := by
  have B0 : Hid (Below w.heap.size w (w.alloc (.cells (encX x).toArray 100))) := below_new _ _
  have K0 : Hid (Blk (w.alloc (.cells (encX x).toArray 100)) w.heap.size 100 (encX x).toArray) := Blk.new _ _ _
  go_enter Tryz.func129, Tryz.ntmps129
  go_upto_region 1 with fail
  generalize (w.alloc (.cells (encX x).toArray 100)) = w2 at *
  have y : w2.cell? ⟨w.heap.size, 3, none⟩ = some (.int .u8 ((x.2.1.val : Nat) : Int)) := K0.out.cell 3
  by_cases h : x.2.1.val = 1
  · have z : (((x.2.1.val : Nat) : Int) == 1) = true := by rw [beq_iff_eq]; omega
    have E := Lib.hid (decide_eq_true h)
    replace h := Lib.hid h
    go_wp2
    go_ret
    exact ⟨ret_bool E.out.symm, B0.out⟩
  · have z : (((x.2.1.val : Nat) : Int) == 1) = false := by rw [beq_eq_false_iff_ne]; omega
    have E := Lib.hid (decide_eq_false h)
    replace h := Lib.hid h
    go_wp2
    go_ret
    exact ⟨ret_bool E.out.symm, B0.out⟩
section
variable {w : World} {F : Nat → Prop} {g : Nat} {L : List PatV}
set_option maxRecDepth 100000 in
set_option maxHeartbeats 1000000 in
theorem verts20_any (hI : GraphAt w F g L) (hfew : L.length ≤ 400) : Calls Tryz.prog 53 #[.pointer (some ⟨g, 0, none⟩)] w (OwnedRet w 100 9 (vertsL L).length ((vertsL L).flatMap encX)) := by
  have HS := some20_any hI hfew (fun _ => true) 128 (enters_of Tryz.func128 (by kernel_rfl) rfl) #[] fun x wr _ => verts1_any x wr
  have e : (vertsL L).filter (fun _ => true) = vertsL L := List.filter_eq_self.2 fun _ _ => rfl
  rw [e] at HS
  have HS := Lib.hid HS
  clear hI
  go_enter Tryz.func53, Tryz.ntmps53
  go_wp2_with fail
  refine HS.out.mono ?_
  rintro e w2 ⟨v, rfl, o, b⟩
  have O := Lib.hid o
  have B := Lib.hid b
  clear o b HS
  go_wp2
  go_ret
  exact ⟨_, rfl, O.out, B.out⟩
set_option maxRecDepth 100000 in
set_option maxHeartbeats 1000000 in
theorem edges20_any (hI : GraphAt w F g L) (hfew : L.length ≤ 400) : Calls Tryz.prog 57 #[.pointer (some ⟨g, 0, none⟩)] w (OwnedRet w 194 6 (edgesL L).length ((edgesL L).flatMap encE)) := by
  have HS := steps20_any hI hfew (fun _ => true) 131 (enters_of Tryz.func131 (by kernel_rfl) rfl) #[] fun x wr _ => edges1_any x wr
  have e : (edgesL L).filter (fun _ => true) = edgesL L := List.filter_eq_self.2 fun _ _ => rfl
  rw [e] at HS
  have HS := Lib.hid HS
  clear hI
  go_enter Tryz.func57, Tryz.ntmps57
  go_wp2_with fail
  refine HS.out.mono ?_
  rintro e w2 ⟨v, rfl, o, b⟩
  have O := Lib.hid o
  have B := Lib.hid b
  clear o b HS
  go_wp2
  go_ret
  exact ⟨_, rfl, O.out, B.out⟩
theorem own_verts {w : World} {base n c : Nat} {A : Option Addr} {l : List VertV} (h : w.ownsRow base 100 9 (.slice A n c) n (l.flatMap encX)) : Sl w w.heap.size 9 A n (l.flatMap encX) := by
  obtain ⟨A', c', e, _, hs⟩ := Sl.of_own h
  cases e
  exact hs
theorem vertsL_few (hG : GrOk L) (hfew : L.length ≤ 400) : (vertsL L).length ≤ 80000 := by
  have h1 : (vertsL L).length ≤ (idsOf L).length := by unfold vertsL idsL; rw [List.length_map]; exact setK_len _
  have h2 : (idsOf L).length ≤ opsN L := by
    unfold idsOf opsN
    have : ∀ M : List PatV, (M.flatMap idsP).length ≤ (M.map fun p => p.2.2.length).sum := by
      intro M
      induction M with
      | nil => simp
      | cons p M ih =>
        rw [List.flatMap_cons, List.length_append, List.map_cons, List.sum_cons]
        have : (idsP p).length ≤ p.2.2.length := by
          unfold idsP
          refine Nat.le_trans (List.length_filterMap_le _ _) ?_
          rw [List.length_range]
          exact Nat.le_refl _
        omega
    exact this L
  have := hG.opsN
  omega
set_option maxRecDepth 100000 in
set_option maxHeartbeats 2000000 in
theorem files20_any (hI : GraphAt w F g L) (hfew : L.length ≤ 400) : Calls Tryz.prog 56 #[.pointer (some ⟨g, 0, none⟩)] w (OwnedRet w 98 3 (filesL L).length ((filesL L).flatMap encV)) := by
  have HS := some20_any hI hfew (fun x => decide (x.2.1.val = 1)) 129 (enters_of Tryz.func129 (by kernel_rfl) rfl) #[] fun x wr _ => files1_any x wr
  have hl0 := vertsL_few hI.ok hfew
  have E : Hid (filesL L = ((vertsL L).filter fun x => decide (x.2.1.val = 1)).map (·.1)) := rfl
  have hl1 := List.length_filter_le (fun x : VertV => decide (x.2.1.val = 1)) (vertsL L)
  generalize (vertsL L).filter (fun x => decide (x.2.1.val = 1)) = l at *
  have HS := Lib.hid HS
  have hl : l.length ≤ 80000 := by omega
  have hnf : Hid ((filesL L).length = l.length) := by rw [Hid, E.out, List.length_map]
  clear hI hl0 hl1
  generalize filesL L = fl at *
  obtain ⟨n, hn⟩ : ∃ n, n = l.length := ⟨_, rfl⟩
  rw [← hn] at HS hl hnf
  replace hn := Lib.hid hn
  go_enter Tryz.func56, Tryz.ntmps56
  go_wp2_with fail
  refine HS.out.mono ?_
  rintro e w2 ⟨v, rfl, o, b⟩
  obtain ⟨A, c, rfl, _, _⟩ := Sl.of_own o
  have SV := Lib.hid (own_verts o)
  have B2 := Lib.hid b
  have BS := Lib.hid (Below.refl w2.heap.size w2)
  clear o b HS
  go_wp2_with fail
  go_loopw [9, 3] (fun i v wr => ∃ k : Nat, k ≤ n ∧ i = .int .i64 k ∧ Hid (wr.ownsRow w2.heap.size 98 3 v k ((fl.take k).flatMap encV)) ∧ Hid (Below w2.heap.size w2 wr)) (fun i _ _ => n - (intOf i).toNat)
  case atStart => exact ⟨0, by omega, rfl, World.ownsRow_nil _ _ _ _, BS.out⟩
  case round =>
    clear BS
    obtain ⟨k, hk, rfl, O, B⟩ := hrel
    have hk0 : (0 : Int) ≤ (k : Int) := by omega
    have hbs := B.out.size
    by_cases hlt : k < n
    · have hlk : (k : Int) < (n : Int) := by omega
      have hkl : k < l.length := by rw [← hn.out]; exact hlt
      obtain ⟨b, o, rfl, hb, R⟩ := (SV.out.below B.out (Nat.le_refl _)).rowAt hn.out.symm (fun x _ => encX_len x) hkl
      have hx : l[k]? = some l[k] := List.getElem?_eq_getElem hkl
      generalize l[k] = x at *
      have EN : Hid (fl.take (k + 1) = fl.take k ++ [x.1]) := by
        rw [Hid, E.out]
        exact take_snoc' (by rw [List.getElem?_map, hx]; rfl)
      have KZ : Hid (Blk (wr.alloc (.cells zeroX 100)) wr.heap.size 100 zeroX) := Blk.new _ _ _
      have KX : Hid (Blk ((wr.alloc (.cells zeroX 100)).setRow wr.heap.size (encX x).toArray) wr.heap.size 100 (encX x).toArray) := KZ.out.row _
      have BN : Hid (Below wr.heap.size wr ((wr.alloc (.cells zeroX 100)).setRow wr.heap.size (encX x).toArray)) := below_setRow (below_new wr _) (Nat.le_refl _) _
      have O4 := Lib.hid (own_ext O.out BN.out)
      have B4 := Lib.hid (B.out.trans (BN.out.mono B.out.size))
      have R := Lib.hid R
      clear hx O B
      go_upto_region 5 with (first
        | (refine wpList_load_mid rfl 100 _ (by rfl) b (o + k * 9) (by rfl) _ _ R.out underVert rfl infoVert ?_)
        | (refine wpList_alloced (allocVert _) ?_)
        | (refine wpList_store_row rfl 100 _ _ (by rfl) wr.heap.size (encX x).toArray (by rfl) (by rfl) _ _ KZ.out infoVert rfl (encX_all _) ?_))
      generalize ((wr.alloc (.cells zeroX 100)).setRow wr.heap.size (encX x).toArray) = w4 at *
      clear KZ BN R
      generalize wr.heap.size = gx at *
      have RI := Lib.hid (vx_id (blk_pat KX.out))
      have hbs := B4.out.size
      go_wp2_with (first
        | (refine wpList_load_mid rfl 98 _ (by rfl) gx 0 (by rfl) _ _ RI.out underVid rfl infoVid ?_)
        | (refine wpList_lit1 vidSl (encV_len x.1) (by omega) (by rfl) ?_)
        | (at_builtin; refine wpList_push vidSl O4.out (encV x.1) rfl (encV_one x.1) hbs (by omega) (by unfold maxLen; omega) (by rfl) (by rfl) (by rfl) ?_; intro v1 w6 own1 bel1))
      have O6 : Hid (w6.ownsRow w2.heap.size 98 3 v1 (k + 1) ((fl.take (k + 1)).flatMap encV)) := by
        rw [Hid, EN.out, List.flatMap_append]; simpa using own1
      have B6 := Lib.hid (B4.out.trans bel1)
      clear own1 bel1 O4 B4 KX RI EN
      go_roundw
      case rel => exact ⟨k + 1, by omega, by go_num, O6.out, B6.out⟩
      case measure => simp [intOf]; omega
    · have hlk : ¬ (k : Int) < (n : Int) := by omega
      obtain rfl : k = n := by omega
      rw [List.take_of_length_le (by rw [hnf.out]; omega)] at O
      obtain ⟨A9, c9, rfl, _, _⟩ := Sl.of_own O.out
      have BF := Lib.hid (B2.out.trans (B.out.mono B2.out.size))
      go_wp2
      go_ret
      refine ⟨_, rfl, ?_, BF.out⟩
      rw [hnf.out]
      exact own_mono' O.out B2.out.size
end
end Go.Proofs.YtdafiipedlglpaaGreatDoor

/- Two graphs that hold the same are the same: graph.Same, walked for that case. -/
namespace Go.Proofs.YtdafiipedlglpaaGreatDoor
open Go.RowKit

/-- vertices in a slice -/
structure VertsAt (w : World) (A : Option Addr) (n : Nat) (l : List VertV) : Prop where
  len : l.length = n
  sl : Sl w w.heap.size 9 A n (l.flatMap encX)
theorem VertsAt.ext {w w' : World} {A : Option Addr} {n : Nat} {l : List VertV} (h : VertsAt w A n l) (hb : Below w.heap.size w w') : VertsAt w' A n l := ⟨h.len, (h.sl.below hb (Nat.le_refl _)).more hb.size⟩
theorem VertsAt.at_ {w : World} {A : Option Addr} {n : Nat} {l : List VertV} (h : VertsAt w A n l) {k : Nat} (hk : k < n) : ∃ b o x, A = some ⟨b, o, none⟩ ∧ b < w.heap.size ∧ l[k]? = some x ∧ w.rangeAt b (o + k * 9) (encX x) := by
  have hk' : k < l.length := by rw [h.len]; exact hk
  obtain ⟨b, o, e, hb, hr⟩ := h.sl.rowAt h.len (fun x _ => encX_len x) hk'
  exact ⟨b, o, l[k], e, hb, List.getElem?_eq_getElem hk', hr⟩
theorem VertsAt.of_own {w : World} {base n : Nat} {v : Value} {l : List VertV} (h : w.ownsRow base 100 9 v n (l.flatMap encX)) (hn : l.length = n) : ∃ A c, v = .slice A n c ∧ n ≤ c ∧ VertsAt w A n l := by
  obtain ⟨A, c, rfl, hc, hs⟩ := Sl.of_own h
  exact ⟨A, c, rfl, hc, hn, hs⟩
/-- steps in a slice -/
structure EdgesAt (w : World) (A : Option Addr) (n : Nat) (l : List EdgeV) : Prop where
  len : l.length = n
  sl : Sl w w.heap.size 6 A n (l.flatMap encE)
theorem EdgesAt.ext {w w' : World} {A : Option Addr} {n : Nat} {l : List EdgeV} (h : EdgesAt w A n l) (hb : Below w.heap.size w w') : EdgesAt w' A n l := ⟨h.len, (h.sl.below hb (Nat.le_refl _)).more hb.size⟩
theorem EdgesAt.at_ {w : World} {A : Option Addr} {n : Nat} {l : List EdgeV} (h : EdgesAt w A n l) {k : Nat} (hk : k < n) : ∃ b o x, A = some ⟨b, o, none⟩ ∧ b < w.heap.size ∧ l[k]? = some x ∧ w.rangeAt b (o + k * 6) (encE x) := by
  have hk' : k < l.length := by rw [h.len]; exact hk
  obtain ⟨b, o, e, hb, hr⟩ := h.sl.rowAt h.len (fun x _ => encE_len x) hk'
  exact ⟨b, o, l[k], e, hb, List.getElem?_eq_getElem hk', hr⟩
theorem EdgesAt.of_own {w : World} {base n : Nat} {v : Value} {l : List EdgeV} (h : w.ownsRow base 194 6 v n (l.flatMap encE)) (hn : l.length = n) : ∃ A c, v = .slice A n c ∧ n ≤ c ∧ EdgesAt w A n l := by
  obtain ⟨A, c, rfl, hc, hs⟩ := Sl.of_own h
  exact ⟨A, c, rfl, hc, hn, hs⟩
end Go.Proofs.YtdafiipedlglpaaGreatDoor
