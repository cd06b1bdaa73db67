/- Texts of general use, one behind another. -/
import Derived.Test.YtfnhmbflmifhcaaGreatRgf
import Derived.Test.YtfnhmbflmifhcaaGreatRgs
import Derived.Test.YtfnhmbflmifhcaaGreatGrn
import Derived.Test.YtfnhmbflmifhcaaGreatGras

/- The document's graph: a patch that is applied: walked. -/
namespace Go.Proofs.YtfnhmbflmifhcaaGreat
open Go.RowKit

def refL (L : List PatV) (p : PatV) : List PatV := if refK L p = 0 then L ++ [p] else L
theorem refL_eq {L : List PatV} (hG : GrOk L) (p : PatV) : refL L p = grL L p := by unfold refL grL; rw [refK_eq hG]
/-- the graph, and the error's number -/
def RetRA (w : World) (G : Nat → Prop) (L : List PatV) (e0 : Nat) (e : Ending) (w' : World) : Prop :=
  ∃ A c, e = .returned (.tuple #[.agg #[.slice A L.length c], .int .i64 ((e0 : Nat) : Int)]) ∧ PatsIn w' (fun k => G k ∨ w.heap.size ≤ k) A L.length L ∧ Below w.heap.size w w'
theorem patsIn_far {w : World} {G : Nat → Prop} {A : Option Addr} {n ga : Nat} {L : List PatV} (h : PatsIn w (fun k => k ≠ ga ∧ G k) A n L) (x : Array Value) : PatsIn (w.setRow ga x) G A n L :=
  (h.stay ((Kept.row20 (F := fun k => k = ga) (Kept.refl _ _) (.inl rfl) x).stay fun _ _ h e => h.1 e)).mono fun _ h => h.2
set_option maxRecDepth 100000 in
set_option maxHeartbeats 8000000 in
theorem rapply20_any (L : List PatV) (p : PatV) (w : World) (G : Nat → Prop) (hG : ∀ k, G k → k < w.heap.size) (A : Option Addr) (n c : Nat) (h : PatsIn w G A n L) (cs : List Value) (hp : PatIn w G cs p) (hn : n ≤ 10000) :
    Calls Tryz.prog 14 #[.agg #[.slice A n c], .agg cs.toArray] w (RetRA w G (refL L p) (refK L p)) := by
  have H0 := Lib.hid h
  have HPAT := Lib.hid hp
  have hG := Lib.hid hG
  have hln := Lib.hid h.len
  obtain ⟨⟨A1, c1, A2, c2, rfl, _, _, _, _⟩, _, _⟩ := hp
  have KG : Hid (Blk (((w.alloc (.cells #[.slice A n c] 28)).alloc (.cells (patC p.1 A1 p.2.1.length c1 A2 p.2.2.length c2).toArray 37)).alloc (.cells #[.slice none 0 0] 28)) w.heap.size 28 #[.slice A n c]) := ((Blk.new _ _ _).alloc _).alloc _
  have KP : Hid (Blk (((w.alloc (.cells #[.slice A n c] 28)).alloc (.cells (patC p.1 A1 p.2.1.length c1 A2 p.2.2.length c2).toArray 37)).alloc (.cells #[.slice none 0 0] 28)) (w.heap.size + 1) 37 (patC p.1 A1 p.2.1.length c1 A2 p.2.2.length c2).toArray) := (Blk.newAt (by simp) _ _).alloc _
  have KR : Hid (Blk (((w.alloc (.cells #[.slice A n c] 28)).alloc (.cells (patC p.1 A1 p.2.1.length c1 A2 p.2.2.length c2).toArray 37)).alloc (.cells #[.slice none 0 0] 28)) (w.heap.size + 1 + 1) 28 #[.slice none 0 0]) := Blk.newAt (by simp) _ _
  have B0 : Hid (Below w.heap.size w (((w.alloc (.cells #[.slice A n c] 28)).alloc (.cells (patC p.1 A1 p.2.1.length c1 A2 p.2.2.length c2).toArray 37)).alloc (.cells #[.slice none 0 0] 28))) := (((Below.refl _ _).alloc (Nat.le_refl _) _).alloc (by simp) _).alloc (by simp; omega) _
  clear h
  go_enter Tryz.func14, Tryz.ntmps14
  go_upto_region 1 with (refine wpList_alloced (allocG20 _) ?_)
  generalize (((w.alloc (.cells #[.slice A n c] 28)).alloc (.cells (patC p.1 A1 p.2.1.length c1 A2 p.2.2.length c2).toArray 37)).alloc (.cells #[.slice none 0 0] 28)) = w2 at *
  obtain ⟨gr, hgr⟩ : ∃ g, g = w.heap.size + 1 + 1 := ⟨_, rfl⟩
  obtain ⟨g1, hg1⟩ : ∃ g, g = w.heap.size + 1 := ⟨_, rfl⟩
  obtain ⟨gg, hgg⟩ : ∃ g, g = w.heap.size := ⟨_, rfl⟩
  rw [← hgr] at KR ⊢
  rw [← hg1] at KP ⊢
  rw [← hgg] at KG ⊢
  have hrw : Hid (w.heap.size ≤ gr) := by rw [Hid]; omega
  replace hgr := Lib.hid hgr
  replace hg1 := Lib.hid hg1
  replace hgg := Lib.hid hgg
  have HC := Lib.hid (rcheck20_any L p w2 G (fun k e => Nat.lt_of_lt_of_le (hG.out k e) B0.out.size) A n c (H0.out.ext B0.out) _ (HPAT.out.ext B0.out) hn)
  have EL : Hid (refL L p = if refK L p = 0 then L ++ [p] else L) := rfl
  obtain ⟨e0, he⟩ : ∃ e0, e0 = refK L p := ⟨_, rfl⟩
  rw [← he] at HC EL ⊢
  replace he := Lib.hid he
  go_wp2_with (first
    | (refine wpList_load_row rfl 28 _ (by rfl) gg (by rfl) _ _ _ _ KG.out underG20 rfl infoG20 ?_)
    | (refine wpList_load_row rfl 37 _ (by rfl) g1 (by rfl) _ _ _ _ KP.out underPat rfl infoPat ?_))
  refine HC.out.mono ?_
  rintro e w3 ⟨rfl, b3⟩
  have B3 := Lib.hid (B0.out.trans (b3.mono B0.out.size))
  have KG := Lib.hid (KG.out.ext b3)
  have KP := Lib.hid (KP.out.ext b3)
  have KR := Lib.hid (KR.out.ext b3)
  clear b3 HC B0
  by_cases h0 : e0 = 0
  · subst h0
    have z0 : ((((0 : Nat) : Nat) : Int) != 0) = false := rfl
    rw [if_pos rfl] at EL
    have yg : w3.cell? ⟨gg, 0, none⟩ = some (.slice A n c) := KG.out.cell 0
    have H3 := Lib.hid ((H0.out.ext B3.out).mono (G := fun k => k ≠ gr ∧ G k) fun k e => ⟨fun e2 => by have := hG.out k e; have := hrw.out; omega, e⟩)
    have P3 := Lib.hid ((HPAT.out.ext B3.out).mono (G := fun k => k ≠ gr ∧ G k) fun k e => ⟨fun e2 => by have := hG.out k e; have := hrw.out; omega, e⟩)
    obtain ⟨rows, r1, r2⟩ := H3.out.ex
    have R1 := Lib.hid r1
    have R2 := Lib.hid r2
    have hone : Hid (∀ u ∈ rows.flatten, u.oneCell' = true) := by
      intro u hu
      obtain ⟨r, hr, hur⟩ := List.mem_flatten.1 hu
      obtain ⟨j, hj, rfl⟩ := List.getElem_of_mem hr
      have hj' : j < L.length := by rw [← R1.out.1]; exact hj
      exact (R1.out.2 j _ _ (List.getElem?_eq_getElem hj) (List.getElem?_eq_getElem hj')).one u hur
    have ON := Lib.hid (World.ownsRow_nil w3 w3.heap.size 37 4)
    have hr3 : Hid (gr < w3.heap.size) := KR.out.lt
    clear r1 r2
    go_upto_region 6 with (at_builtin; refine wpList_cat patSl ON.out R2.out hone.out (Nat.le_refl _) (by omega) (by unfold maxLen; omega) (by rfl) (by rfl) ?_; intro v7 w7 own7 bel7)
    have OW := Lib.hid own7
    have B7 := Lib.hid (B3.out.trans (bel7.mono B3.out.size))
    have KP7 := Lib.hid (KP.out.below bel7 KP.out.lt)
    have KR7 := Lib.hid (KR.out.below bel7 KR.out.lt)
    have P7 := Lib.hid (P3.out.ext bel7)
    have RI7 := Lib.hid (R1.out.stay (Stay.of_below bel7))
    have h7 := Lib.hid bel7.size
    have hw3 : Hid (w.heap.size ≤ w3.heap.size) := B3.out.size
    clear own7 bel7 ON R2 R1 yg KP KR KG H3 P3
    simp only [Nat.zero_add, List.nil_append] at OW
    go_upto_region 7 with (first
      | (refine wpList_load_row rfl 37 _ (by rfl) g1 (by rfl) _ _ _ _ KP7.out underPat rfl infoPat ?_)
      | (refine wpList_lit1 patSl P7.out.len4 (by omega) (by rfl) ?_)
      | (at_builtin; refine wpList_pushF patSl OW.out (patC p.1 A1 p.2.1.length c1 A2 p.2.2.length c2) P7.out.len4 P7.out.one h7.out (by omega) (by unfold maxLen; omega) (by rfl) (by rfl) (by rfl) ?_; intro v8 w8 own8 kep8 new8))
    obtain ⟨A5, c5, rfl, hc5, hs5⟩ := Sl.of_own own8
    have hno : Hid (∀ k, (Value.slice A5 (n + 1) c5).ownBlock = some k → k ≠ gr ∧ w.heap.size ≤ k) := fun k e => by
      have := (own8.lt k e).1
      have := hr3.out
      have := hw3.out
      exact ⟨by omega, by omega⟩
    have KR8 := Lib.hid (kep8.blk KR7.out (blk_not_own KR7.out (by decide) OW.out))
    have st : Stay (fun k => k ≠ gr ∧ G k) w7 w8 := kep8.stay fun k _ hd e => by have := hG.out k hd.2; have := (OW.out.lt k e).1; have := hw3.out; omega
    have X : Hid (PatsIn w8 (fun k => k ≠ gr ∧ (G k ∨ w.heap.size ≤ k)) A5 (n + 1) (L ++ [p])) :=
      ⟨by simp [hln.out], fun _ b o e => ⟨(hno.out b (by rw [e]; rfl)).1, .inr (hno.out b (by rw [e]; rfl)).2⟩, rows ++ [(patC p.1 A1 p.2.1.length c1 A2 p.2.2.length c2)], ((RI7.out.snoc P7.out).stay st).mono fun k e => ⟨e.1, .inl e.2⟩, by rw [List.flatten_append]; simpa using hs5⟩
    have B8 := Lib.hid (B7.out.trans (kep8.below (fun k e => Nat.le_trans hw3.out (OW.out.lt k e).1) B7.out.size))
    have hl1 : (L ++ [p]).length = n + 1 := by simp [hln.out]
    have hl1 := Lib.hid hl1
    clear own8 kep8 new8 hs5 st hno KR7 P7 RI7 OW KP7 B7 hone
    go_wp2_with (first
      | (refine wpList_built (buildG20 _ _ _ _) (by rfl) ?_)
      | (refine wpList_store_row rfl 28 _ _ (by rfl) gr #[.slice A5 (n + 1) c5] (by rfl) (by rfl) _ _ KR8.out infoG20 rfl (by simp [Value.oneCell']) ?_))
    refine bodyPost_ret (results_row_tmp rfl _ _ gr _ #[.slice A5 (n + 1) c5] _ rfl (KR8.out.row _) underG20 rfl infoG20) rfl ?_
    rw [EL.out, RetRA, hl1.out, ← he.out]
    exact ⟨A5, c5, rfl, patsIn_far X.out _, below_setRow B8.out hrw.out _⟩
  · have z0 : (((e0 : Nat) : Int) != 0) = true := by rw [bne_iff_ne]; omega
    rw [if_neg h0] at EL
    replace h0 := Lib.hid h0
    go_wp2_with (first
      | (refine wpList_load_row rfl 28 _ (by rfl) gg (by rfl) _ _ _ _ KG.out underG20 rfl infoG20 ?_)
      | (refine wpList_store_row rfl 28 _ _ (by rfl) gr #[.slice A n c] (by rfl) (by rfl) _ _ KR.out infoG20 rfl (by simp [Value.oneCell']) ?_))
    refine bodyPost_ret (results_row_tmp rfl _ _ gr _ #[.slice A n c] _ rfl (KR.out.row _) underG20 rfl infoG20) rfl ?_
    have H3 := (H0.out.ext B3.out).mono (G := fun k => k ≠ gr ∧ (G k ∨ w.heap.size ≤ k)) fun k e => ⟨fun e2 => by have := hG.out k e; have := hrw.out; omega, .inl e⟩
    rw [EL.out, RetRA, hln.out, ← he.out]
    exact ⟨A, c, rfl, patsIn_far H3 _, below_setRow B3.out hrw.out _⟩
end Go.Proofs.YtfnhmbflmifhcaaGreat

/- Whatever patches come, each error, and all that is there, is what the document says: the statement walked. -/
namespace Go.Proofs.YtfnhmbflmifhcaaGreat
open Go.RowKit

/-- what lies somewhere lies there among the blocks that there are -/
theorem PatIn.both20 {w : World} {G : Nat → Prop} {r : List Value} {p : PatV} (h : PatIn w G r p) : PatIn w (fun q => G q ∧ q < w.heap.size) r p := by
  obtain ⟨⟨A, c, A', c', e, h1, h2, i1, i2⟩, h3, h4⟩ := h
  refine ⟨⟨A, c, A', c', e, h1, h2, fun hn b o ea => ⟨i1 hn b o ea, ?_⟩, fun hn b o ea => ⟨i2 hn b o ea, ?_⟩⟩, h3, h4⟩
  · obtain ⟨b', o', e', hb, _⟩ := h1.sl.2 hn
    rw [ea] at e'; injection e' with e'; injection e' with e1 _; rw [e1]; exact hb
  · obtain ⟨b', o', e', hb, _⟩ := h2.sl.2 hn
    rw [ea] at e'; injection e' with e'; injection e' with e1 _; rw [e1]; exact hb
theorem PatsIn.both20 {w : World} {G : Nat → Prop} {A : Option Addr} {n : Nat} {l : List PatV} (h : PatsIn w G A n l) : PatsIn w (fun q => G q ∧ q < w.heap.size) A n l := by
  obtain ⟨rows, h1, h2⟩ := h.ex
  refine ⟨h.len, fun hn b o ea => ⟨h.inb hn b o ea, ?_⟩, rows, ⟨h1.1, fun k r p e1 e2 => (h1.2 k r p e1 e2).both20⟩, h2⟩
  obtain ⟨b', o', e', hb, _⟩ := h2.2 hn
  rw [ea] at e'; injection e' with e'; injection e' with e1 _; rw [e1]; exact hb
theorem buildG0 (w : World) : (Instr.build 28 #[]).run Tryz.prog w = .ok (.agg #[.slice none 0 0]) w := by kernel_rfl
theorem fews12 {l : List PatV} {m : Int} (h : fewsB l m = true) : (l.length : Int) ≤ m := by
  unfold fewsB at h
  rw [Bool.and_eq_true, decide_eq_true_eq] at h
  exact h.1
theorem runG_take_len (l : List PatV) (k : Nat) : (runG [] (l.take k)).length ≤ l.length := by
  have h1 := rounds_len (l.take k) 1
  have e : rounds (l.take k) 1 = runG [] (l.take k) := rfl
  rw [e, List.length_take] at h1
  omega
theorem pats_nil (w : World) (G : Nat → Prop) : PatsIn w G none 0 [] := ⟨rfl, fun h => absurd h (Nat.lt_irrefl 0), [], RowsIn.nil w G, by simp [Sl]⟩
set_option maxRecDepth 100000 in
set_option maxHeartbeats 8000000 in
theorem graphPlays_walk (w : World) (l : List PatV) (A : Option Addr) (n c : Nat) (hm : n ≤ maxLen) (h : PatsAt w A n l) :
    Calls Tryz.prog 3 #[.slice A n c] w (RetB w (.bool true)) := by
  have H0 := Lib.hid h
  clear h
  go_enter Tryz.func3, Tryz.ntmps3
  have HF := Lib.hid (few20_any l w A n c 12 H0.out hm)
  cases hf : fewsB l 12
  · rw [fewsN_false hf] at HF
    go_wp2_with fail
    refine HF.out.mono ?_
    rintro e w3 ⟨rfl, b3⟩
    have B3 := Lib.hid b3
    clear b3 HF
    go_wp2_with fail
    refine (works20 _).mono ?_
    rintro e w4 ⟨rfl, b4⟩
    have B4 := Lib.hid (B3.out.trans (b4.mono B3.out.size))
    clear b4
    go_wp2
    go_ret
    exact ⟨rfl, B4.out⟩
  · rw [fewsN_true hf] at HF
    have hn12 : n ≤ 12 := by have h1 := fews12 hf; have h2 := H0.out.len; omega
    have hln := Lib.hid H0.out.len
    go_wp2_with fail
    refine HF.out.mono ?_
    rintro e w3 ⟨rfl, b3⟩
    have B3 := Lib.hid b3
    clear b3 HF hf hm
    go_wp2_with fail
    refine (new20_any w3).mono ?_
    rintro e w4 ⟨F, g, rfl, hG, hFw, b4⟩
    have HG := Lib.hid hG
    have hFw : Hid (∀ q, F q → w.heap.size ≤ q) := fun q e => Nat.le_trans B3.out.size (hFw q e)
    have B4 := Lib.hid (B3.out.trans (b4.mono B3.out.size))
    clear hG b4 B3
    have KX0 : Hid (Blk ((w4.alloc (.cells #[.slice none 0 0] 28)).setRow w4.heap.size #[.slice none 0 0]) w4.heap.size 28 #[.slice none 0 0]) := (Blk.new _ _ _).row _
    have BN : Hid (Below w4.heap.size w4 ((w4.alloc (.cells #[.slice none 0 0] 28)).setRow w4.heap.size #[.slice none 0 0])) := below_setRow (below_new w4 _) (Nat.le_refl _) _
    go_upto_region 4 with (first
      | (refine wpList_built (buildG0 _) (by rfl) ?_)
      | (refine wpList_alloced (allocG20 _) ?_)
      | (refine wpList_store_row rfl 28 _ _ (by rfl) w4.heap.size #[.slice none 0 0] (by rfl) (by rfl) _ _ (Blk.new _ _ _) infoG20 rfl (by simp [Value.oneCell']) ?_))
    have hgF : Hid (¬ F w4.heap.size) := fun e => Nat.lt_irrefl _ (HG.out.mem.lt _ e)
    have hgw : Hid (w.heap.size ≤ w4.heap.size) := B4.out.size
    have HG := Lib.hid (HG.out.ext BN.out)
    have B4 := Lib.hid (B4.out.trans (BN.out.mono B4.out.size))
    clear BN
    generalize ((w4.alloc (.cells #[.slice none 0 0] 28)).setRow w4.heap.size #[.slice none 0 0]) = w5 at *
    generalize w4.heap.size = gx at *
    have hcA : ∀ args u, (callFunc 14 args).run Tryz.prog u = .ok (.enter 14 args) u := enters_of Tryz.func14 (by kernel_rfl) rfl
    go_wp2_with fail
    go_loopw [5] (fun i wr => ∃ (k : Nat) (Ax : Option Addr) (cx : Nat) (L : List PatV), k ≤ n ∧ i = .int .i64 k ∧ Hid (L = runG [] (l.take k)) ∧ Hid (GraphAt wr F g L) ∧ Hid (Blk wr gx 28 #[.slice Ax L.length cx]) ∧ Hid (PatsIn wr (fun q => ¬ F q ∧ q ≠ gx) Ax L.length L) ∧ Hid (Below w.heap.size w wr)) (fun i _ => n - (intOf i).toNat)
    case atStart => exact ⟨0, none, 0, [], by omega, rfl, rfl, HG.out, KX0.out, pats_nil _ _, B4.out⟩
    case round =>
      clear HG KX0 B4
      obtain ⟨k, Ax, cx, L, hk, rfl, hL, HG, KX, PX, B⟩ := hrel
      obtain ⟨wi, rfl⟩ : ∃ wx, wx = wr := ⟨_, rfl⟩
      have hk0 : (0 : Int) ≤ (k : Int) := by omega
      have hLn : Hid (L.length ≤ 12) := by have := runG_take_len l k; rw [← hL.out, hln.out] at this; rw [Hid]; omega
      by_cases hlt : k < n
      · have hlk : (k : Int) < (n : Int) := by omega
        obtain ⟨b, o, p, r, rfl, hb, hp, pa, R⟩ := H0.out.at_ hlt
        have PA0 := Lib.hid pa
        obtain ⟨⟨A1, c1, A2, c2, rfl, _, _⟩, _, _⟩ := pa
        have RP := Lib.hid (rangeAt_below R B.out hb)
        have hbl : Hid (b < wi.heap.size) := Nat.lt_of_lt_of_le hb B.out.size
        have NL : Hid (grL L p = runG [] (l.take (k + 1))) := by rw [Hid, runG_snoc [] hp, ← hL.out]
        have HN : Hid (∀ q, wi.heap.size ≤ q → ¬ F q ∧ q ≠ gx) := fun q e => ⟨fun e2 => by have := HG.out.mem.lt q e2; omega, fun e2 => by have := KX.out.lt; omega⟩
        have PIN : Hid (PatIn wi (fun q => (¬ F q ∧ q ≠ gx) ∧ q < wi.heap.size) (patC p.1 A1 p.2.1.length c1 A2 p.2.2.length c2) p) := (PA0.out.in_.ext B.out).mono fun q e => ⟨⟨fun e2 => by have := hFw.out q e2; omega, fun e2 => by have := hgw.out; omega⟩, Nat.lt_of_lt_of_le e B.out.size⟩
        have PXB := Lib.hid PX.out.both20
        have ELq := Lib.hid (refL_eq HG.out.ok p)
        have EKq := Lib.hid (refK_eq HG.out.ok p)
        have HA := Lib.hid (fun (u : World) (hu : Below wi.heap.size wi u) => rapply20_any L p u (fun q => (¬ F q ∧ q ≠ gx) ∧ q < wi.heap.size) (fun q e => Nat.lt_of_lt_of_le e.2 hu.size) Ax L.length cx (PXB.out.ext hu) _ (PIN.out.ext hu) (by have := hLn.out; omega))
        have HIX : Hid (∀ u : World, (Instr.indexAt 22 (.slice (some ⟨b, o, none⟩) n c) (.int .i64 ((k : Nat) : Int))).run Tryz.prog u = .ok (.pointer (some ⟨b, o + k * 4, none⟩)) u) := fun u => indexPats20r b o n c k hlt u
        clear R hb hp PX
        go_upto_region 7 with fail
        go_cut [6, 7] (fun pv ev wx => ∃ gy Ay cy, pv = .pointer (some ⟨gy, 0, none⟩) ∧ ev = .int .i64 ((grE L p : Nat) : Int) ∧ Blk wx gy 28 #[.slice Ay (grL L p).length cy] ∧ PatsIn wx (fun q => ¬ F q ∧ q ≠ gx) Ay (grL L p).length (grL L p) ∧ wi.heap.size ≤ gy ∧ Below wi.heap.size wi wx)
        case first =>
          refine wp_region_held (S := fun w' => Below wi.heap.size wi w') mixedS ?_
          change wpAnyH _ _ _ _ _ _ _ _ wi.drew
          have B5 : Hid (Below wi.heap.size wi wi.drew) := (Below.refl _ _).drew
          generalize wi.drew = w5 at B5 ⊢
          simp only [List.size_toArray, List.length_cons, List.length_nil]
          refine takeV (i := 0) (d := 21) (v := .agg #[.slice Ax L.length cx]) rfl (by kernel_rfl) (by kernel_rfl) (by kernel_rfl) (fun _ _ _ h => h) rfl (fun w' h => exMid rfl (blk_pat (cs := [.slice Ax L.length cx]) (KX.out.ext h)) underG20 rfl infoG20) B5.out ?_
          simp only [Act.put, List.setIfInBounds_toArray, List.set_cons_zero, List.set_cons_succ]
          refine takeV (i := 1) (d := 22) (v := .slice (some ⟨b, o, none⟩) n c) rfl (by kernel_rfl) (by kernel_rfl) (by kernel_rfl) (fun _ _ _ h => h) rfl (fun _ _ => exMove (v := .slice (some ⟨b, o, none⟩) n c) rfl) B5.out ?_
          simp only [Act.put, List.setIfInBounds_toArray, List.set_cons_zero, List.set_cons_succ]
          refine takeV (i := 2) (d := 23) (v := .int .i64 ((k : Nat) : Int)) rfl (by kernel_rfl) (by kernel_rfl) (by kernel_rfl) (fun _ _ _ h => h) rfl (fun _ _ => exMove (v := .int .i64 ((k : Nat) : Int)) rfl) B5.out ?_
          simp only [Act.put, List.setIfInBounds_toArray, List.set_cons_zero, List.set_cons_succ]
          refine takeV (i := 3) (d := 24) (v := .pointer (some ⟨b, o + k * 4, none⟩)) rfl (by kernel_rfl) (by kernel_rfl) (by kernel_rfl) (fun _ _ _ h => h) rfl (fun w' _ => exIndex rfl rfl (HIX.out w')) B5.out ?_
          simp only [Act.put, List.setIfInBounds_toArray, List.set_cons_zero, List.set_cons_succ]
          refine takeV (i := 4) (d := 25) (v := .agg (patC p.1 A1 p.2.1.length c1 A2 p.2.2.length c2).toArray) rfl (by kernel_rfl) (by kernel_rfl) (by kernel_rfl) (fun _ _ _ h => h) rfl (fun w' h => exMid rfl (rangeAt_below RP.out h hbl.out) underPat rfl infoPat) B5.out ?_
          simp only [Act.put, List.setIfInBounds_toArray, List.set_cons_zero, List.set_cons_succ]
          refine wpAnyH_all (rs := [5, 9]) (by kernel_rfl) (by simp) ?_
          intro i hi
          simp only [List.mem_cons, List.not_mem_nil, or_false] at hi
          rcases hi with rfl | rfl
          · refine wpOp_of rfl rfl (wp_called (args := #[.agg #[.slice Ax L.length cx], .agg (patC p.1 A1 p.2.1.length c1 A2 p.2.2.length c2).toArray]) hcA (by simp only [List.map_toArray, List.map_cons, List.map_nil]; rfl) (HA.out w5 B5.out) ?_)
            rintro e w_1 ⟨A_2, c_3, rfl, p_5, h_4⟩
            rw [ELq.out] at p_5 ⊢
            rw [EKq.out]
            have X_6 : Hid (PatsIn w_1 (fun q => ¬ F q ∧ q ≠ gx) A_2 (grL L p).length (grL L p)) := p_5.mono fun q e => e.elim (fun e => e.1) (fun e => HN.out q (Nat.le_trans B5.out.size e))
            refine ⟨_, rfl, ext_trans B5.out h_4, ?_⟩
            simp only [Act.put, List.setIfInBounds_toArray, List.set_cons_zero, List.set_cons_succ]
            have B_7 := Lib.hid (ext_trans B5.out h_4)
            clear B5
            clear h_4 p_5
            refine takeV (i := 6) (d := 20) (v := .tuple #[.agg #[.slice A_2 (grL L p).length c_3], .int .i64 ((grE L p : Nat) : Int)]) rfl (by kernel_rfl) (by kernel_rfl) (by kernel_rfl) (fun _ _ _ h => h) rfl (fun _ _ => exMove (v := .tuple #[.agg #[.slice A_2 (grL L p).length c_3], .int .i64 ((grE L p : Nat) : Int)]) rfl) B_7.out ?_
            simp only [Act.put, List.setIfInBounds_toArray, List.set_cons_zero, List.set_cons_succ]
            refine takeV (i := 7) (d := 27) (v := .agg #[.slice A_2 (grL L p).length c_3]) rfl (by kernel_rfl) (by kernel_rfl) (by kernel_rfl) (fun _ _ _ h => h) rfl (fun _ _ => exExtract (v := .agg #[.slice A_2 (grL L p).length c_3]) rfl rfl) B_7.out ?_
            simp only [Act.put, List.setIfInBounds_toArray, List.set_cons_zero, List.set_cons_succ]
            refine takeV (i := 8) (d := 28) (v := .int .i64 ((grE L p : Nat) : Int)) rfl (by kernel_rfl) (by kernel_rfl) (by kernel_rfl) (fun _ _ _ h => h) rfl (fun _ _ => exExtract (v := .int .i64 ((grE L p : Nat) : Int)) rfl rfl) B_7.out ?_
            simp only [Act.put, List.setIfInBounds_toArray, List.set_cons_zero, List.set_cons_succ]
            refine wpAnyH_all (rs := [9]) (by kernel_rfl) (by simp) ?_
            intro i hi
            simp only [List.mem_cons, List.not_mem_nil, or_false] at hi
            subst hi
            have Y_8 : Hid (PatsIn w_1 (fun q => q ≠ w_1.heap.size ∧ (¬ F q ∧ q ≠ gx)) A_2 (grL L p).length (grL L p)) := X_6.out.both20.mono fun q e => ⟨Nat.ne_of_lt e.2, e.1⟩
            clear X_6
            refine wpOp_of rfl rfl (wp_alloced (allocG20 _) ?_)
            refine ⟨ext_trans B_7.out (below_new _ _), ?_⟩
            simp only [Act.put, List.setIfInBounds_toArray, List.set_cons_zero, List.set_cons_succ]
            have K_9 : Hid (Blk (w_1.alloc (.cells #[.slice none 0 0] 28)) w_1.heap.size 28 #[.slice none 0 0]) := Blk.new _ _ _
            have h_10 : Below w_1.heap.size w_1 (w_1.alloc (.cells #[.slice none 0 0] 28)) := below_new _ _
            have gz_12 : Hid (wi.heap.size ≤ w_1.heap.size) := B_7.out.size
            generalize (w_1.alloc (.cells #[.slice none 0 0] 28)) = w_11 at *
            have B_14 := Lib.hid (ext_trans B_7.out h_10)
            have F_15 := Lib.hid (Y_8.out.ext h_10)
            clear B_7 Y_8
            clear h_10
            generalize w_1.heap.size = g_13 at *
            refine wpAnyH_all (rs := [10]) (by kernel_rfl) (by simp) ?_
            intro i hi
            simp only [List.mem_cons, List.not_mem_nil, or_false] at hi
            subst hi
            have K_16 := Lib.hid (K_9.out.row #[.slice A_2 (grL L p).length c_3])
            have X_17 : Hid (PatsIn (w_11.setRow g_13 #[.slice A_2 (grL L p).length c_3]) (fun q => ¬ F q ∧ q ≠ gx) A_2 (grL L p).length (grL L p)) := patsIn_far F_15.out _
            have B_18 := Lib.hid (below_setRow B_14.out gz_12.out #[.slice A_2 (grL L p).length c_3])
            refine wpOp_of rfl rfl (wp_stored (cs := #[.slice A_2 (grL L p).length c_3]) rfl rfl K_9.out infoG20 rfl (by simp [Value.oneCell']) ?_)
            refine ⟨B_18.out, ?_⟩
            clear B_14 F_15 K_9
            refine takeV (i := 11) (d := 7) (v := .int .i64 ((grE L p : Nat) : Int)) rfl (by kernel_rfl) (by kernel_rfl) (by kernel_rfl) (fun _ _ _ h => h) rfl (fun _ _ => exAssign (v := .int .i64 ((grE L p : Nat) : Int)) rfl) B_18.out ?_
            simp only [Act.put, List.setIfInBounds_toArray, List.set_cons_zero, List.set_cons_succ]
            refine wpAnyH_done (by kernel_rfl) ?_ _
            go_wp2_with fail
            go_meet
            case rel => exact ⟨_, _, _, rfl, rfl, K_16.out, X_17.out, gz_12.out, B_18.out⟩
          · refine wpOp_of rfl rfl (wp_alloced (allocG20 _) ?_)
            refine ⟨ext_trans B5.out (below_new _ _), ?_⟩
            simp only [Act.put, List.setIfInBounds_toArray, List.set_cons_zero, List.set_cons_succ]
            have K_19 : Hid (Blk (w5.alloc (.cells #[.slice none 0 0] 28)) w5.heap.size 28 #[.slice none 0 0]) := Blk.new _ _ _
            have h_20 : Below w5.heap.size w5 (w5.alloc (.cells #[.slice none 0 0] 28)) := below_new _ _
            have gz_22 : Hid (wi.heap.size ≤ w5.heap.size) := B5.out.size
            generalize (w5.alloc (.cells #[.slice none 0 0] 28)) = w_21 at *
            have B_24 := Lib.hid (ext_trans B5.out h_20)
            clear B5
            clear h_20
            generalize w5.heap.size = g_23 at *
            refine wpAnyH_all (rs := [5]) (by kernel_rfl) (by simp) ?_
            intro i hi
            simp only [List.mem_cons, List.not_mem_nil, or_false] at hi
            subst hi
            refine wpOp_of rfl rfl (wp_called (args := #[.agg #[.slice Ax L.length cx], .agg (patC p.1 A1 p.2.1.length c1 A2 p.2.2.length c2).toArray]) hcA (by simp only [List.map_toArray, List.map_cons, List.map_nil]; rfl) (HA.out w_21 B_24.out) ?_)
            rintro e w_25 ⟨A_26, c_27, rfl, p_29, h_28⟩
            rw [ELq.out] at p_29 ⊢
            rw [EKq.out]
            have X_30 : Hid (PatsIn w_25 (fun q => q ≠ g_23 ∧ (¬ F q ∧ q ≠ gx)) A_26 (grL L p).length (grL L p)) := p_29.mono fun q e => e.elim (fun e => ⟨fun e2 => by have := gz_22.out; have := e.2; omega, e.1⟩) (fun e => ⟨fun e2 => by have := K_19.out.lt; omega, HN.out q (Nat.le_trans B_24.out.size e)⟩)
            refine ⟨_, rfl, ext_trans B_24.out h_28, ?_⟩
            simp only [Act.put, List.setIfInBounds_toArray, List.set_cons_zero, List.set_cons_succ]
            have B_31 := Lib.hid (ext_trans B_24.out h_28)
            have F_32 := Lib.hid (K_19.out.ext h_28)
            clear B_24 K_19
            clear h_28 p_29
            refine takeV (i := 6) (d := 20) (v := .tuple #[.agg #[.slice A_26 (grL L p).length c_27], .int .i64 ((grE L p : Nat) : Int)]) rfl (by kernel_rfl) (by kernel_rfl) (by kernel_rfl) (fun _ _ _ h => h) rfl (fun _ _ => exMove (v := .tuple #[.agg #[.slice A_26 (grL L p).length c_27], .int .i64 ((grE L p : Nat) : Int)]) rfl) B_31.out ?_
            simp only [Act.put, List.setIfInBounds_toArray, List.set_cons_zero, List.set_cons_succ]
            refine takeV (i := 7) (d := 27) (v := .agg #[.slice A_26 (grL L p).length c_27]) rfl (by kernel_rfl) (by kernel_rfl) (by kernel_rfl) (fun _ _ _ h => h) rfl (fun _ _ => exExtract (v := .agg #[.slice A_26 (grL L p).length c_27]) rfl rfl) B_31.out ?_
            simp only [Act.put, List.setIfInBounds_toArray, List.set_cons_zero, List.set_cons_succ]
            refine takeV (i := 8) (d := 28) (v := .int .i64 ((grE L p : Nat) : Int)) rfl (by kernel_rfl) (by kernel_rfl) (by kernel_rfl) (fun _ _ _ h => h) rfl (fun _ _ => exExtract (v := .int .i64 ((grE L p : Nat) : Int)) rfl rfl) B_31.out ?_
            simp only [Act.put, List.setIfInBounds_toArray, List.set_cons_zero, List.set_cons_succ]
            refine wpAnyH_all (rs := [10]) (by kernel_rfl) (by simp) ?_
            intro i hi
            simp only [List.mem_cons, List.not_mem_nil, or_false] at hi
            subst hi
            have K_33 := Lib.hid (F_32.out.row #[.slice A_26 (grL L p).length c_27])
            have X_34 : Hid (PatsIn (w_25.setRow g_23 #[.slice A_26 (grL L p).length c_27]) (fun q => ¬ F q ∧ q ≠ gx) A_26 (grL L p).length (grL L p)) := patsIn_far X_30.out _
            have B_35 := Lib.hid (below_setRow B_31.out gz_22.out #[.slice A_26 (grL L p).length c_27])
            refine wpOp_of rfl rfl (wp_stored (cs := #[.slice A_26 (grL L p).length c_27]) rfl rfl F_32.out infoG20 rfl (by simp [Value.oneCell']) ?_)
            refine ⟨B_35.out, ?_⟩
            clear B_31 F_32 X_30
            refine takeV (i := 11) (d := 7) (v := .int .i64 ((grE L p : Nat) : Int)) rfl (by kernel_rfl) (by kernel_rfl) (by kernel_rfl) (fun _ _ _ h => h) rfl (fun _ _ => exAssign (v := .int .i64 ((grE L p : Nat) : Int)) rfl) B_35.out ?_
            simp only [Act.put, List.setIfInBounds_toArray, List.set_cons_zero, List.set_cons_succ]
            refine wpAnyH_done (by kernel_rfl) ?_ _
            go_wp2_with fail
            go_meet
            case rel => exact ⟨_, _, _, rfl, rfl, K_33.out, X_34.out, gz_22.out, B_35.out⟩
        case rest =>
          obtain ⟨gy, Ay, cy, rfl, rfl, ky, px, hgy, bx⟩ := hcut
          obtain ⟨wx, rfl⟩ : ∃ wx, wx = wc := ⟨_, rfl⟩
          have KY := Lib.hid ky
          have PX := Lib.hid px
          have HGx := Lib.hid (HG.out.ext bx)
          have KXx := Lib.hid (KX.out.ext bx)
          have BX := Lib.hid (B.out.trans (bx.mono B.out.size))
          have PA := Lib.hid (PA0.out.ext BX.out)
          have RPx := Lib.hid (rangeAt_below RP.out bx hbl.out)
          have hbx : Hid (b < wx.heap.size) := Nat.lt_of_lt_of_le hbl.out bx.size
          have hyF := Lib.hid (HN.out gy hgy)
          have PNF : Hid (PatIn wx (fun q => ¬ F q) (patC p.1 A1 p.2.1.length c1 A2 p.2.2.length c2) p) := (PIN.out.ext bx).mono fun q e => e.1.1
          have HC := Lib.hid (check20_any HGx.out p _ PA.out)
          clear ky px hgy bx HG KX B RP hbl HN PIN PXB HA HIX ELq EKq
          obtain ⟨e0, he⟩ : ∃ e0, e0 = grE L p := ⟨_, rfl⟩
          have HAp := Lib.hid (fun (u : World) (hu : Below wx.heap.size wx u) => apply20_any (HGx.out.ext hu) p _ (PNF.out.ext hu) (fun q e => e))
          unfold ApplyRet at HAp
          rw [← he] at HC HAp ⊢
          have ze : (((e0 : Nat) : Int) != ((e0 : Nat) : Int)) = false := by simp
          replace he := Lib.hid he
          go_wp2_with (refine wpList_load_mid rfl 37 _ (by rfl) b (o + k * 4) (by rfl) _ _ RPx.out underPat rfl infoPat ?_)
          refine HC.out.mono ?_
          rintro e w7 ⟨rfl, b7⟩
          have RP7 := Lib.hid (rangeAt_below RPx.out b7 hbx.out)
          have KY7 := Lib.hid (KY.out.ext b7)
          have KX7 := Lib.hid (KXx.out.ext b7)
          have B7 := Lib.hid (BX.out.trans (b7.mono BX.out.size))
          have PX7 := Lib.hid (PX.out.ext b7)
          have HA7 := Lib.hid (HAp.out w7 b7)
          clear HC HAp b7 RPx KY KXx BX PX HGx PA PNF
          go_wp2_with (refine wpList_load_midG (by kernel_rfl) 37 _ (by rfl) b (o + k * 4) (by rfl) _ _ RP7.out underPat rfl infoPat ?_)
          refine HA7.out.mono ?_
          rintro e w8 ⟨rfl, k8, hG8⟩
          have KY8 := Lib.hid (k8.blk KY7.out hyF.out.1)
          have KX8 := Lib.hid (k8.blk KX7.out hgF.out)
          have B8 := Lib.hid (B7.out.trans (k8.below hFw.out B7.out.size))
          have P8 : Hid (PatsIn w8 (fun q => q ≠ gx ∧ (¬ F q ∧ q ≠ gx)) Ay (grL L p).length (grL L p)) := (PX7.out.stay (k8.stay fun q _ h e => h.1 e)).mono fun q e => ⟨e.2, e⟩
          have G8 := Lib.hid hG8
          clear HA7 k8 hG8 RP7 KY7 KX7 B7 PX7
          go_wp2_with (first
            | (refine wpList_load_row rfl 28 _ (by rfl) gy (by rfl) _ _ _ _ KY8.out underG20 rfl infoG20 ?_)
            | (refine wpList_store_row rfl 28 _ _ (by rfl) gx #[.slice Ay (grL L p).length cy] (by rfl) (by rfl) _ _ KX8.out infoG20 rfl (by simp [Value.oneCell']) ?_))
          go_roundw
          case rel => exact ⟨k + 1, Ay, cy, grL L p, by omega, by go_num, NL.out, G8.out.stay ((Kept.row20 (F := fun q => q = gx) (Kept.refl _ _) (.inl rfl) _).stay fun q _ hF e => hgF.out (by have e : q = gx := e; rw [← e]; exact hF)), KX8.out.row _, patsIn_far P8.out _, below_setRow B8.out hgw.out _⟩
          case measure => simp [intOf]; omega
      · have hlk : ¬ (k : Int) < (n : Int) := by omega
        rw [List.take_of_length_le (by rw [hln.out]; omega)] at hL
        have HS := Lib.hid (lsame20_any HG.out (by have := hLn.out; omega) Ax cx PX.out.at_)
        go_wp2_with (refine wpList_load_row rfl 28 _ (by rfl) gx (by rfl) _ _ _ _ KX.out underG20 rfl infoG20 ?_)
        refine HS.out.mono ?_
        rintro e w8 ⟨rfl, b8⟩
        have B8 := Lib.hid (B.out.trans (b8.mono B.out.size))
        clear b8 HS
        go_wp2_with fail
        refine (works20 _).mono ?_
        rintro e w9 ⟨rfl, b9⟩
        have B9 := Lib.hid (B8.out.trans (b9.mono B8.out.size))
        clear b9
        go_wp2_with fail
        go_ret
        exact ⟨rfl, B9.out⟩
end Go.Proofs.YtfnhmbflmifhcaaGreat
