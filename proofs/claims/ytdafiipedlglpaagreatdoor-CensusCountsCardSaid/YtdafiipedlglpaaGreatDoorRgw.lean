/- Texts of general use, one behind another. -/
import Derived.Test.YtdafiipedlglpaaGreatDoorRgf
import Derived.Test.YtdafiipedlglpaaGreatDoorRgs
import Derived.Test.YtdafiipedlglpaaGreatDoorGrns
import Derived.Test.YtdafiipedlglpaaGreatDoorGras

/- The document's graph: a patch that is applied: walked. -/
namespace Go.Proofs.YtdafiipedlglpaaGreatDoor
open Go.RowKit

def refL (L : List PatV) (p : PatV) : List PatV := if refK L p = 0 then L ++ [p] else L
theorem refL_eq {L : List PatV} (hG : GrOk L) (p : PatV) : refL L p = grL L p := by unfold refL grL; rw [refK_eq hG]
/-- the graph, and the error's number -/
def RetRA (w : World) (G : Nat → Prop) (L : List PatV) (e0 : Nat) (e : Ending) (w' : World) : Prop :=
  ∃ A c, e = .returned (.tuple #[.agg #[.slice A L.length c], .int .i64 ((e0 : Nat) : Int)]) ∧ PatsIn w' (fun k => G k ∨ w.heap.size ≤ k) A L.length L ∧ Below w.heap.size w w'
theorem patsIn_far {w : World} {G : Nat → Prop} {A : Option Addr} {n ga : Nat} {L : List PatV} (h : PatsIn w (fun k => k ≠ ga ∧ G k) A n L) (x : Array Value) : PatsIn (w.setRow ga x) G A n L :=
  (h.stay ((Kept.row20 (F := fun k => k = ga) (Kept.refl _ _) (.inl rfl) x).stay fun _ _ h e => h.1 e)).mono fun _ h => h.2
set_option maxRecDepth 100000 in
set_option maxHeartbeats 8000000 in
theorem rapply20_any (L : List PatV) (p : PatV) (w : World) (G : Nat → Prop) (hG : ∀ k, G k → k < w.heap.size) (A : Option Addr) (n c : Nat) (h : PatsIn w G A n L) (cs : List Value) (hp : PatIn w G cs p) (hn : n ≤ 10000) :
    Calls Tryz.prog 119 #[.agg #[.slice A n c], .agg cs.toArray] w (RetRA w G (refL L p) (refK L p)) := by
  have H0 := Lib.hid h
  have HPAT := Lib.hid hp
  have hG := Lib.hid hG
  have hln := Lib.hid h.len
  obtain ⟨⟨A1, c1, A2, c2, rfl, _, _, _, _⟩, _, _⟩ := hp
  have KG : Hid (Blk (((w.alloc (.cells #[.slice A n c] 182)).alloc (.cells (patC p.1 A1 p.2.1.length c1 A2 p.2.2.length c2).toArray 64)).alloc (.cells #[.slice none 0 0] 182)) w.heap.size 182 #[.slice A n c]) := ((Blk.new _ _ _).alloc _).alloc _
  have KP : Hid (Blk (((w.alloc (.cells #[.slice A n c] 182)).alloc (.cells (patC p.1 A1 p.2.1.length c1 A2 p.2.2.length c2).toArray 64)).alloc (.cells #[.slice none 0 0] 182)) (w.heap.size + 1) 64 (patC p.1 A1 p.2.1.length c1 A2 p.2.2.length c2).toArray) := (Blk.newAt (by simp) _ _).alloc _
  have KR : Hid (Blk (((w.alloc (.cells #[.slice A n c] 182)).alloc (.cells (patC p.1 A1 p.2.1.length c1 A2 p.2.2.length c2).toArray 64)).alloc (.cells #[.slice none 0 0] 182)) (w.heap.size + 1 + 1) 182 #[.slice none 0 0]) := Blk.newAt (by simp) _ _
  have B0 : Hid (Below w.heap.size w (((w.alloc (.cells #[.slice A n c] 182)).alloc (.cells (patC p.1 A1 p.2.1.length c1 A2 p.2.2.length c2).toArray 64)).alloc (.cells #[.slice none 0 0] 182))) := (((Below.refl _ _).alloc (Nat.le_refl _) _).alloc (by simp) _).alloc (by simp; omega) _
  clear h
  go_enter Tryz.func119, Tryz.ntmps119
  go_upto_region 1 with (refine wpList_alloced (allocG20 _) ?_)
  generalize (((w.alloc (.cells #[.slice A n c] 182)).alloc (.cells (patC p.1 A1 p.2.1.length c1 A2 p.2.2.length c2).toArray 64)).alloc (.cells #[.slice none 0 0] 182)) = w2 at *
  obtain ⟨gr, hgr⟩ : ∃ g, g = w.heap.size + 1 + 1 := ⟨_, rfl⟩
  obtain ⟨g1, hg1⟩ : ∃ g, g = w.heap.size + 1 := ⟨_, rfl⟩
  obtain ⟨gg, hgg⟩ : ∃ g, g = w.heap.size := ⟨_, rfl⟩
  rw [← hgr] at KR ⊢
  rw [← hg1] at KP ⊢
  rw [← hgg] at KG ⊢
  have hrw : Hid (w.heap.size ≤ gr) := by rw [Hid]; omega
  replace hgr := Lib.hid hgr
  replace hg1 := Lib.hid hg1
  replace hgg := Lib.hid hgg
  have HC := Lib.hid (rcheck20_any L p w2 G (fun k e => Nat.lt_of_lt_of_le (hG.out k e) B0.out.size) A n c (H0.out.ext B0.out) _ (HPAT.out.ext B0.out) hn)
  have EL : Hid (refL L p = if refK L p = 0 then L ++ [p] else L) := rfl
  obtain ⟨e0, he⟩ : ∃ e0, e0 = refK L p := ⟨_, rfl⟩
  rw [← he] at HC EL ⊢
  replace he := Lib.hid he
  go_wp2_with (first
    | (refine wpList_load_row rfl 182 _ (by rfl) gg (by rfl) _ _ _ _ KG.out underG20 rfl infoG20 ?_)
    | (refine wpList_load_row rfl 64 _ (by rfl) g1 (by rfl) _ _ _ _ KP.out underPat rfl infoPat ?_))
  refine HC.out.mono ?_
  rintro e w3 ⟨rfl, b3⟩
  have B3 := Lib.hid (B0.out.trans (b3.mono B0.out.size))
  have KG := Lib.hid (KG.out.ext b3)
  have KP := Lib.hid (KP.out.ext b3)
  have KR := Lib.hid (KR.out.ext b3)
  clear b3 HC B0
  by_cases h0 : e0 = 0
  · subst h0
    have z0 : ((((0 : Nat) : Nat) : Int) != 0) = false := rfl
    rw [if_pos rfl] at EL
    have yg : w3.cell? ⟨gg, 0, none⟩ = some (.slice A n c) := KG.out.cell 0
    have H3 := Lib.hid ((H0.out.ext B3.out).mono (G := fun k => k ≠ gr ∧ G k) fun k e => ⟨fun e2 => by have := hG.out k e; have := hrw.out; omega, e⟩)
    have P3 := Lib.hid ((HPAT.out.ext B3.out).mono (G := fun k => k ≠ gr ∧ G k) fun k e => ⟨fun e2 => by have := hG.out k e; have := hrw.out; omega, e⟩)
    obtain ⟨rows, r1, r2⟩ := H3.out.ex
    have R1 := Lib.hid r1
    have R2 := Lib.hid r2
    have hone : Hid (∀ u ∈ rows.flatten, u.oneCell' = true) := by
      intro u hu
      obtain ⟨r, hr, hur⟩ := List.mem_flatten.1 hu
      obtain ⟨j, hj, rfl⟩ := List.getElem_of_mem hr
      have hj' : j < L.length := by rw [← R1.out.1]; exact hj
      exact (R1.out.2 j _ _ (List.getElem?_eq_getElem hj) (List.getElem?_eq_getElem hj')).one u hur
    have ON := Lib.hid (World.ownsRow_nil w3 w3.heap.size 64 4)
    have hr3 : Hid (gr < w3.heap.size) := KR.out.lt
    clear r1 r2
    go_upto_region 6 with (at_builtin; refine wpList_cat patSl ON.out R2.out hone.out (Nat.le_refl _) (by omega) (by unfold maxLen; omega) (by rfl) (by rfl) ?_; intro v7 w7 own7 bel7)
    have OW := Lib.hid own7
    have B7 := Lib.hid (B3.out.trans (bel7.mono B3.out.size))
    have KP7 := Lib.hid (KP.out.below bel7 KP.out.lt)
    have KR7 := Lib.hid (KR.out.below bel7 KR.out.lt)
    have P7 := Lib.hid (P3.out.ext bel7)
    have RI7 := Lib.hid (R1.out.stay (Stay.of_below bel7))
    have h7 := Lib.hid bel7.size
    have hw3 : Hid (w.heap.size ≤ w3.heap.size) := B3.out.size
    clear own7 bel7 ON R2 R1 yg KP KR KG H3 P3
    simp only [Nat.zero_add, List.nil_append] at OW
    go_upto_region 7 with (first
      | (refine wpList_load_row rfl 64 _ (by rfl) g1 (by rfl) _ _ _ _ KP7.out underPat rfl infoPat ?_)
      | (refine wpList_lit1 patSl P7.out.len4 (by omega) (by rfl) ?_)
      | (at_builtin; refine wpList_pushF patSl OW.out (patC p.1 A1 p.2.1.length c1 A2 p.2.2.length c2) P7.out.len4 P7.out.one h7.out (by omega) (by unfold maxLen; omega) (by rfl) (by rfl) (by rfl) ?_; intro v8 w8 own8 kep8 new8))
    obtain ⟨A5, c5, rfl, hc5, hs5⟩ := Sl.of_own own8
    have hno : Hid (∀ k, (Value.slice A5 (n + 1) c5).ownBlock = some k → k ≠ gr ∧ w.heap.size ≤ k) := fun k e => by
      have := (own8.lt k e).1
      have := hr3.out
      have := hw3.out
      exact ⟨by omega, by omega⟩
    have KR8 := Lib.hid (kep8.blk KR7.out (blk_not_own KR7.out (by decide) OW.out))
    have st : Stay (fun k => k ≠ gr ∧ G k) w7 w8 := kep8.stay fun k _ hd e => by have := hG.out k hd.2; have := (OW.out.lt k e).1; have := hw3.out; omega
    have X : Hid (PatsIn w8 (fun k => k ≠ gr ∧ (G k ∨ w.heap.size ≤ k)) A5 (n + 1) (L ++ [p])) :=
      ⟨by simp [hln.out], fun _ b o e => ⟨(hno.out b (by rw [e]; rfl)).1, .inr (hno.out b (by rw [e]; rfl)).2⟩, rows ++ [(patC p.1 A1 p.2.1.length c1 A2 p.2.2.length c2)], ((RI7.out.snoc P7.out).stay st).mono fun k e => ⟨e.1, .inl e.2⟩, by rw [List.flatten_append]; simpa using hs5⟩
    have B8 := Lib.hid (B7.out.trans (kep8.below (fun k e => Nat.le_trans hw3.out (OW.out.lt k e).1) B7.out.size))
    have hl1 : (L ++ [p]).length = n + 1 := by simp [hln.out]
    have hl1 := Lib.hid hl1
    clear own8 kep8 new8 hs5 st hno KR7 P7 RI7 OW KP7 B7 hone
    go_wp2_with (first
      | (refine wpList_built (buildG20 _ _ _ _) (by rfl) ?_)
      | (refine wpList_store_row rfl 182 _ _ (by rfl) gr #[.slice A5 (n + 1) c5] (by rfl) (by rfl) _ _ KR8.out infoG20 rfl (by simp [Value.oneCell']) ?_))
    refine bodyPost_ret (results_row_tmp rfl _ _ gr _ #[.slice A5 (n + 1) c5] _ rfl (KR8.out.row _) underG20 rfl infoG20) rfl ?_
    rw [EL.out, RetRA, hl1.out, ← he.out]
    exact ⟨A5, c5, rfl, patsIn_far X.out _, below_setRow B8.out hrw.out _⟩
  · have z0 : (((e0 : Nat) : Int) != 0) = true := by rw [bne_iff_ne]; omega
    rw [if_neg h0] at EL
    replace h0 := Lib.hid h0
    go_wp2_with (first
      | (refine wpList_load_row rfl 182 _ (by rfl) gg (by rfl) _ _ _ _ KG.out underG20 rfl infoG20 ?_)
      | (refine wpList_store_row rfl 182 _ _ (by rfl) gr #[.slice A n c] (by rfl) (by rfl) _ _ KR.out infoG20 rfl (by simp [Value.oneCell']) ?_))
    refine bodyPost_ret (results_row_tmp rfl _ _ gr _ #[.slice A n c] _ rfl (KR.out.row _) underG20 rfl infoG20) rfl ?_
    have H3 := (H0.out.ext B3.out).mono (G := fun k => k ≠ gr ∧ (G k ∨ w.heap.size ≤ k)) fun k e => ⟨fun e2 => by have := hG.out k e; have := hrw.out; omega, .inl e⟩
    rw [EL.out, RetRA, hln.out, ← he.out]
    exact ⟨A, c, rfl, patsIn_far H3 _, below_setRow B3.out hrw.out _⟩
end Go.Proofs.YtdafiipedlglpaaGreatDoor

/- Whatever patches come, each error, and all that is there, is what the document says: the statement walked. -/
namespace Go.Proofs.YtdafiipedlglpaaGreatDoor
open Go.RowKit

/-- what lies somewhere lies there among the blocks that there are -/
theorem PatIn.both20 {w : World} {G : Nat → Prop} {r : List Value} {p : PatV} (h : PatIn w G r p) : PatIn w (fun q => G q ∧ q < w.heap.size) r p := by
  obtain ⟨⟨A, c, A', c', e, h1, h2, i1, i2⟩, h3, h4⟩ := h
  refine ⟨⟨A, c, A', c', e, h1, h2, fun hn b o ea => ⟨i1 hn b o ea, ?_⟩, fun hn b o ea => ⟨i2 hn b o ea, ?_⟩⟩, h3, h4⟩
  · obtain ⟨b', o', e', hb, _⟩ := h1.sl.2 hn
    rw [ea] at e'; injection e' with e'; injection e' with e1 _; rw [e1]; exact hb
  · obtain ⟨b', o', e', hb, _⟩ := h2.sl.2 hn
    rw [ea] at e'; injection e' with e'; injection e' with e1 _; rw [e1]; exact hb
theorem PatsIn.both20 {w : World} {G : Nat → Prop} {A : Option Addr} {n : Nat} {l : List PatV} (h : PatsIn w G A n l) : PatsIn w (fun q => G q ∧ q < w.heap.size) A n l := by
  obtain ⟨rows, h1, h2⟩ := h.ex
  refine ⟨h.len, fun hn b o ea => ⟨h.inb hn b o ea, ?_⟩, rows, ⟨h1.1, fun k r p e1 e2 => (h1.2 k r p e1 e2).both20⟩, h2⟩
  obtain ⟨b', o', e', hb, _⟩ := h2.2 hn
  rw [ea] at e'; injection e' with e'; injection e' with e1 _; rw [e1]; exact hb
end Go.Proofs.YtdafiipedlglpaaGreatDoor
