/- Which things come ahead of which is made out of steps: walked. -/
import Derived.Test.YtnhbbggpgieipaaGreatRels
import Derived.Test.YtnhbbggpgieipaaGreatIdxw
import Derived.Test.YtnhbbggpgieipaaGreatZmob
namespace Go.Proofs.YtnhbbggpgieipaaGreat
open Go.RowKit
open Go.MapKept
open Go.ChangeMaps (setBlock)

def encS (x : Nat × Nat) : List Value := [.int .i64 (x.1 : Int), .int .i64 (x.2 : Int)]
/-- steps lead from one thing to another one -/
def ViaL (L : List (Nat × Nat)) (a b : Nat) : Prop := Via (fun x y => (x, y) ∈ L) (fun _ => True) a b
def RetRel (w : World) (n : Nat) (L : List (Nat × Nat)) (e : Ending) (w' : World) : Prop :=
  ∃ g R, e = .returned (.pointer (some ⟨g, 0, none⟩)) ∧ RelAt w' g n R ∧ (∀ a b, R a b = true ↔ ViaL L a b) ∧ w.heap.size ≤ g ∧ Below w.heap.size w w'
theorem encN_at {w : World} {base c : Nat} {A : Option Addr} {F : List Nat} (h : w.ownsRow base 3 1 (.slice A F.length c) F.length (F.map fun (i : Nat) => Value.int .i64 (i : Int))) {k : Nat} (hk : k < F.length) :
    ∃ b o, A = some ⟨b, o, none⟩ ∧ b < w.heap.size ∧ w.cell? ⟨b, o + k, none⟩ = some (.int .i64 (F[k] : Int)) := by
  obtain ⟨A', c', e, _, hs⟩ := Sl.of_own h
  cases e
  obtain ⟨b, o, u, h1, h2, h3, h4⟩ := hs.at_ hk
  rw [List.getElem?_map, List.getElem?_eq_getElem hk] at h3
  exact ⟨b, o, h1, h2, h4.trans h3.symm⟩
def memL (L : List (Nat × Nat)) (a b : Nat) : Bool := decide ((a, b) ∈ L)
theorem memL_snoc (L : List (Nat × Nat)) (x : Nat × Nat) (a b : Nat) : memL (L ++ [x]) a b = (memL L a b || (decide (x.1 = a) && decide (x.2 = b))) := by
  unfold memL
  rw [Bool.eq_iff_iff]
  simp only [List.mem_append, List.mem_singleton, decide_eq_true_eq, Bool.or_eq_true, Bool.and_eq_true, Prod.ext_iff]
  constructor
  · rintro (h | ⟨h1, h2⟩)
    · exact .inl h
    · exact .inr ⟨h1.symm, h2.symm⟩
  · rintro (h | ⟨h1, h2⟩)
    · exact .inl h
    · exact .inr ⟨h1.symm, h2.symm⟩
/-- the rows as they stand behind some steps, blocks from a base on -/
structure RowsS (w : World) (B gm n : Nat) (T : List Row7) : Prop where
  at_ : RowsAt7 w gm n T
  ge : ∀ r ∈ T, B ≤ r.g ∧ B ≤ r.gw
section
variable {w w' : World} {B gm n : Nat} {T : List Row7}
theorem RowsS.ext (h : RowsS w B gm n T) (hb : Below w.heap.size w w') : RowsS w' B gm n T := ⟨h.at_.ext hb, h.ge⟩
theorem RowsS.upd (h : RowsS w B gm n T) {r : Row7} (hr : r ∈ T) {ws : List Nat} (hm : MaskAt w' r.g r.gw n ws) (hc : CleanW n ws) (hk : Kept (fun k => k = r.gw) w w') : RowsS w' B gm n (updT T r.i ws) :=
  ⟨h.at_.upd hr hm hc hk, fun s hs => by
    obtain ⟨t, ht, _, e2, e3, _⟩ := updT_mem hs
    rw [e2, e3]; exact h.ge t ht⟩
/-- a number is put into a row -/
theorem RowsS.putted (h : RowsS w B gm n T) {r : Row7} (hr : r ∈ T) {b : Nat} (hb : b < n) (hm : MaskAt w' r.g r.gw n (putM n r.ws (b : Int))) (hk : Kept (fun k => k = r.gw) w w') :
    RowsS w' B gm n (updT T r.i (putM n r.ws (b : Int))) ∧ ∀ x y, relT (updT T r.i (putM n r.ws (b : Int))) x y = (relT T x y || (decide (r.i = x) && decide (b = y))) := by
  have hcl := h.at_.cl r hr
  have hok := (h.at_.row r hr).ok
  have e : ∀ y, bitAt (putM n r.ws (b : Int)) y = (bitAt r.ws y || decide (b = y)) := fun y => by
    unfold putM newM
    rw [decide_eq_true (show (0 : Int) ≤ (b : Int) by omega), decide_eq_true (show (b : Int) < (n : Int) by omega), Int.toNat_natCast]
    cases hbit : bitAt r.ws b
    · simp only [Bool.not_false, Bool.and_self, if_true]
      exact bit_putW hok hb y
    · simp only [Bool.not_true, Bool.and_false, Bool.false_eq_true, if_false]
      by_cases hy : b = y
      · subst hy; rw [hbit]; rfl
      · rw [decide_eq_false hy, Bool.or_false]
  refine ⟨h.upd hr hm (fun i hi => ?_) hk, fun x y => ?_⟩
  · rw [e, hcl i hi, decide_eq_false (by omega)]; rfl
  · rw [relT_upd hr]
    by_cases hx : x = r.i
    · subst hx
      rw [if_pos rfl, e, h.at_.rel hr, decide_eq_true rfl, Bool.true_and]
    · rw [if_neg hx, decide_eq_false (fun e => hx e.symm), Bool.false_and, Bool.or_false]
/-- one row takes in another one -/
theorem RowsS.ored (h : RowsS w B gm n T) {r s : Row7} (hr : r ∈ T) (hs : s ∈ T) (hm : MaskAt w' r.g r.gw n (orW r.ws s.ws n)) (hk : Kept (fun k => k = r.gw) w w') (hrs : relT T r.i s.i = true) :
    RowsS w' B gm n (updT T r.i (orW r.ws s.ws n)) ∧ relT (updT T r.i (orW r.ws s.ws n)) = orRow (relT T) r.i s.i := by
  have hcl : CleanW n (orW r.ws s.ws n) := (h.at_.cl r hr).orW (h.at_.row s hs).ok
  refine ⟨h.upd hr hm hcl hk, ?_⟩
  funext x y
  rw [relT_upd hr]
  unfold orRow
  by_cases hx : x = r.i
  · rw [if_pos hx, if_pos ⟨hx, hrs⟩, h.at_.rel hr, h.at_.rel hs]
    rcases Nat.lt_or_ge y n with hy | hy
    · exact orW_bit (h.at_.row r hr).ok (h.at_.row s hs).ok hy
    · rw [hcl y hy, h.at_.cl r hr y hy, h.at_.cl s hs y hy]; rfl
  · rw [if_neg hx, if_neg (fun h => hx h.1)]
end
theorem orRow_no {R : Nat → Nat → Bool} {i k : Nat} (h : R i k = false) : orRow R i k = R := by
  funext a b
  unfold orRow
  rw [if_neg (fun hc => by rw [h] at hc; cases hc.2)]
theorem row_of {T : List Row7} {i : Nat} (h : i ∈ T.map (·.i)) : ∃ r ∈ T, r.i = i := by
  obtain ⟨r, hr, e⟩ := List.mem_map.1 h
  exact ⟨r, hr, e⟩
theorem makeR8 (w : World) : (Instr.makeMap 130 none).run Tryz.prog w = .ok (.map (some w.heap.size)) (w.alloc (.map #[] 0)) := by kernel_rfl
theorem allocS2 (w : World) : (Instr.alloc 103 true (.tuple #[])).run Tryz.prog w = .ok (.pointer (some ⟨w.heap.size, 0, none⟩)) (w.alloc (.cells #[.int .i64 0, .int .i64 0] 103)) := by kernel_rfl
theorem underS2 : Tryz.prog.underlying 103 = some (.array 2 3) := by kernel_rfl
theorem infoS2 : (Tryz.prog.info? 103).map (·.size) = some 2 := by kernel_rfl
theorem loadMapM (b o : Nat) (w : World) (gm : Nat) (h : w.cell? ⟨b, o, none⟩ = some (.map (some gm))) : (Instr.loadAt 130 (.pointer (some ⟨b, o, none⟩))).run Tryz.prog w = .ok (.map (some gm)) w := by simp [go_sem, h]
theorem fieldRel1 (g : Nat) (w : World) : (Instr.fieldAt 132 (.pointer (some ⟨g, 0, none⟩)) 1).run Tryz.prog w = .ok (.pointer (some ⟨g, 1, none⟩)) w := by simp [go_sem]
theorem indexS2 (g : Nat) (w : World) : (Instr.indexAt 103 (.pointer (some ⟨g, 0, none⟩)) (.int .i64 0)).run Tryz.prog w = .ok (.pointer (some ⟨g, 0, none⟩)) w := by simp [go_sem]
theorem encS_one (x : Nat × Nat) : ((encS x).toArray).all (·.oneCell') = true := by simp [encS, Value.oneCell']
theorem RowsAt7.lookRow {w : World} {gm n : Nat} {T : List Row7} (h : RowsAt7 w gm n T) {r : Row7} (hr : r ∈ T) (hn : n ≤ 65536) :
    ∀ w' : World, w'.heap[gm]? = w.heap[gm]? → (Instr.lookup 130 (.map (some gm)) (.int .i64 (r.i : Int)) false).run Tryz.prog w' = .ok (.pointer (some ⟨r.g, 0, none⟩)) w' := by
  have hlt := h.lt r hr
  obtain ⟨v, hl, hv⟩ := h.look (r.i : Int) (by omega)
  rcases hv with ⟨_, hno⟩ | ⟨s, hs, e, rfl⟩
  · exact absurd rfl (hno r hr)
  · obtain rfl := h.one hs hr (by omega)
    exact hl
theorem RowsAt7.or_any {w : World} {gm n : Nat} {T : List Row7} (h : RowsAt7 w gm n T) {r s : Row7} (hr : r ∈ T) (hs : s ∈ T) :
    Calls Tryz.prog 97 #[.pointer (some ⟨r.g, 0, none⟩), .pointer (some ⟨s.g, 0, none⟩)] w (RetOr w r.g r.gw n (orW r.ws s.ws n)) := by
  by_cases e : s.gw = r.gw
  · have : s = r := by
      obtain ⟨i, hi, rfl⟩ := List.getElem_of_mem hr
      obtain ⟨j, hj, rfl⟩ := List.getElem_of_mem hs
      have hp := List.pairwise_iff_getElem.1 h.ap
      rcases Nat.lt_trichotomy i j with c | c | c
      · exact absurd e.symm (hp i j hi hj c).2.2
      · subst c; rfl
      · exact absurd e (hp j i hj hi c).2.2
    subst this
    exact or7_self (h.row s hs)
  · exact or7_any (h.row r hr) (h.row s hs) (own_ne_blk (h.row r hr).own (h.row s hs).blk (by decide) rfl).symm e
theorem hasM_clean {n : Nat} {ws : List Nat} (h : CleanW n ws) (i : Nat) : hasM n ws (i : Int) = bitAt ws i := by
  unfold hasM
  rw [decide_eq_true (show (0 : Int) ≤ (i : Int) by omega), Bool.true_and, Int.toNat_natCast]
  by_cases hi : i < n
  · rw [decide_eq_true (show (i : Int) < (n : Int) by omega), Bool.true_and]
  · rw [h i (by omega), Bool.and_false]
def encN (F : List Nat) : List Value := F.map fun (i : Nat) => Value.int .i64 (i : Int)
/-- what stands while the steps are gone through -/
structure St8 (w wr : World) (gr n : Nat) (T : List Row7) (F : List Nat) (v : Value) : Prop where
  rows : RowsS wr w.heap.size w.heap.size n T
  blk : Blk wr gr 132 #[.int .i64 (n : Int), .map (some w.heap.size)]
  own : wr.ownsRow w.heap.size 3 1 v F.length (encN F)
  below : Below w.heap.size w wr
section
variable {w wr w2 : World} {gr n : Nat} {T : List Row7} {F : List Nat} {v : Value}
theorem St8.ext (h : St8 w wr gr n T F v) (hb : Below wr.heap.size wr w2) : St8 w w2 gr n T F v := ⟨h.rows.ext hb, h.blk.ext hb, own_ext h.own hb, h.below.trans (hb.mono h.below.size)⟩
theorem St8.wrote (h : St8 w wr gr n T F v) {r : Row7} (hr : r ∈ T) {T' : List Row7} (hT : RowsS w2 w.heap.size w.heap.size n T') (hk : Kept (fun k => k = r.gw) wr w2) : St8 w w2 gr n T' F v :=
  ⟨hT, h.blk.keep (hk.block gr h.blk.lt (own_ne_blk (h.rows.at_.row r hr).own h.blk (by decide) rfl).symm),
    own_keepF h.own fun g hg => hk.block g (h.own.lt g hg).2 (own_ne_own h.own (h.rows.at_.row r hr).own (by decide) hg rfl),
    h.below.trans (hk.below (fun k e => by rw [e]; exact (h.rows.ge r hr).2) h.below.size)⟩
theorem St8.mapped (h : St8 w wr gr n T F v) {T' : List Row7} (hT : RowsAt7 w2 w.heap.size n T') (hg : ∀ r ∈ T', w.heap.size ≤ r.g ∧ w.heap.size ≤ r.gw) (hk : Kept (fun k => k = w.heap.size) wr w2) : St8 w w2 gr n T' F v :=
  ⟨⟨hT, hg⟩, h.blk.keep (hk.block gr h.blk.lt (blk_ne_map h.blk h.rows.at_.map)), own_keepF h.own fun g hg => hk.block g (h.own.lt g hg).2 (own_ne_map h.own h.rows.at_.map hg),
    h.below.trans (hk.below (fun k e => by omega) h.below.size)⟩
theorem St8.pushed (h : St8 w wr gr n T F v) {i : Nat} {v' : Value} (ho : w2.ownsRow w.heap.size 3 1 v' (F.length + 1) (encN F ++ [.int .i64 (i : Int)])) (hk : Kept (fun k => v.ownBlock = some k) wr w2) : St8 w w2 gr n T (F ++ [i]) v' :=
  ⟨⟨⟨h.rows.at_.map.keep (hk.block _ h.rows.at_.map.lt fun e => own_ne_map h.own h.rows.at_.map e rfl),
      fun r hr => (h.rows.at_.row r hr).keep (hk.block _ (h.rows.at_.row r hr).lt.1 fun e => own_ne_blk h.own (h.rows.at_.row r hr).blk (by decide) e rfl)
        (hk.block _ (h.rows.at_.row r hr).lt.2 fun e => own_ne_own h.own (h.rows.at_.row r hr).own (by decide) e rfl rfl), h.rows.at_.cl, h.rows.at_.lt, h.rows.at_.ap⟩, h.rows.ge⟩,
    h.blk.keep (hk.block gr h.blk.lt fun e => own_ne_blk h.own h.blk (by decide) e rfl),
    by
      have e : encN (F ++ [i]) = encN F ++ [.int .i64 (i : Int)] := by unfold encN; rw [List.map_append]; rfl
      rw [e, List.length_append]; exact ho,
    h.below.trans (hk.below (fun k e => (h.own.lt k e).1) h.below.size)⟩
theorem St8.cellM (h : St8 w wr gr n T F v) : wr.cell? ⟨gr, 1, none⟩ = some (.map (some w.heap.size)) := h.blk.cell 1
end
set_option maxRecDepth 100000 in
set_option maxHeartbeats 8000000 in
theorem of8_any {w : World} {n : Nat} (hn : n ≤ 65536) {L : List (Nat × Nat)} (hL : ∀ x ∈ L, x.1 < n ∧ x.2 < n) {A : Option Addr} {c : Nat} (hs : Sl w w.heap.size 2 A L.length (L.flatMap encS)) (hl : L.length ≤ 1000000) :
    Calls Tryz.prog 57 #[.int .i64 (n : Int), .slice A L.length c] w (RetRel w n L) := by
  have S := Lib.hid hs
  have HLm := Lib.hid hL
  have hmn : min (n : Int) 65536 = (n : Int) := by omega
  have hmk := makeR8
  have hn0 : Hid (n ≤ 65536) := hn
  clear hs hL
  go_enter Tryz.func57, Tryz.ntmps57
  go_upto_region 4 with fail
  have ST0 : Hid (St8 w ((w.alloc (.map #[] 0)).alloc (.cells #[.int .i64 (n : Int), .map (some w.heap.size)] 132)) (w.heap.size + 1) n [] [] (.slice none 0 0)) :=
    ⟨⟨⟨(MapIs.made _ _ _).alloc _, (by simp), (by simp), (by simp), .nil⟩, by simp⟩, Blk.newAt (by simp) _ _, World.ownsRow_nil _ _ _ _, ((Below.refl _ _).alloc (Nat.le_refl _) _).alloc (by simp) _⟩
  have hgr : Hid (w.heap.size ≤ w.heap.size + 1) := Nat.le_succ _
  generalize ((w.alloc (.map #[] 0)).alloc (.cells #[.int .i64 (n : Int), .map (some w.heap.size)] 132)) = w0 at *
  generalize w.heap.size + 1 = gr at *
  clear hmk hmn
  go_wp2_with fail
  go_loopw [6, 22] (fun v i wr => ∃ (k : Nat) (T : List Row7) (F : List Nat), k ≤ L.length ∧ T.length ≤ k ∧ i = .int .i64 k ∧ T.map (·.i) = F ∧ Hid (St8 w wr gr n T F v) ∧ Hid (relT T = memL (L.take k))) (fun _ i _ => L.length - (intOf i).toNat)
  case atStart => exact ⟨0, [], [], by omega, by simp, rfl, rfl, ST0.out, by funext a b; rfl⟩
  case round =>
    clear ST0
    obtain ⟨k, T, F, hk, hTk, rfl, FI, ST, REL⟩ := hrel
    have hk0 : (0 : Int) ≤ (k : Int) := by omega
    by_cases hlt : k < L.length
    · have hlk : (k : Int) < (L.length : Int) := by omega
      obtain ⟨b, o, rfl, hb, hr⟩ := S.out.rowAt rfl (fun x _ => rfl) hlt
      have hLt : Hid (L.take (k + 1) = L.take k ++ [L[k]]) := by rw [Hid, List.take_add_one, List.getElem?_eq_getElem hlt]; rfl
      obtain ⟨hx1, hx2⟩ := HLm.out L[k] (List.getElem_mem hlt)
      generalize L[k] = x at *
      obtain ⟨xa, xb⟩ := x
      have R := Lib.hid (rangeAt_below hr ST.out.below hb)
      have hxn : Hid (xa < n) := hx1
      have hbn : Hid (xb < n) := hx2
      have hxl : Hid (xa ≤ 65536) := by rw [Hid]; have := hn0.out; omega
      have HFa := Lib.hid (fun u => fits8_any (xa : Int) (n : Int) u)
      have HFb := Lib.hid (fun u => fits8_any (xb : Int) (n : Int) u)
      simp only at hx1 hx2
      rw [decide_eq_true (show (0 : Int) ≤ (xa : Int) by omega), decide_eq_true (show (xa : Int) < (n : Int) by omega), Bool.and_self] at HFa
      rw [decide_eq_true (show (0 : Int) ≤ (xb : Int) by omega), decide_eq_true (show (xb : Int) < (n : Int) by omega), Bool.and_self] at HFb
      have K1 : Hid (Blk ((wr.alloc (.cells #[.int .i64 0, .int .i64 0] 103)).setRow wr.heap.size (encS (xa, xb)).toArray) wr.heap.size 103 (encS (xa, xb)).toArray) := (Blk.new _ _ _).row _
      have B1 : Hid (Below wr.heap.size wr ((wr.alloc (.cells #[.int .i64 0, .int .i64 0] 103)).setRow wr.heap.size (encS (xa, xb)).toArray)) := below_setRow ((Below.refl _ _).alloc (Nat.le_refl _) _) (Nat.le_refl _) _
      clear hr hx1 hx2 hb
      go_upto_region 7 with (first
        | (refine wpList_load_mid rfl 103 _ (by rfl) b (o + k * 2) (by rfl) _ _ R.out underS2 rfl infoS2 ?_)
        | (refine wpList_alloced (allocS2 _) ?_)
        | (refine wpList_store_row rfl 103 _ _ (by rfl) wr.heap.size (encS (xa, xb)).toArray (by rfl) (by rfl) _ _ (Blk.new _ _ _) infoS2 rfl (encS_one _) ?_))
      have ST := Lib.hid (ST.out.ext B1.out)
      clear B1 R
      generalize ((wr.alloc (.cells #[.int .i64 0, .int .i64 0] 103)).setRow wr.heap.size (encS (xa, xb)).toArray) = w1 at *
      generalize wr.heap.size = gx at *
      have x0 : w1.cell? ⟨gx, 0, none⟩ = some (.int .i64 (xa : Int)) := K1.out.cell 0
      have x1 : w1.cell? ⟨gx, 1, none⟩ = some (.int .i64 (xb : Int)) := K1.out.cell 1
      go_wp2_with fail
      refine (HFa.out _).mono ?_
      rintro e w1' ⟨rfl, rfl⟩
      go_wp2_with fail
      refine (HFb.out _).mono ?_
      rintro e w1 ⟨rfl, rfl⟩
      go_upto_region 8 with fail
      obtain ⟨v8, hl8, hv8⟩ := ST.out.rows.at_.look (xa : Int) (by have := hxl.out; omega)
      have gml := ST.out.rows.at_.map.lt
      have HL8 : Hid (∀ w' : World, (∃ z : Ext w1, w' = z.w) → (Instr.lookup 130 (.map (some w.heap.size)) (.int .i64 (xa : Int)) false).run Tryz.prog w' = .ok v8 w') := by
        rintro _ ⟨z, rfl⟩; exact hl8 _ (z.h.block _ gml)
      have c8 : ∀ z : Ext w1, z.w.cell? ⟨gr, 1, none⟩ = some (.map (some w.heap.size)) := fun z => (ST.out.ext z.h).cellM
      have cx : ∀ z : Ext w1, z.w.cell? ⟨gx, 0, none⟩ = some (.int .i64 (xa : Int)) := fun z => (K1.out.ext z.h).cell 0
      clear hl8 x0 x1 HFa HFb gml
      rcases hv8 with ⟨rfl, hno⟩ | ⟨r, hr, e, rfl⟩
      · have HNO : Hid (∀ r ∈ T, r.i ≠ xa) := fun r hr e => hno r hr (by omega)
        clear hno
        refine wp_region_ext mixedS (by kernel_rfl) ?_
        repeat (first
          | (refine wpQuiet_look HL8.out rfl rfl rfl ?_; simp only [List.set_cons_succ, List.set_cons_zero])
          | go_big_quiet_step (fail))
        refine wpQuiet_nil ?_
        rintro _ ⟨z, rfl⟩
        have ST := Lib.hid (ST.out.ext z.h)
        have K1 := Lib.hid (K1.out.ext z.h)
        clear c8 cx HL8
        generalize z.w = w2 at *
        go_upto_region 9 with fail
        have hcN : ∀ args u, (callFunc 94 args).run Tryz.prog u = .ok (.enter 94 args) u := enters_of Tryz.func94 (by kernel_rfl) rfl
        have hrm : roomM (n : Int) = n := by unfold roomM; have := hn0.out; omega
        have HNW := Lib.hid (fun u => new7_any (n : Int) u)
        rw [hrm] at HNW
        have D8 := (Below.refl w2.heap.size w2).drew
        have RS4 := Lib.hid (ST.out.ext D8)
        have K1 := Lib.hid (K1.out.ext D8)
        refine wp_region_held (S := fun w' => Kept (fun k => k = w.heap.size) w2.drew w') mixedS ?_
        change wpAnyH _ _ _ _ _ _ _ _ w2.drew
        clear D8 ST hrm
        have B4 : Hid (Kept (fun k => k = w.heap.size) w2.drew w2.drew) := Kept.refl _ _
        generalize w2.drew = w4 at *
        have HC1 : Hid (∀ w', Kept (fun k => k = w.heap.size) w4 w' → w'.cell? ⟨gr, 1, none⟩ = some (.map (some w.heap.size))) := fun w' h => (RS4.out.blk.keep (h.block gr RS4.out.blk.lt (blk_ne_map RS4.out.blk RS4.out.rows.at_.map))).cell 1
        have HCX : Hid (∀ w', Kept (fun k => k = w.heap.size) w4 w' → w'.cell? ⟨gx, 0, none⟩ = some (.int .i64 (xa : Int))) := fun w' h => (K1.out.keep (h.block gx K1.out.lt (blk_ne_map K1.out RS4.out.rows.at_.map))).cell 0
        simp only [List.size_toArray, List.length_cons, List.length_nil]
        refine takeV (i := 0) (d := 46) (v := .pointer (some ⟨gr, 0, none⟩)) rfl (by kernel_rfl) (by kernel_rfl) (by kernel_rfl) (fun _ _ _ h => h) rfl (fun _ _ => exMove (v := .pointer (some ⟨gr, 0, none⟩)) rfl) B4.out ?_
        simp only [Act.put, List.setIfInBounds_toArray, List.set_cons_zero, List.set_cons_succ]
        refine takeV (i := 1) (d := 47) (v := .pointer (some ⟨gr, 0, none⟩)) rfl (by kernel_rfl) (by kernel_rfl) (by kernel_rfl) (fun _ _ _ h => h) rfl (fun _ _ => exNil rfl) B4.out ?_
        simp only [Act.put, List.setIfInBounds_toArray, List.set_cons_zero, List.set_cons_succ]
        refine takeV (i := 2) (d := 48) (v := .pointer (some ⟨gr, 1, none⟩)) rfl (by kernel_rfl) (by kernel_rfl) (by kernel_rfl) (fun _ _ _ h => h) rfl (fun w' _ => exField rfl (fieldRel1 gr w')) B4.out ?_
        simp only [Act.put, List.setIfInBounds_toArray, List.set_cons_zero, List.set_cons_succ]
        refine takeV (i := 3) (d := 49) (v := .map (some w.heap.size)) rfl (by kernel_rfl) (by kernel_rfl) (by kernel_rfl) (fun _ _ _ h => h) rfl (fun w' h => exLoad rfl (loadMapM gr 1 w' w.heap.size (HC1.out w' h))) B4.out ?_
        simp only [Act.put, List.setIfInBounds_toArray, List.set_cons_zero, List.set_cons_succ]
        refine takeV (i := 4) (d := 50) (v := .pointer (some ⟨gx, 0, none⟩)) rfl (by kernel_rfl) (by kernel_rfl) (by kernel_rfl) (fun _ _ _ h => h) rfl (fun w' _ => exIndex rfl rfl (indexS2 gx w')) B4.out ?_
        simp only [Act.put, List.setIfInBounds_toArray, List.set_cons_zero, List.set_cons_succ]
        refine takeV (i := 5) (d := 51) (v := .int .i64 (xa : Int)) rfl (by kernel_rfl) (by kernel_rfl) (by kernel_rfl) (fun _ _ _ h => h) rfl (fun w' h => exLoad rfl (loadIntC gx 0 w' (xa : Int) (HCX.out w' h))) B4.out ?_
        simp only [Act.put, List.setIfInBounds_toArray, List.set_cons_zero, List.set_cons_succ]
        refine takeV (i := 6) (d := 52) (v := .int .i64 (n : Int)) rfl (by kernel_rfl) (by kernel_rfl) (by kernel_rfl) (fun _ _ _ h => h) rfl (fun _ _ => exMove (v := .int .i64 (n : Int)) rfl) B4.out ?_
        simp only [Act.put, List.setIfInBounds_toArray, List.set_cons_zero, List.set_cons_succ]
        refine wpAnyH_all (rs := [7]) (by kernel_rfl) (by simp) ?_
        intro i hi
        simp only [List.mem_cons, List.not_mem_nil, or_false] at hi
        subst hi
        refine wpOp_of rfl rfl (wp_called (args := #[.int .i64 (n : Int)]) hcN (by simp only [List.map_toArray, List.map_cons, List.map_nil]; rfl) (HNW.out w4) ?_)
        rintro e w9 ⟨g, gw, rfl, hm, hg, hgw, b9⟩
        refine ⟨_, rfl, B4.out.then b9, ?_⟩
        simp only [Act.put, List.setIfInBounds_toArray, List.set_cons_zero, List.set_cons_succ]
        have RS9 := Lib.hid (RS4.out.ext b9)
        have K9 := Lib.hid (K1.out.ext b9)
        have B9 := Lib.hid (B4.out.then b9)
        have MN := Lib.hid hm
        have hgg : Hid (w4.heap.size ≤ g ∧ w4.heap.size ≤ gw) := ⟨hg, hgw⟩
        clear hm hg hgw
        refine wpAnyH_all (rs := [8]) (by kernel_rfl) (by simp) ?_
        intro i hi
        simp only [List.mem_cons, List.not_mem_nil, or_false] at hi
        subst hi
        obtain ⟨o, hrun, hrows⟩ := RS9.out.rows.at_.add hxn.out hn0.out HNO.out MN.out (CleanW.zero n) (fun r hr => ⟨by have := RS4.out.rows.at_.row r hr; have := this.lt.1; have := hgg.out.1; omega, by have := RS4.out.rows.at_.row r hr; have := this.lt.2; have := hgg.out.2; omega⟩)
        refine wpOp_of rfl rfl (wp_mapputted rfl rfl rfl hrun ?_)
        refine ⟨Kept.setBlock (F := fun k => k = w.heap.size) B9.out (.inl rfl) o, ?_⟩
        have KB := Lib.hid (Kept.setBlock (F := fun k => k = w.heap.size) (Kept.refl _ w9) (.inl rfl) o)
        have SA := Lib.hid (RS9.out.mapped hrows (fun r hr => by rcases List.mem_append.1 hr with hr | hr; exact RS9.out.rows.ge r hr; rw [List.mem_singleton] at hr; subst hr; have h1 := RS4.out.below.size; have h2 := hgg.out; exact ⟨by show w.heap.size ≤ g; omega, by show w.heap.size ≤ gw; omega⟩) KB.out)
        have K10 := Lib.hid (K9.out.keep (KB.out.block gx K9.out.lt (blk_ne_map K9.out RS9.out.rows.at_.map)))
        clear hrun hrows B9 RS9 MN K9 KB RS4 HC1 HCX HNW HNO K1
        generalize setBlock w9 w.heap.size o = w10 at *
        refine wpAnyH_done (by kernel_rfl) ?_ _
        go_upto_region 10 with fail
        have x0 : w10.cell? ⟨gx, 0, none⟩ = some (.int .i64 (xa : Int)) := K10.out.cell 0
        have hF : F.length ≤ 1000000 := by have := congrArg List.length FI; simp at this; omega
        go_upto_region 11 with (at_builtin; refine wpList_pushF intSlH SA.out.own [.int .i64 (xa : Int)] rfl (by simp [Value.oneCell']) SA.out.below.size (by omega) (by unfold maxLen; omega) (by rfl) (by rfl) (by rfl) ?_; intro v10 w11 own10 k10 _)
        have SB := Lib.hid (SA.out.pushed own10 k10)
        have K11 := Lib.hid (K10.out.keep (k10.block gx K10.out.lt fun e => own_ne_blk SA.out.own K10.out (by decide) e rfl))
        have RELb : Hid (relT (T ++ [⟨xa, g, gw, zeroW n⟩]) = memL (L.take k)) := by
          funext a b
          rw [relT_snoc, zeroW_bit, Bool.and_false, Bool.or_false, REL.out]
        have FIb : (T ++ [(⟨xa, g, gw, zeroW n⟩ : Row7)]).map (·.i) = F ++ [xa] := by rw [List.map_append, FI]; rfl
        have hr : (⟨xa, g, gw, zeroW n⟩ : Row7) ∈ T ++ [⟨xa, g, gw, zeroW n⟩] := by simp
        have hri : (⟨xa, g, gw, zeroW n⟩ : Row7).i = xa := rfl
        have hTb : (T ++ [(⟨xa, g, gw, zeroW n⟩ : Row7)]).length ≤ k + 1 := by simp; omega
        clear x0 own10 k10 SA K10 REL FI hTk hF
        generalize (⟨xa, g, gw, zeroW n⟩ : Row7) = r at *
        generalize T ++ [r] = Tb at *
        go_upto_region 11 with fail
        obtain ⟨v11, hl11, hv11⟩ := SB.out.rows.at_.look (xa : Int) (by have := hxl.out; omega)
        have hv11' : v11 = .pointer (some ⟨r.g, 0, none⟩) := by
          rcases hv11 with ⟨_, hno⟩ | ⟨s, hs, e, rfl⟩
          · exact absurd (by rw [hri]) (hno r hr)
          · obtain rfl := SB.out.rows.at_.one hs hr (by omega)
            rfl
        subst hv11'
        have HL11 : Hid (∀ w' : World, (∃ k, w' = w11.drewN k) → (Instr.lookup 130 (.map (some w.heap.size)) (.int .i64 (xa : Int)) false).run Tryz.prog w' = .ok (.pointer (some ⟨r.g, 0, none⟩)) w') := by
          rintro _ ⟨k, rfl⟩; exact hl11 _ rfl
        clear hl11 hv11
        have c11 := SB.out.cellM
        have x0 : w11.cell? ⟨gx, 0, none⟩ = some (.int .i64 (xa : Int)) := K11.out.cell 0
        have x1 : w11.cell? ⟨gx, 1, none⟩ = some (.int .i64 (xb : Int)) := K11.out.cell 1
        refine wp_region_drawn 9 (by kernel_rfl) (by kernel_rfl) ?_
        simp only [List.take_succ_cons, List.take_zero, List.drop_succ_cons, List.drop_zero]
        repeat (first
          | (refine wpQuiet_look HL11.out rfl rfl rfl ?_; simp only [List.set_cons_succ, List.set_cons_zero])
          | go_big_quiet_step (fail))
        refine wpQuiet_nil ?_
        rintro _ ⟨nq, rfl⟩
        have S11 := Lib.hid (SB.out.ext (below_drewN (Below.refl _ _) nq))
        clear HL11 c11 x0 x1 SB K11
        generalize w11.drewN nq = w11 at *
        go_wp2_with fail
        refine (put7_any (S11.out.rows.at_.row r hr) (xb : Int)).mono ?_
        rintro e w12 ⟨rfl, hm12, hk12⟩
        obtain ⟨hr12, hrel12⟩ := S11.out.rows.putted hr hbn.out hm12 hk12
        have S12 := Lib.hid (S11.out.wrote hr hr12 hk12)
        have R12 : Hid (relT (updT Tb r.i (putM n r.ws (xb : Int))) = memL (L.take (k + 1))) := by
          funext a b
          rw [hrel12, RELb.out, hLt.out, memL_snoc, hri]
        have I12 := updT_i (Tb) r.i (putM n r.ws (xb : Int))
        clear hm12 hk12 hr12 hrel12 S11
        generalize updT (Tb) r.i (putM n r.ws (xb : Int)) = T12 at *
        go_wp2_with fail
        go_roundw
        case rel => exact ⟨k + 1, T12, _, by omega, by have := congrArg List.length I12; simp at this; omega, by go_num, by rw [I12]; exact FIb, S12.out, R12.out⟩
        case measure => simp [intOf]; omega
      · have hri : r.i = xa := by omega
        refine wp_region_ext mixedS (by kernel_rfl) ?_
        repeat (first
          | (refine wpQuiet_look HL8.out rfl rfl rfl ?_; simp only [List.set_cons_succ, List.set_cons_zero])
          | go_big_quiet_step (fail))
        refine wpQuiet_nil ?_
        rintro _ ⟨z, rfl⟩
        have ST := Lib.hid (ST.out.ext z.h)
        have K1 := Lib.hid (K1.out.ext z.h)
        clear c8 cx HL8
        generalize z.w = w2 at *
        have RELb := REL
        clear REL e
        go_upto_region 11 with fail
        obtain ⟨v11, hl11, hv11⟩ := ST.out.rows.at_.look (xa : Int) (by have := hxl.out; omega)
        have hv11' : v11 = .pointer (some ⟨r.g, 0, none⟩) := by
          rcases hv11 with ⟨_, hno⟩ | ⟨s, hs, e, rfl⟩
          · exact absurd (by rw [hri]) (hno r hr)
          · obtain rfl := ST.out.rows.at_.one hs hr (by omega)
            rfl
        subst hv11'
        have HL11 : Hid (∀ w' : World, (∃ k, w' = w2.drewN k) → (Instr.lookup 130 (.map (some w.heap.size)) (.int .i64 (xa : Int)) false).run Tryz.prog w' = .ok (.pointer (some ⟨r.g, 0, none⟩)) w') := by
          rintro _ ⟨k, rfl⟩; exact hl11 _ rfl
        clear hl11 hv11
        have c11 := ST.out.cellM
        have x0 : w2.cell? ⟨gx, 0, none⟩ = some (.int .i64 (xa : Int)) := K1.out.cell 0
        have x1 : w2.cell? ⟨gx, 1, none⟩ = some (.int .i64 (xb : Int)) := K1.out.cell 1
        refine wp_region_drawn 9 (by kernel_rfl) (by kernel_rfl) ?_
        simp only [List.take_succ_cons, List.take_zero, List.drop_succ_cons, List.drop_zero]
        repeat (first
          | (refine wpQuiet_look HL11.out rfl rfl rfl ?_; simp only [List.set_cons_succ, List.set_cons_zero])
          | go_big_quiet_step (fail))
        refine wpQuiet_nil ?_
        rintro _ ⟨nq, rfl⟩
        have S11 := Lib.hid (ST.out.ext (below_drewN (Below.refl _ _) nq))
        clear HL11 c11 x0 x1 ST K1
        generalize w2.drewN nq = w11 at *
        go_wp2_with fail
        refine (put7_any (S11.out.rows.at_.row r hr) (xb : Int)).mono ?_
        rintro e w12 ⟨rfl, hm12, hk12⟩
        obtain ⟨hr12, hrel12⟩ := S11.out.rows.putted hr hbn.out hm12 hk12
        have S12 := Lib.hid (S11.out.wrote hr hr12 hk12)
        have R12 : Hid (relT (updT T r.i (putM n r.ws (xb : Int))) = memL (L.take (k + 1))) := by
          funext a b
          rw [hrel12, RELb.out, hLt.out, memL_snoc, hri]
        have I12 := updT_i (T) r.i (putM n r.ws (xb : Int))
        clear hm12 hk12 hr12 hrel12 S11
        generalize updT (T) r.i (putM n r.ws (xb : Int)) = T12 at *
        go_wp2_with fail
        go_roundw
        case rel => exact ⟨k + 1, T12, _, by omega, by have := congrArg List.length I12; simp at this; omega, by go_num, by rw [I12]; exact FI, S12.out, R12.out⟩
        case measure => simp [intOf]; omega
    · have hk' : k = L.length := by omega
      subst hk'
      have hlk : ¬ ((L.length : Int) < (L.length : Int)) := by omega
      rw [List.take_length] at REL
      have HFF : Hid (∀ a b, memL L a b = true → a ∈ F) := fun a b h => by
        rw [← REL.out] at h
        unfold relT at h
        obtain ⟨r, hr, h2⟩ := List.any_eq_true.1 h
        simp only [Bool.and_eq_true, beq_iff_eq] at h2
        rw [← FI, ← h2.1]
        exact List.mem_map.2 ⟨r, hr, rfl⟩
      have hF : F.length ≤ 1000000 := by have := congrArg List.length FI; simp at this; omega
      have hFn : Hid (∀ i ∈ F, i < n) := fun i hi => by
        rw [← FI] at hi
        obtain ⟨r, hr, rfl⟩ := List.mem_map.1 hi
        exact ST.out.rows.at_.lt r hr
      obtain ⟨AF, cF, rfl, _, _⟩ := Sl.of_own ST.out.own
      have RT0 : Hid (relT T = cloK F (F.take 0) (memL L)) := REL.out
      clear REL hTk S
      go_wp2_with fail
      go_loopw [72] (fun i w2 => ∃ (p : Nat) (T : List Row7), p ≤ F.length ∧ i = .int .i64 p ∧ T.map (·.i) = F ∧ Hid (St8 w w2 gr n T F (.slice AF F.length cF)) ∧ Hid (relT T = cloK F (F.take p) (memL L))) (fun i _ => F.length - (intOf i).toNat)
      case atStart => exact ⟨0, T, by omega, rfl, FI, ST.out, RT0.out⟩
      case round =>
        clear RT0 ST FI
        obtain ⟨p, T, hp, rfl, FI, ST, RT⟩ := hrel
        have hp0 : (0 : Int) ≤ (p : Int) := by omega
        by_cases hpl : p < F.length
        · have hpk : (p : Int) < (F.length : Int) := by omega
          obtain ⟨A2, c2, e2, _, sl⟩ := Sl.of_own ST.out.own
          injection e2 with e3 _ e4
          subst e3 e4
          obtain ⟨b, o, u, rfl, hb, hu, hcell⟩ := sl.at_ hpl
          have hu' : u = .int .i64 (F[p] : Int) := by
            unfold encN at hu
            rw [List.getElem?_map, List.getElem?_eq_getElem hpl] at hu
            exact (Option.some.inj hu).symm
          subst hu'
          have hFt : Hid (F.take (p + 1) = F.take p ++ [F[p]]) := by rw [Hid, List.take_add_one, List.getElem?_eq_getElem hpl]; rfl
          have hkn : Hid (F[p] < n) := hFn.out _ (List.getElem_mem hpl)
          have hkF : Hid (F[p] ∈ F) := List.getElem_mem hpl
          generalize F[p] = kk at *
          have RT0 : Hid (relT T = sweep (F.take 0) (cloK F (F.take p) (memL L)) kk) := by rw [List.take_zero, sweep_nil]; exact RT.out
          clear hu sl RT
          go_wp2_with fail
          go_loopw [78] (fun i w3 => ∃ (q : Nat) (T : List Row7), q ≤ F.length ∧ i = .int .i64 q ∧ T.map (·.i) = F ∧ Hid (St8 w w3 gr n T F (.slice (some ⟨b, o, none⟩) F.length cF)) ∧ Hid (relT T = sweep (F.take q) (cloK F (F.take p) (memL L)) kk)) (fun i _ => F.length - (intOf i).toNat)
          case atStart => exact ⟨0, T, by omega, rfl, FI, ST.out, RT0.out⟩
          case round =>
            clear RT0 ST FI hcell hb
            obtain ⟨q, T, hq, rfl, FI, ST, RT⟩ := hrel
            have hq0 : (0 : Int) ≤ (q : Int) := by omega
            by_cases hql : q < F.length
            · have hqk : (q : Int) < (F.length : Int) := by omega
              obtain ⟨A2, c3, e2, _, sl⟩ := Sl.of_own ST.out.own
              injection e2 with e3 _ e4
              subst e3 e4
              obtain ⟨b', o', u, e5, hb, hu, hcell⟩ := sl.at_ hql
              injection e5 with e5
              injection e5 with e5 e6 _
              subst e5 e6
              have hu' : u = .int .i64 (F[q] : Int) := by
                unfold encN at hu
                rw [List.getElem?_map, List.getElem?_eq_getElem hql] at hu
                exact (Option.some.inj hu).symm
              subst hu'
              have hFq : Hid (F.take (q + 1) = F.take q ++ [F[q]]) := by rw [Hid, List.take_add_one, List.getElem?_eq_getElem hql]; rfl
              have hin : Hid (F[q] < n) := hFn.out _ (List.getElem_mem hql)
              obtain ⟨r, hr, hri⟩ := row_of (T := T) (i := F[q]) (by rw [FI]; exact List.getElem_mem hql)
              obtain ⟨s, hs, hsi⟩ := row_of (T := T) (i := kk) (by rw [FI]; exact hkF.out)
              generalize F[q] = ii at *
              subst hri hsi
              clear hu sl hb
              have LK := Lib.hid (fun t ht => ST.out.rows.at_.lookRow (r := t) ht hn0.out)
              have HR := Lib.hid ((LK.out r hr) _ rfl)
              have HH := Lib.hid (has7_any (ST.out.rows.at_.row r hr) (s.i : Int))
              rw [hasM_clean (ST.out.rows.at_.cl r hr), ← ST.out.rows.at_.rel hr] at HH
              have c1 := ST.out.cellM
              cases hrs : relT T r.i s.i
              · rw [hrs] at HH
                have RT2 : Hid (relT T = sweep (F.take (q + 1)) (cloK F (F.take p) (memL L)) s.i) := by
                  rw [Hid, hFq.out, sweep_snoc, ← RT.out, orRow_no hrs]
                clear RT hrs LK
                go_wp2_with (refine wpList_lookG (by rfl) (by rfl) (by rfl) HR.out ?_)
                refine HH.out.mono ?_
                rintro e w5 ⟨rfl, rfl⟩
                go_wp2_with fail
                go_roundw
                case rel => exact ⟨q + 1, T, by omega, by go_num, FI, ST.out, RT2.out⟩
                case measure => simp [intOf]; omega
              · rw [hrs] at HH
                go_wp2_with (refine wpList_lookG (by rfl) (by rfl) (by rfl) HR.out ?_)
                refine HH.out.mono ?_
                rintro e w3 ⟨rfl, rfl⟩
                go_upto_region 20 with fail
                have HL1 : Hid (∀ w' : World, (∃ k, w' = wr.drewN k) → (Instr.lookup 130 (.map (some w.heap.size)) (.int .i64 (r.i : Int)) false).run Tryz.prog w' = .ok (.pointer (some ⟨r.g, 0, none⟩)) w') := by
                  rintro _ ⟨k, rfl⟩; exact LK.out r hr _ rfl
                have HL2 : Hid (∀ w' : World, (∃ k, w' = wr.drewN k) → (Instr.lookup 130 (.map (some w.heap.size)) (.int .i64 (s.i : Int)) false).run Tryz.prog w' = .ok (.pointer (some ⟨s.g, 0, none⟩)) w') := by
                  rintro _ ⟨k, rfl⟩; exact LK.out s hs _ rfl
                clear HR HH LK
                refine wp_region_drawn 12 (by kernel_rfl) (by kernel_rfl) ?_
                simp only [List.take_succ_cons, List.take_zero, List.drop_succ_cons, List.drop_zero]
                repeat (first
                  | (refine wpQuiet_look HL1.out rfl rfl rfl ?_; simp only [List.set_cons_succ, List.set_cons_zero])
                  | (refine wpQuiet_look HL2.out rfl rfl rfl ?_; simp only [List.set_cons_succ, List.set_cons_zero])
                  | go_big_quiet_step (fail))
                refine wpQuiet_nil ?_
                rintro _ ⟨nq, rfl⟩
                have S11 := Lib.hid (ST.out.ext (below_drewN (Below.refl _ _) nq))
                clear HL1 HL2 c1 hcell ST
                generalize wr.drewN nq = w11 at *
                have HO : Hid (Calls Tryz.prog 97 #[.pointer (some ⟨r.g, 0, none⟩), .pointer (some ⟨s.g, 0, none⟩)] w11 (RetOr w11 r.g r.gw n (orW r.ws s.ws n))) := S11.out.rows.at_.or_any hr hs
                go_wp2_with fail
                refine HO.out.mono ?_
                rintro e w12 ⟨bb, rfl, hm12, hk12⟩
                obtain ⟨hr12, hrel12⟩ := S11.out.rows.ored hr hs hm12 hk12 hrs
                have S12 := Lib.hid (S11.out.wrote hr hr12 hk12)
                have RT2 : Hid (relT (updT T r.i (orW r.ws s.ws n)) = sweep (F.take (q + 1)) (cloK F (F.take p) (memL L)) s.i) := by
                  rw [Hid, hrel12, hFq.out, sweep_snoc, ← RT.out]
                have I12 := updT_i T r.i (orW r.ws s.ws n)
                clear hm12 hk12 hr12 hrel12 S11 HO RT
                generalize updT T r.i (orW r.ws s.ws n) = T12 at *
                go_wp2_with fail
                go_roundw
                case rel => exact ⟨q + 1, T12, by omega, by go_num, by rw [I12]; exact FI, S12.out, RT2.out⟩
                case measure => simp [intOf]; omega
            · have hq' : q = F.length := by omega
              subst hq'
              have hqk : ¬ ((F.length : Int) < (F.length : Int)) := by omega
              rw [List.take_length] at RT
              have RT2 : Hid (relT T = cloK F (F.take (p + 1)) (memL L)) := by rw [Hid, hFt.out, cloK_snoc]; exact RT.out
              clear RT
              go_wp2_with fail
              go_roundw
              case rel => exact ⟨p + 1, T, by omega, by go_num, FI, ST.out, RT2.out⟩
              case measure => simp [intOf]; omega
        · have hp' : p = F.length := by omega
          subst hp'
          have hpk : ¬ ((F.length : Int) < (F.length : Int)) := by omega
          rw [List.take_length] at RT
          go_wp2
          go_ret
          refine ⟨gr, relT T, rfl, ⟨hn0.out, w.heap.size, T, ST.out.blk, ST.out.rows.at_, fun _ _ => rfl⟩, fun a b => ?_, hgr.out, ST.out.below⟩
          rw [RT.out]
          refine (clo_iff HFF.out a b).trans ?_
          exact Via.congr fun x y => by unfold memL; simp
end Go.Proofs.YtnhbbggpgieipaaGreat
