/- Texts of general use, one behind another. -/
import Derived.Test.YtnhbbggpgieipaaGreatRels
import Derived.Test.YtnhbbggpgieipaaGreatReache

/- Of each thing all that is ahead of it: walked. -/
namespace Go.Proofs.YtnhbbggpgieipaaGreat
open Go.RowKit

theorem made1 {z : Value} (hz : z.cells = #[z]) (k : Nat) : (madeCells z.cells (k * 1)).toList = List.replicate k z := by
  apply List.ext_getElem?
  intro j
  simp only [madeCells, Nat.mul_one, hz]
  rcases Nat.lt_or_ge j k with h | h
  · simp [h, Nat.mod_one]
  · rw [List.getElem?_eq_none (by simpa using h), List.getElem?_eq_none (by simpa using h)]
theorem roomM_nat {n : Nat} (h : n ≤ 65536) : roomM (n : Int) = n := by unfold roomM; omega
theorem putM_bit {n : Nat} {ws : List Nat} (hok : WsOk n ws) {b : Nat} (hb : b < n) (y : Nat) : bitAt (putM n ws (b : Int)) y = (bitAt ws y || decide (b = y)) := by
  unfold putM newM
  rw [decide_eq_true (show (0 : Int) ≤ (b : Int) by omega), decide_eq_true (show (b : Int) < (n : Int) by omega), Int.toNat_natCast]
  cases hbit : bitAt ws b
  · simp only [Bool.not_false, Bool.and_self, if_true]
    exact bit_putW hok hb y
  · simp only [Bool.not_true, Bool.and_false, Bool.false_eq_true, if_false]
    by_cases hy : b = y
    · subst hy; rw [hbit]; rfl
    · rw [decide_eq_false hy, Bool.or_false]
theorem putM_clean {n : Nat} {ws : List Nat} (hok : WsOk n ws) (hc : CleanW n ws) {b : Nat} (hb : b < n) : CleanW n (putM n ws (b : Int)) := fun i hi => by
  rw [putM_bit hok hb, hc i hi, decide_eq_false (by omega)]; rfl
/-- the sets' pointers, as many as there are so far -/
def encP7 (M : List Row7) (n : Nat) : List Value := (M.map fun r => Value.pointer (some ⟨r.g, 0, none⟩)) ++ List.replicate (n - M.length) (.pointer none)
theorem encP7_put {M : List Row7} {n : Nat} (r : Row7) (h : M.length < n) : (encP7 M n).set M.length (.pointer (some ⟨r.g, 0, none⟩)) = encP7 (M ++ [r]) n := by
  unfold encP7
  obtain ⟨m, hm⟩ : ∃ m, n - M.length = m + 1 := ⟨n - M.length - 1, by omega⟩
  have hm2 : n - (M ++ [r]).length = m := by rw [List.length_append]; simp; omega
  rw [hm, hm2, List.set_append_right _ _ (by simp)]
  simp [List.replicate_succ]
theorem encP7_new {M : List Row7} {n : Nat} (h : M.length < n) : (encP7 M n)[M.length]? = some (.pointer none) := by
  unfold encP7
  rw [List.getElem?_append_right (by rw [List.length_map]; exact Nat.le_refl _), List.length_map, Nat.sub_self, List.getElem?_replicate, if_pos (by omega)]
theorem encP7_get {M : List Row7} {n k : Nat} {r : Row7} (h : M[k]? = some r) : (encP7 M n)[k]? = some (.pointer (some ⟨r.g, 0, none⟩)) := by
  unfold encP7
  have hk := (List.getElem?_eq_some_iff.1 h).1
  rw [List.getElem?_append_left (by simpa using hk), List.getElem?_map, h]; rfl
/-- a thing's set as it lies -/
structure AhRow (w : World) (B n : Nat) (R : Nat → Nat → Bool) (k : Nat) (r : Row7) : Prop where
  at_ : MaskAt w r.g r.gw n r.ws
  cl : CleanW n r.ws
  bit : ∀ x, x < n → bitAt r.ws x = befR R x k
  ge : B ≤ r.g ∧ B ≤ r.gw
structure AhAt (w : World) (B b n : Nat) (R : Nat → Nat → Bool) (M : List Row7) : Prop where
  own : w.ownsRow B 133 1 (.slice (some ⟨b, 0, none⟩) n n) n (encP7 M n)
  row : ∀ (k : Nat) (r : Row7), M[k]? = some r → AhRow w B n R k r
/-- while one thing's set is filled -/
structure AhMid (w : World) (B b n : Nat) (R : Nat → Nat → Bool) (M : List Row7) (r : Row7) (j : Nat) : Prop where
  own : w.ownsRow B 133 1 (.slice (some ⟨b, 0, none⟩) n n) n (encP7 (M ++ [r]) n)
  row : ∀ (k : Nat) (s : Row7), M[k]? = some s → AhRow w B n R k s
  at_ : MaskAt w r.g r.gw n r.ws
  cl : CleanW n r.ws
  bit : ∀ x, x < n → bitAt r.ws x = (decide (x < j) && befR R x M.length)
  ge : B ≤ r.g ∧ B ≤ r.gw
  ne : ∀ (k : Nat) (s : Row7), M[k]? = some s → s.gw ≠ r.gw
section
variable {w w' : World} {B b n : Nat} {R : Nat → Nat → Bool} {M : List Row7} {r : Row7} {k j : Nat}
theorem AhRow.keep (h : AhRow w B n R k r) (h1 : w'.heap[r.g]? = w.heap[r.g]?) (h2 : w'.heap[r.gw]? = w.heap[r.gw]?) : AhRow w' B n R k r := ⟨h.at_.keep h1 h2, h.cl, h.bit, h.ge⟩
theorem AhAt.ext (h : AhAt w B b n R M) (hb : Below w.heap.size w w') : AhAt w' B b n R M :=
  ⟨own_ext h.own hb, fun k r hr => (h.row k r hr).keep (hb.block _ (h.row k r hr).at_.lt.1) (hb.block _ (h.row k r hr).at_.lt.2)⟩
/-- a write into another set leaves them -/
theorem AhAt.keepW (h : AhAt w B b n R M) {gT gwT : Nat} {ws : List Nat} (hm : MaskAt w gT gwT n ws) (hne : ∀ (k : Nat) (r : Row7), M[k]? = some r → r.gw ≠ gwT) (hk : Kept (fun k => k = gwT) w w') : AhAt w' B b n R M := by
  refine ⟨own_keepF h.own fun k e => hk.block k (h.own.lt k e).2 (own_ne_own h.own hm.own (by decide) e rfl), fun k r hr => ?_⟩
  have hr2 := h.row k r hr
  exact hr2.keep (hk.block _ hr2.at_.lt.1 (own_ne_blk hm.own hr2.at_.blk (by decide) rfl).symm) (hk.block _ hr2.at_.lt.2 (hne k r hr))
theorem AhMid.ext (h : AhMid w B b n R M r j) (hb : Below w.heap.size w w') : AhMid w' B b n R M r j :=
  ⟨own_ext h.own hb, fun k r hr => (h.row k r hr).keep (hb.block _ (h.row k r hr).at_.lt.1) (hb.block _ (h.row k r hr).at_.lt.2), h.at_.ext hb, h.cl, h.bit, h.ge, h.ne⟩
theorem AhMid.skip (h : AhMid w B b n R M r j) (hb : befR R j M.length = false) : AhMid w B b n R M r (j + 1) :=
  ⟨h.own, h.row, h.at_, h.cl, fun x hx => by
    rw [h.bit x hx]
    by_cases e : x = j
    · subst e; rw [hb, Bool.and_false, Bool.and_false]
    · congr 1; rw [decide_eq_decide]; omega, h.ge, h.ne⟩
theorem AhMid.put (h : AhMid w B b n R M r j) (hj : j < n) (hb : befR R j M.length = true) (hm : MaskAt w' r.g r.gw n (putM n r.ws (j : Int))) (hk : Kept (fun k => k = r.gw) w w') : AhMid w' B b n R M ⟨r.i, r.g, r.gw, putM n r.ws (j : Int)⟩ (j + 1) := by
  refine ⟨?_, fun k s hs => ?_, hm, putM_clean h.at_.ok h.cl hj, fun x hx => ?_, h.ge, h.ne⟩
  · have e : encP7 (M ++ [⟨r.i, r.g, r.gw, putM n r.ws (j : Int)⟩]) n = encP7 (M ++ [r]) n := by unfold encP7; simp
    rw [e]
    exact own_keepF h.own fun k e => hk.block k (h.own.lt k e).2 (own_ne_own h.own h.at_.own (by decide) e rfl)
  · have hs2 := h.row k s hs
    exact hs2.keep (hk.block _ hs2.at_.lt.1 (own_ne_blk h.at_.own hs2.at_.blk (by decide) rfl).symm) (hk.block _ hs2.at_.lt.2 (h.ne k s hs))
  · show bitAt (putM n r.ws (j : Int)) x = _
    rw [putM_bit h.at_.ok hj, h.bit x hx]
    by_cases e : j = x
    · subst e; rw [hb]; simp
    · rw [decide_eq_false e, Bool.or_false]
      congr 1; rw [decide_eq_decide]; omega
theorem AhMid.done (h : AhMid w B b n R M r n) : AhAt w B b n R (M ++ [r]) := by
  refine ⟨h.own, fun k s hs => ?_⟩
  rcases Nat.lt_or_ge k M.length with hk | hk
  · rw [List.getElem?_append_left hk] at hs
    exact h.row k s hs
  · rw [List.getElem?_append_right hk] at hs
    obtain ⟨hk2, e⟩ := List.getElem?_eq_some_iff.1 hs
    have hk3 : k = M.length := by simp at hk2; omega
    subst hk3
    have e2 : s = r := by rw [← e]; simp
    subst e2
    exact ⟨h.at_, h.cl, fun x hx => by rw [h.bit x hx, decide_eq_true hx, Bool.true_and], h.ge⟩
theorem AhAt.len (h : AhAt w B b n R M) : M.length ≤ n := by
  have := h.own.1
  unfold encP7 at this
  rw [List.length_append, List.length_map, List.length_replicate] at this
  omega
end
def RetAh (w : World) (n : Nat) (R : Nat → Nat → Bool) (e : Ending) (w' : World) : Prop :=
  ∃ b M, e = .returned (.slice (some ⟨b, 0, none⟩) n n) ∧ M.length = n ∧ AhAt w' w.heap.size b n R M ∧ Below w.heap.size w w'
set_option maxRecDepth 100000 in
set_option maxHeartbeats 4000000 in
theorem ahead9_any {w : World} {g n : Nat} {R : Nat → Nat → Bool} (h : RelAt w g n R) : Calls Tryz.prog 98 #[.pointer (some ⟨g, 0, none⟩)] w (RetAh w n R) := by
  have hn0 := h.1
  have hinfo : (Tryz.prog.info? 133).map (fun i => (i.zero, i.size, i.bytes)) = some (some (.pointer none), 1, 8) := by kernel_rfl
  obtain ⟨i, hi, hzz⟩ := Option.map_eq_some_iff.1 hinfo
  simp only [Prod.mk.injEq] at hzz
  obtain ⟨hz, hsz, hby⟩ := hzz
  clear hinfo
  have H := Lib.hid h
  have HL := Lib.hid (len8_any h)
  clear h
  go_enter Tryz.func98, Tryz.ntmps98
  go_wp2_with fail
  refine HL.out.mono ?_
  rintro e w1 ⟨rfl, rfl⟩
  go_wp2_with (at_make; refine wpList_make_full _ rfl _ _ 136 rfl w.heap.size 133 i (.pointer none) 1 Tryz.underlying136 hi hz hsz _ _ _ _ n (by rfl) (by rfl) rfl rfl (by rw [hby]; omega) (by unfold maxLen; omega) (Nat.le_refl _) ?_; intro w1 own1 gr1)
  rw [made1 rfl] at own1
  have B1 : Hid (Below w.heap.size w w1) := ⟨gr1.os, gr1.tape, gr1.output, gr1.size, fun k hk => gr1.block k hk (by simp)⟩
  have A0 : Hid (AhAt w1 w.heap.size w.heap.size n R []) := ⟨own1, fun k r hr => by simp at hr⟩
  clear own1 gr1 hi hz hsz hby HL
  obtain ⟨b, hgb⟩ : ∃ g, g = w.heap.size := ⟨_, rfl⟩
  rw [← hgb] at A0 ⊢
  replace hgb := Lib.hid hgb
  go_loopw [11] (fun v wr => ∃ (i : Nat) (M : List Row7), i ≤ n ∧ v = .int .i64 i ∧ M.length = i ∧ Hid (AhAt wr b b n R M) ∧ Hid (Below w.heap.size w wr)) (fun v _ => n - (intOf v).toNat)
  case atStart => exact ⟨0, [], by omega, rfl, rfl, A0.out, B1.out⟩
  case round =>
    clear A0 B1
    obtain ⟨i, M, hin, rfl, hM, A, BB⟩ := hrel
    have hi0 : (0 : Int) ≤ (i : Int) := by omega
    by_cases hlt : i < n
    · have hlk : (i : Int) < (n : Int) := by omega
      have HL := Lib.hid (len8_any (H.out.ext BB.out))
      have HN : Hid (Calls Tryz.prog 94 #[.int .i64 (n : Int)] wr (RetMask wr n (zeroW n))) := by
        have := new7_any (n : Int) wr
        rwa [roomM_nat hn0] at this
      go_wp2_with fail
      refine HL.out.mono ?_
      rintro e w2 ⟨rfl, rfl⟩
      go_wp2_with fail
      refine HN.out.mono ?_
      rintro e w2 ⟨g2, gw2, rfl, hm, hg1, hg2, b2⟩
      have A2 := Lib.hid (A.out.ext b2)
      have BB2 := Lib.hid (BB.out.trans (b2.mono BB.out.size))
      have hc : w2.cell? ⟨b, i, none⟩ = some (.pointer none) := by
        rw [A2.out.own.cellAt i (by omega), ← hM]
        exact encP7_new (by omega)
      have hf : w2.frozen? ⟨b, i, none⟩ = false := A2.out.own.frozenAt _
      have M3 : Hid (AhMid (w2.setCell ⟨b, i, none⟩ (.pointer (some ⟨g2, 0, none⟩))) b b n R M ⟨i, g2, gw2, zeroW n⟩ 0) := by
        have hset := (A2.out.own.stored i (.pointer (some ⟨g2, 0, none⟩))).1
        have hKb : Kept (fun k => k = b) w2 (w2.setCell ⟨b, i, none⟩ (.pointer (some ⟨g2, 0, none⟩))) := (Kept.refl (fun k => k = b) w2).setCell (p := ⟨b, i, none⟩) (.inl rfl) _
        have e : (encP7 M n).set i (.pointer (some ⟨g2, 0, none⟩)) = encP7 (M ++ [⟨i, g2, gw2, zeroW n⟩]) n := by
          rw [← hM]; exact encP7_put ⟨M.length, g2, gw2, zeroW n⟩ (by omega)
        rw [e] at hset
        have hbs : b ≤ wr.heap.size := by rw [hgb.out]; exact BB.out.size
        refine ⟨hset, fun k s hs => ?_, ?_, CleanW.zero n, fun x hx => by rw [zeroW_bit]; simp, ⟨Nat.le_trans hbs hg1, Nat.le_trans hbs hg2⟩, fun k s hs => ?_⟩
        · have h2 := A2.out.row k s hs
          exact h2.keep (hKb.block _ h2.at_.lt.1 (own_ne_blk A2.out.own h2.at_.blk (by decide) rfl).symm) (hKb.block _ h2.at_.lt.2 (own_ne_own h2.at_.own A2.out.own (by decide) rfl rfl))
        · exact hm.keep (hKb.block _ hm.lt.1 (own_ne_blk A2.out.own hm.blk (by decide) rfl).symm) (hKb.block _ hm.lt.2 (own_ne_own hm.own A2.out.own (by decide) rfl rfl))
        · have h2 := (A.out.row k s hs).at_.lt.2
          show s.gw ≠ gw2
          omega
      have BB3 : Hid (Below w.heap.size w (w2.setCell ⟨b, i, none⟩ (.pointer (some ⟨g2, 0, none⟩)))) := BB2.out.setCell (p := ⟨b, i, none⟩) (by rw [← hgb.out]; exact Nat.le_refl _) _
      clear hm hg1 hg2 b2 A2 BB2 A BB HL HN
      go_wp2_with fail
      clear hc hf
      generalize w2.setCell ⟨b, i, none⟩ (.pointer (some ⟨g2, 0, none⟩)) = w3 at *
      go_loopw [22] (fun v wr => ∃ (j : Nat) (ws : List Nat), j ≤ n ∧ v = .int .i64 j ∧ Hid (AhMid wr b b n R M ⟨i, g2, gw2, ws⟩ j) ∧ Hid (Below w.heap.size w wr)) (fun v _ => n - (intOf v).toNat)
      case atStart => exact ⟨0, _, by omega, rfl, M3.out, BB3.out⟩
      case round =>
        clear M3 BB3
        obtain ⟨j, ws, hjn, rfl, MM, BB⟩ := hrel
        have hj0 : (0 : Int) ≤ (j : Int) := by omega
        by_cases hjl : j < n
        · have hjk : (j : Int) < (n : Int) := by omega
          have HB := Lib.hid (before8_any (H.out.ext BB.out) j i (by omega) (by omega))
          cases hb : befR R j i
          · rw [hb] at HB
            have M2 := Lib.hid (MM.out.skip (by rw [hM]; exact hb))
            go_wp2_with fail
            refine HB.out.mono ?_
            rintro e w4 ⟨rfl, rfl⟩
            go_wp2_with fail
            go_roundw
            case rel => exact ⟨j + 1, ws, by omega, by go_num, M2.out, BB.out⟩
            case measure => simp [intOf]; omega
          · rw [hb] at HB
            have HP := Lib.hid (put7_any MM.out.at_ (j : Int))
            have hc : wr.cell? ⟨b, i, none⟩ = some (.pointer (some ⟨g2, 0, none⟩)) := by
              rw [MM.out.own.cellAt i (by omega)]
              exact encP7_get (r := ⟨i, g2, gw2, ws⟩) (by rw [← hM]; simp)
            go_wp2_with fail
            refine HB.out.mono ?_
            rintro e w4 ⟨rfl, rfl⟩
            go_wp2_with fail
            refine HP.out.mono ?_
            rintro e w4 ⟨rfl, hm4, hk4⟩
            have M2 := Lib.hid (MM.out.put hjl (by rw [hM]; exact hb) hm4 hk4)
            have B2 : Hid (Below w.heap.size w w4) := BB.out.trans (hk4.below (fun k e => by rw [e, ← hgb.out]; exact MM.out.ge.2) BB.out.size)
            clear hm4 hk4 MM BB HB HP hc
            go_wp2_with fail
            go_roundw
            case rel => exact ⟨j + 1, _, by omega, by go_num, M2.out, B2.out⟩
            case measure => simp [intOf]; omega
        · have hjk : ¬ (j : Int) < (n : Int) := by omega
          obtain rfl : j = n := by omega
          have A2 := Lib.hid MM.out.done
          go_wp2_with fail
          go_roundw
          case rel => exact ⟨i + 1, M ++ [Row7.mk i g2 gw2 ws], by omega, by go_num, by rw [List.length_append, hM]; rfl, A2.out, BB.out⟩
          case measure => simp [intOf]; omega
    · have hlk : ¬ (i : Int) < (n : Int) := by omega
      go_wp2
      go_ret
      exact ⟨b, M, rfl, by omega, by rw [← hgb.out]; exact A.out, BB.out⟩
end Go.Proofs.YtnhbbggpgieipaaGreat

/- The document's relation: a thing in a list; steps that fit: walked. -/
namespace Go.Proofs.YtnhbbggpgieipaaGreat
open Go.RowKit

/-- the document's relation, as a value -/
def rel8V (n : Nat) (A : Option Addr) (m c : Nat) : Array Value := #[.int .i64 (n : Int), .slice A m c]
theorem stepSl : SlT Tryz.prog 102 103 2 16 := slT_of Tryz.underlying102 (z := .agg #[.int .i64 0, .int .i64 0]) (by kernel_rfl) rfl (by omega)
def RetR8 (w : World) (n : Nat) (L : List (Nat × Nat)) (e : Ending) (w' : World) : Prop :=
  ∃ A c, e = .returned (.agg (rel8V n A L.length c)) ∧ Sl w' w'.heap.size 2 A L.length (L.flatMap encS) ∧ Below w.heap.size w w'
end Go.Proofs.YtnhbbggpgieipaaGreat

/- What lies behind a thing, in the document's relation: plain law; walked. -/
namespace Go.Proofs.YtnhbbggpgieipaaGreat
open Go.RowKit

/-- a list of things behind one, not all of them yet -/
structure BehI (L : List (Nat × Nat)) (i : Int) (out : List Nat) : Prop where
  nodup : out.Nodup
  sound : ∀ y ∈ out, 0 ≤ i ∧ ViaL L i.toNat y
  sub : ∀ y ∈ out, ∃ x ∈ L, x.2 = y
theorem BehI.nil (L : List (Nat × Nat)) (i : Int) : BehI L i [] := ⟨List.nodup_nil, by simp, by simp⟩
theorem BehI.len {L : List (Nat × Nat)} {i : Int} {out : List Nat} (h : BehI L i out) : out.length ≤ L.length := by
  have := h.nodup.length_le_of_subset (l₂ := L.map (·.2)) fun y hy => by
    obtain ⟨x, hx, e⟩ := h.sub y hy
    exact List.mem_map.2 ⟨x, hx, e⟩
  rwa [List.length_map] at this
theorem BehI.first {L : List (Nat × Nat)} {i : Int} {out : List Nat} (h : BehI L i out) {x : Nat × Nat} (hx : x ∈ L) (hi : (x.1 : Int) = i) (hn : x.2 ∉ out) : BehI L i (out ++ [x.2]) := by
  refine ⟨List.nodup_append.2 ⟨h.nodup, List.nodup_cons.2 ⟨by simp, List.nodup_nil⟩, fun a ha b hb => ?_⟩, fun y hy => ?_, fun y hy => ?_⟩
  · rw [List.mem_singleton] at hb; subst hb; rintro rfl; exact hn ha
  · rcases List.mem_append.1 hy with hy | hy
    · exact h.sound y hy
    · rw [List.mem_singleton] at hy
      subst hy hi
      exact ⟨by omega, .edge (by rw [Int.toNat_natCast]; exact hx)⟩
  · rcases List.mem_append.1 hy with hy | hy
    · exact h.sub y hy
    · rw [List.mem_singleton] at hy; exact ⟨x, hx, hy.symm⟩
theorem BehI.more {L : List (Nat × Nat)} {i : Int} {out : List Nat} (h : BehI L i out) {x : Nat × Nat} (hx : x ∈ L) (hi : x.1 ∈ out) (hn : x.2 ∉ out) : BehI L i (out ++ [x.2]) := by
  refine ⟨List.nodup_append.2 ⟨h.nodup, List.nodup_cons.2 ⟨by simp, List.nodup_nil⟩, fun a ha b hb => ?_⟩, fun y hy => ?_, fun y hy => ?_⟩
  · rw [List.mem_singleton] at hb; subst hb; rintro rfl; exact hn ha
  · rcases List.mem_append.1 hy with hy | hy
    · exact h.sound y hy
    · rw [List.mem_singleton] at hy
      subst hy
      obtain ⟨h1, h2⟩ := h.sound _ hi
      exact ⟨h1, h2.trans trivial (.edge hx)⟩
  · rcases List.mem_append.1 hy with hy | hy
    · exact h.sub y hy
    · rw [List.mem_singleton] at hy; exact ⟨x, hx, hy.symm⟩
theorem via_closed {L : List (Nat × Nat)} {out : List Nat} (hc : ∀ y ∈ out, ∀ x ∈ L, x.1 = y → x.2 ∈ out) {a b : Nat} (h : ViaL L a b) (ha : ∀ x ∈ L, x.1 = a → x.2 ∈ out) : b ∈ out := by
  unfold ViaL at h
  induction h with
  | edge e => exact ha _ e rfl
  | step e _ _ ih => exact ih (fun x hx hx2 => hc _ (ha _ e rfl) x hx hx2)
theorem BehI.whole {L : List (Nat × Nat)} {i : Int} {out : List Nat} (h : BehI L i out) (h1 : ∀ x ∈ L, (x.1 : Int) = i → x.2 ∈ out) (hc : ∀ y ∈ out, ∀ x ∈ L, x.1 = y → x.2 ∈ out) (y : Nat) : y ∈ out ↔ 0 ≤ i ∧ ViaL L i.toNat y :=
  ⟨h.sound y, fun ⟨h0, hv⟩ => via_closed hc hv fun x hx e => h1 x hx (by omega)⟩
/-- what stands while the first things are looked for -/
def FirstK (L : List (Nat × Nat)) (i : Int) (k : Nat) (out : List Nat) : Prop := ∀ x ∈ L.take k, (x.1 : Int) = i → x.2 ∈ out
def ClosK (L : List (Nat × Nat)) (p : Nat) (out : List Nat) : Prop := ∀ y ∈ out.take p, ∀ x ∈ L, x.1 = y → x.2 ∈ out
theorem FirstK.zero (L : List (Nat × Nat)) (i : Int) (out : List Nat) : FirstK L i 0 out := by intro x hx; simp at hx
theorem ClosK.zero (L : List (Nat × Nat)) (out : List Nat) : ClosK L 0 out := by intro x hx; simp at hx
theorem FirstK.step {L : List (Nat × Nat)} {i : Int} {k : Nat} {out out' : List Nat} (h : FirstK L i k out) (hk : k < L.length) (hs : ∀ y ∈ out, y ∈ out') (hx : (L[k].1 : Int) = i → L[k].2 ∈ out') : FirstK L i (k + 1) out' := by
  intro x hx2 e
  rw [List.take_add_one, List.getElem?_eq_getElem hk] at hx2
  rcases List.mem_append.1 hx2 with h1 | h1
  · exact hs _ (h x h1 e)
  · simp only [Option.toList, List.mem_singleton] at h1
    subst h1; exact hx e
theorem FirstK.more {L : List (Nat × Nat)} {i : Int} {k : Nat} {out : List Nat} (h : FirstK L i k out) (z : Nat) : FirstK L i k (out ++ [z]) := fun x hx e => List.mem_append_left _ (h x hx e)
theorem ClosK.more {L : List (Nat × Nat)} {p : Nat} {out : List Nat} (h : ClosK L p out) (hp : p ≤ out.length) (z : Nat) : ClosK L p (out ++ [z]) := fun y hy x hx e => by
  rw [List.take_append_of_le_length hp] at hy
  exact List.mem_append_left _ (h y hy x hx e)
theorem ClosK.step {L : List (Nat × Nat)} {p y : Nat} {out : List Nat} (h : ClosK L p out) (hp : out[p]? = some y) (hf : FirstK L (y : Int) L.length out) : ClosK L (p + 1) out := fun z hz x hx e => by
  rw [List.take_add_one, hp] at hz
  rcases List.mem_append.1 hz with h1 | h1
  · exact h z h1 x hx e
  · simp only [Option.toList, List.mem_singleton] at h1
    subst h1
    exact hf x (by rw [List.take_length]; exact hx) (by omega)
theorem encN_snoc (F : List Nat) (x : Nat) : encN (F ++ [x]) = encN F ++ [.int .i64 (x : Int)] := by unfold encN; rw [List.map_append]; rfl
end Go.Proofs.YtnhbbggpgieipaaGreat

/- The document's relation: whether steps lead from one thing to another one, the least alike: walked. -/
namespace Go.Proofs.YtnhbbggpgieipaaGreat
open Go.RowKit

/-- the document's relation as a value -/
def R8At (w : World) (v : Value) (n : Nat) (R : Nat → Nat → Bool) : Prop :=
  n ≤ 65536 ∧ ∃ A c L, v = .agg (rel8V n A L.length c) ∧ L.length ≤ 1000000 ∧ Sl w w.heap.size 2 A L.length (L.flatMap encS) ∧ (∀ a b, R a b = true ↔ ViaL L a b) ∧ ∀ x ∈ L, x.1 < n ∧ x.2 < n
theorem via_lt {n : Nat} {L : List (Nat × Nat)} (h : ∀ x ∈ L, x.1 < n ∧ x.2 < n) {a b : Nat} (hv : ViaL L a b) : a < n ∧ b < n := by
  unfold ViaL at hv
  induction hv with
  | edge e => exact h _ e
  | step e _ _ ih => exact ⟨(h _ e).1, ih.2⟩
section
variable {w w' : World} {v : Value} {n : Nat} {R : Nat → Nat → Bool}
theorem R8At.ext (h : R8At w v n R) (hb : Below w.heap.size w w') : R8At w' v n R := by
  obtain ⟨h0, A, c, L, h1, h2, h3, h4, h5⟩ := h
  exact ⟨h0, A, c, L, h1, h2, h3.up hb (Nat.le_refl _), h4, h5⟩
theorem R8At.trans (h : R8At w v n R) : TransR n R := by
  obtain ⟨h0, A, c, L, h1, h2, h3, h4, h5⟩ := h
  exact ⟨fun {a b c} h6 h7 => (h4 _ _).2 (((h4 _ _).1 h6).trans trivial ((h4 _ _).1 h7)), fun {a b} h6 => via_lt h5 ((h4 _ _).1 h6)⟩
end
theorem R8At.of {w w' : World} {n : Nat} {L : List (Nat × Nat)} {R : Nat → Nat → Bool} {e : Ending} (h : RetR8 w n L e w') (hn : n ≤ 65536) (hl : L.length ≤ 1000000) (hR : ∀ a b, R a b = true ↔ ViaL L a b) (hL : ∀ x ∈ L, x.1 < n ∧ x.2 < n) :
    ∃ v, e = .returned v ∧ R8At w' v n R ∧ Below w.heap.size w w' := by
  obtain ⟨A, c, h1, h2, h3⟩ := h
  exact ⟨_, h1, ⟨hn, A, c, L, rfl, hl, h2, hR, hL⟩, h3⟩
/-- the least alike, so far -/
structure LeastK (R : Nat → Nat → Bool) (i : Nat) (l : List Nat) (k out : Nat) : Prop where
  is : out = i ∨ (out < i ∧ R i out = true ∧ R out i = true)
  least : ∀ y ∈ l.take k, R y i = true → out ≤ y
theorem LeastK.done {R : Nat → Nat → Bool} {i out : Nat} {l : List Nat} (h : LeastK R i l l.length out) (hl : ∀ y, R i y = true → y ∈ l) : groupR R i = out := by
  have key : ∀ j, j < out → (R i j && R j i) = false := fun j hj => by
    cases h1 : R i j
    · rfl
    · cases h2 : R j i
      · rfl
      · have := h.least j (by rw [List.take_length]; exact hl j h1) h2
        omega
  rcases h.is with rfl | ⟨h1, h2, h3⟩
  · exact groupR_none key
  · exact groupR_at h1 h2 h3 key
theorem LeastK.step {R : Nat → Nat → Bool} {i out k y : Nat} {l : List Nat} (h : LeastK R i l k out) (hy : l[k]? = some y) (ho : y < out → R y i = true → False) : LeastK R i l (k + 1) out :=
  ⟨h.is, fun z hz hr => by
    rw [List.take_add_one, hy] at hz
    rcases List.mem_append.1 hz with h1 | h1
    · exact h.least z h1 hr
    · simp only [Option.toList, List.mem_singleton] at h1
      subst h1
      rcases Nat.lt_or_ge z out with h2 | h2
      · exact (ho h2 hr).elim
      · exact h2⟩
theorem LeastK.put {R : Nat → Nat → Bool} {i out k y : Nat} {l : List Nat} (h : LeastK R i l k out) (hy : l[k]? = some y) (ho : y < out) (hi : R i y = true) (hr : R y i = true) : LeastK R i l (k + 1) y :=
  ⟨.inr ⟨by rcases h.is with h1 | h1 <;> omega, hi, hr⟩, fun z hz hz2 => by
    rw [List.take_add_one, hy] at hz
    rcases List.mem_append.1 hz with h1 | h1
    · have := h.least z h1 hz2; omega
    · simp only [Option.toList, List.mem_singleton] at h1
      omega⟩
end Go.Proofs.YtnhbbggpgieipaaGreat

/- Whether only taken things stand ahead of one, in the document's words: walked. -/
namespace Go.Proofs.YtnhbbggpgieipaaGreat
open Go.RowKit

def lenV : Value → Nat
  | .slice _ n _ => n
  | _ => 0
def RetNs (w : World) (F : List Nat) (e : Ending) (w' : World) : Prop :=
  ∃ A c, e = .returned (.slice A F.length c) ∧ w'.ownsRow w.heap.size 3 1 (.slice A F.length c) F.length (encN F) ∧ Below w.heap.size w w'
theorem pickG_at {R : Nat → Nat → Bool} {n g : Nat} {out : List Nat} (hg : g < n) (h : mayG R n out g = true) (hn : ∀ j, j < g → mayG R n out j = false) : pickG R n out = g := by
  unfold pickG
  rw [find_range hg h hn]; rfl
def grpI (R : Nat → Nat → Bool) (g i : Nat) : List Nat := (List.range i).filter fun x => groupR R x == g
theorem grpI_yes {R : Nat → Nat → Bool} {g i : Nat} (h : groupR R i = g) : grpI R g (i + 1) = grpI R g i ++ [i] := by
  unfold grpI
  rw [List.range_succ, List.filter_append]
  simp [h]
theorem grpI_no {R : Nat → Nat → Bool} {g i : Nat} (h : groupR R i ≠ g) : grpI R g (i + 1) = grpI R g i := by
  unfold grpI
  rw [List.range_succ, List.filter_append]
  simp [h]
theorem grpI_len (R : Nat → Nat → Bool) (g i : Nat) : (grpI R g i).length ≤ i := by
  unfold grpI
  have := List.length_filter_le (fun x => groupR R x == g) (List.range i)
  rwa [List.length_range] at this
end Go.Proofs.YtnhbbggpgieipaaGreat

/- All things one behind another: walked. -/
namespace Go.Proofs.YtnhbbggpgieipaaGreat
open Go.RowKit

theorem Kept.thenB {F : Nat → Prop} {a b c : World} (h : Kept F a b) (k : Below a.heap.size b c) : Kept F a c :=
  ⟨k.os.trans h.os, k.tape.trans h.tape, k.output.trans h.output, Nat.le_trans h.size k.size, fun i hi hn => (k.block i hi).trans (h.block i hi hn)⟩
/-- the groups so far, as they lie -/
structure GrpAt (w : World) (B bg n : Nat) (R : Nat → Nat → Bool) (i : Nat) (V : List Value) : Prop where
  own : w.ownsRow B 110 1 (.slice (some ⟨bg, 0, none⟩) n n) n V
  each : ∀ (g : Nat) (v : Value), V[g]? = some v → w.ownsRow B 3 1 v (grpI R g i).length (encN (grpI R g i))
  apart : ∀ (g g' : Nat) (v v' : Value) (k : Nat), V[g]? = some v → V[g']? = some v' → g ≠ g' → v.ownBlock = some k → v'.ownBlock ≠ some k
section
variable {w w' w1 : World} {B bg n i : Nat} {R : Nat → Nat → Bool} {V : List Value}
theorem GrpAt.zero (h : w.ownsRow B 110 1 (.slice (some ⟨bg, 0, none⟩) n n) n (List.replicate n (.slice none 0 0))) : GrpAt w B bg n R 0 (List.replicate n (.slice none 0 0)) := by
  have key : ∀ (g : Nat) (v : Value), (List.replicate n (Value.slice none 0 0))[g]? = some v → v = .slice none 0 0 := fun g v hv => by
    rw [List.getElem?_replicate] at hv
    split at hv
    · exact (Option.some.inj hv).symm
    · cases hv
  refine ⟨h, fun g v hv => ?_, fun g g' v v' k hv hv' _ hk => ?_⟩
  · rw [key g v hv]
    have e : grpI R g 0 = [] := by simp [grpI]
    rw [e]
    exact World.ownsRow_nil _ _ _ _
  · rw [key g v hv] at hk; cases hk
theorem GrpAt.ext (h : GrpAt w B bg n R i V) (hb : Below w.heap.size w w') : GrpAt w' B bg n R i V :=
  ⟨own_ext h.own hb, fun g v hv => own_ext (h.each g v hv) hb, h.apart⟩
theorem GrpAt.keepW (h : GrpAt w B bg n R i V) {gT gwT : Nat} {ws : List Nat} (hm : MaskAt w gT gwT n ws) (hk : Kept (fun k => k = gwT) w w') : GrpAt w' B bg n R i V :=
  ⟨own_keepF h.own fun k e => hk.block k (h.own.lt k e).2 (own_ne_own h.own hm.own (by decide) e rfl),
   fun g v hv => own_keepF (h.each g v hv) fun k e => hk.block k ((h.each g v hv).lt k e).2 (own_ne_own (h.each g v hv) hm.own (by decide) e rfl), h.apart⟩
theorem GrpAt.put (h : GrpAt w B bg n R i V) {q : Nat} (hq : groupR R i = q) (hqn : q < n) {v v1 : Value} (hv : V[q]? = some v) (own1 : w1.ownsRow B 3 1 v1 ((grpI R q i).length + 1) (encN (grpI R q i) ++ [.int .i64 (i : Int)]))
    (kp : Kept (fun k => v.ownBlock = some k) w w1) (hv1 : ∀ k, v1.ownBlock = some k → v.ownBlock = some k ∨ w.heap.size ≤ k) :
    GrpAt (w1.setCell ⟨bg, q, none⟩ v1) B bg n R (i + 1) (V.set q v1) := by
  have hvr := h.each q v hv
  have o1 : w1.ownsRow B 110 1 (.slice (some ⟨bg, 0, none⟩) n n) n V := own_keepF h.own fun k e => kp.block k (h.own.lt k e).2 fun e2 => (own_ne_own h.own hvr (by decide) e e2) rfl
  have hKb : Kept (fun k => k = bg) w1 (w1.setCell ⟨bg, q, none⟩ v1) := (Kept.refl (fun k => k = bg) w1).setCell (p := ⟨bg, q, none⟩) (.inl rfl) _
  have hlen : V.length = n := by have := h.own.1; simpa using this
  have get : ∀ (g : Nat) (u : Value), (V.set q v1)[g]? = some u → (g = q ∧ u = v1) ∨ (g ≠ q ∧ V[g]? = some u) := fun g u hu => by
    rw [List.getElem?_set] at hu
    by_cases e : q = g
    · subst e
      rw [if_pos rfl, if_pos (by omega)] at hu
      exact .inl ⟨rfl, (Option.some.inj hu).symm⟩
    · rw [if_neg e] at hu
      exact .inr ⟨fun e2 => e e2.symm, hu⟩
  refine ⟨(o1.stored q v1).1, fun g u hu => ?_, fun g g' u u' k hu hu' hne hk => ?_⟩
  · rcases get g u hu with ⟨rfl, rfl⟩ | ⟨hgq, hu2⟩
    · rw [grpI_yes hq]
      have := own_keepF own1 fun k e => hKb.block k (own1.lt k e).2 (own_ne_own own1 o1 (by decide) e rfl)
      rw [List.length_append, encN_snoc]
      exact this
    · rw [grpI_no (by rw [hq]; exact fun e => hgq e.symm)]
      have h0 := h.each g u hu2
      have h1 := own_keepF h0 (w' := w1) fun k e => kp.block k (h0.lt k e).2 fun e2 => h.apart g q u v k hu2 hv hgq e e2
      exact own_keepF h1 fun k e => hKb.block k (h1.lt k e).2 (own_ne_own h1 o1 (by decide) e rfl)
  · rcases get g u hu with ⟨rfl, rfl⟩ | ⟨hgq, hu2⟩
    · rcases get g' u' hu' with ⟨rfl, rfl⟩ | ⟨hgq', hu2'⟩
      · exact absurd rfl hne
      · intro e2
        rcases hv1 k hk with h3 | h3
        · exact h.apart g' g u' v k hu2' hv hgq' e2 h3
        · have := ((h.each g' u' hu2').lt k e2).2; omega
    · rcases get g' u' hu' with ⟨rfl, rfl⟩ | ⟨hgq', hu2'⟩
      · intro e2
        rcases hv1 k e2 with h3 | h3
        · exact h.apart g g' u v k hu2 hv hgq hk h3
        · have := ((h.each g u hu2).lt k hk).2; omega
      · exact h.apart g g' u u' k hu2 hu2' hne hk
end
theorem withM_free {n g : Nat} {R : Nat → Nat → Bool} {out wsg ws : List Nat} (h1 : ∀ x, x < n → bitAt wsg x = befR R x g) (hc : CleanW n ws) (h2 : ∀ x, x < n → bitAt ws x = decide (x ∈ out)) : withM n wsg n ws = freeR R n out g := by
  unfold withM freeR
  rw [Bool.eq_iff_iff, List.all_eq_true, List.all_eq_true]
  constructor
  · intro h x hx
    have := h x hx
    rw [h1 x (List.mem_range.1 hx), hasM_clean hc, h2 x (List.mem_range.1 hx)] at this
    exact this
  · intro h x hx
    rw [h1 x (List.mem_range.1 hx), hasM_clean hc, h2 x (List.mem_range.1 hx)]
    exact h x hx
/-- what stands while things are told -/
structure OrdSt (wb w : World) (gT gwT n : Nat) (S out ws : List Nat) (v : Value) : Prop where
  mask : MaskAt w gT gwT n ws
  cl : CleanW n ws
  bit : ∀ x, x < n → bitAt ws x = decide (x ∈ S)
  kept : Kept (fun k => k = gwT) wb w
  own : w.ownsRow wb.heap.size 3 1 v out.length (encN out)
theorem OrdSt.put {wb w w' : World} {gT gwT n x : Nat} {S out ws : List Nat} {v : Value} (h : OrdSt wb w gT gwT n S out ws v) (hx : x < n) (hm : MaskAt w' gT gwT n (putM n ws (x : Int))) (hk : Kept (fun k => k = gwT) w w') : OrdSt wb w' gT gwT n (S ++ [x]) out (putM n ws (x : Int)) v := by
  refine ⟨hm, putM_clean h.mask.ok h.cl hx, fun y hy => ?_, h.kept.trans hk fun _ e => .inl e, own_keepF h.own fun k e => hk.block k (h.own.lt k e).2 (own_ne_own h.own h.mask.own (by decide) e rfl)⟩
  rw [putM_bit h.mask.ok hx, h.bit y hy, Bool.eq_iff_iff]
  simp only [Bool.or_eq_true, decide_eq_true_eq, List.mem_append, List.mem_singleton]
  constructor
  · rintro (h1 | h1)
    · exact .inl h1
    · exact .inr h1.symm
  · rintro (h1 | h1)
    · exact .inl h1
    · exact .inr h1.symm
theorem OrdSt.cat {wb w w' : World} {gT gwT n : Nat} {S out out' ws ws0 : List Nat} {v v' : Value} (h : OrdSt wb w gT gwT n S out ws v) (h0 : MaskAt wb gT gwT n ws0) (hb : Below wb.heap.size w w') (ho : w'.ownsRow wb.heap.size 3 1 v' out'.length (encN out')) : OrdSt wb w' gT gwT n S out' ws v' :=
  ⟨h.mask.keep (hb.block _ h0.lt.1) (hb.block _ h0.lt.2), h.cl, h.bit, h.kept.thenB hb, ho⟩
theorem encN_one (F : List Nat) : ∀ u ∈ encN F, u.oneCell' = true := fun u hu => by
  obtain ⟨x, _, rfl⟩ := List.mem_map.1 hu
  rfl
theorem encN_cat (F G : List Nat) : encN (F ++ G) = encN F ++ encN G := by unfold encN; rw [List.map_append]
set_option maxRecDepth 100000 in
set_option maxHeartbeats 8000000 in
theorem order9_any {w : World} {g n : Nat} {R : Nat → Nat → Bool} (h : RelAt w g n R) (T : TransR n R) : Calls Tryz.prog 66 #[.pointer (some ⟨g, 0, none⟩)] w (RetNs w (ordR R n)) := by
  have hn0 := h.1
  have hinfo : (Tryz.prog.info? 110).map (fun i => (i.zero, i.size, i.bytes)) = some (some (.slice none 0 0), 1, 24) := by kernel_rfl
  obtain ⟨i, hi, hzz⟩ := Option.map_eq_some_iff.1 hinfo
  simp only [Prod.mk.injEq] at hzz
  obtain ⟨hz, hsz, hby⟩ := hzz
  clear hinfo
  have H := Lib.hid h
  have T := Lib.hid T
  have HA := Lib.hid (ahead9_any h)
  clear h
  go_enter Tryz.func66, Tryz.ntmps66
  go_wp2_with fail
  refine HA.out.mono ?_
  rintro e w1 ⟨b, M, rfl, hM, ah, b1⟩
  have HL := Lib.hid (len8_any (H.out.ext b1))
  go_wp2_with fail
  refine HL.out.mono ?_
  rintro e w2 ⟨rfl, rfl⟩
  have HN : Hid (Calls Tryz.prog 94 #[.int .i64 (n : Int)] w1 (RetMask w1 n (zeroW n))) := by
    have := new7_any (n : Int) w1
    rwa [roomM_nat hn0] at this
  go_wp2_with fail
  refine HN.out.mono ?_
  rintro e w2 ⟨gT, gwT, rfl, hmT, hg1, hg2, b2⟩
  have A2 := Lib.hid (ah.ext b2)
  have NE : Hid (∀ (k : Nat) (r : Row7), M[k]? = some r → r.gw ≠ gwT) := fun k r hr => by
    have := (ah.row k r hr).at_.lt.2
    omega
  have GE : Hid (w.heap.size ≤ gwT) := Nat.le_trans b1.size hg2
  have B2 := Lib.hid (b1.trans (b2.mono b1.size))
  have MT := Lib.hid hmT
  have HL2 := Lib.hid (len8_any (H.out.ext B2.out))
  clear hmT hg1 hg2 b2 ah b1 HN HL HA
  go_wp2_with fail
  refine HL2.out.mono ?_
  rintro e w3 ⟨rfl, rfl⟩
  go_wp2_with (at_make; refine wpList_make_full _ rfl _ _ 138 rfl w2.heap.size 110 i (.slice none 0 0) 1 Tryz.underlying138 hi hz hsz _ _ _ _ n (by rfl) (by rfl) rfl rfl (by rw [hby]; omega) (by unfold maxLen; omega) (Nat.le_refl _) ?_; intro w3 own3 gr3)
  rw [made1 rfl] at own3
  have B3 : Hid (Below w2.heap.size w2 w3) := ⟨gr3.os, gr3.tape, gr3.output, gr3.size, fun k hk => gr3.block k hk (by simp)⟩
  have G3 : Hid (GrpAt w3 w2.heap.size w2.heap.size n R 0 (List.replicate n (.slice none 0 0))) := GrpAt.zero own3
  have HL3 := Lib.hid (len8_any (H.out.ext (B2.out.trans (B3.out.mono B2.out.size))))
  clear own3 gr3 hi hz hsz hby HL2
  obtain ⟨bg, hgb⟩ : ∃ g, g = w2.heap.size := ⟨_, rfl⟩
  rw [← hgb] at G3 ⊢
  replace hgb := Lib.hid hgb
  refine HL3.out.mono ?_
  rintro e w4 ⟨rfl, rfl⟩
  clear HL3
  go_wp2_with fail
  go_loopw [23] (fun v wr => ∃ (i : Nat) (V : List Value), i ≤ n ∧ v = .int .i64 i ∧ Hid (GrpAt wr bg bg n R i V) ∧ Hid (Below w2.heap.size w2 wr)) (fun v _ => n - (intOf v).toNat)
  case atStart => exact ⟨0, _, by omega, rfl, G3.out, B3.out⟩
  case round =>
    clear G3 B3
    obtain ⟨i, V, hin, rfl, G, BB⟩ := hrel
    have hi0 : (0 : Int) ≤ (i : Int) := by omega
    have hbs : bg ≤ wr.heap.size := by rw [hgb.out]; exact BB.out.size
    by_cases hlt : i < n
    · have hlk : (i : Int) < (n : Int) := by omega
      have HG := Lib.hid (group8_any (H.out.ext (B2.out.trans (BB.out.mono B2.out.size))) i hlt)
      have hqn : groupR R i < n := groupR_lt hlt
      obtain ⟨q, hq⟩ : ∃ q, groupR R i = q := ⟨_, rfl⟩
      rw [hq] at HG hqn
      have HQ := Lib.hid hq
      clear hq
      have hq0 : (0 : Int) ≤ (q : Int) := by omega
      have hqk : (q : Int) < (n : Int) := by omega
      obtain ⟨v, hv⟩ : ∃ v, V[q]? = some v := ⟨_, List.getElem?_eq_getElem (by have := G.out.own.1; omega)⟩
      have HV := Lib.hid hv
      have O := Lib.hid (G.out.each q v hv)
      obtain ⟨A1, c1, rfl, _, _⟩ := Sl.of_own O.out
      have hc : wr.cell? ⟨bg, q, none⟩ = some (.slice A1 (grpI R q i).length c1) := by rw [G.out.own.cellAt q (by omega)]; exact hv
      have hgl : (grpI R q i).length ≤ 65536 := by have := grpI_len R q i; omega
      clear hv
      go_wp2_with fail
      refine HG.out.mono ?_
      rintro e w3 ⟨rfl, rfl⟩
      go_wp2_with (at_builtin; refine wpList_pushF intSlH O.out [.int .i64 (i : Int)] rfl (by simp [Value.oneCell']) hbs (by omega) (by unfold maxLen; omega) (by rfl) (by rfl) (by rfl) ?_; intro v1 w6 own1 kp hv1; obtain ⟨A6, c6, rfl, _, _⟩ := Sl.of_own own1; have hc6 := (kp.block bg (G.out.own.lt bg rfl).2 fun e2 => (own_ne_own G.out.own O.out (by decide) rfl e2) rfl); have o6 := own_keepF G.out.own (w' := w6) fun k e => (show k = bg by simpa [Value.ownBlock] using e.symm) ▸ hc6; have hc7 : w6.cell? ⟨bg, q, none⟩ = some (.slice A1 (grpI R q i).length c1) := (by rw [o6.cellAt q (by omega)]; exact HV.out); have hf7 : w6.frozen? ⟨bg, q, none⟩ = false := o6.frozenAt _; clear hc6 o6)
      have G2 := Lib.hid (G.out.put HQ.out hqn HV.out own1 kp hv1)
      have BB2 : Hid (Below w2.heap.size w2 (w6.setCell ⟨bg, q, none⟩ (.slice A6 ((grpI R q i).length + 1) c6))) := (BB.out.trans (kp.below (fun k e => by rw [← hgb.out]; exact (O.out.lt k e).1) BB.out.size)).setCell (p := ⟨bg, q, none⟩) (by rw [← hgb.out]; exact Nat.le_refl _) _
      clear own1 kp hv1 O G BB HG hc hc7 hf7
      go_roundw
      case rel => exact ⟨i + 1, _, by omega, by go_num, G2.out, BB2.out⟩
      case measure => simp [intOf]; omega
    · have hlk : ¬ (i : Int) < (n : Int) := by omega
      obtain rfl : i = n := by omega
      have GG := G
      have AA := Lib.hid (A2.out.ext BB.out)
      have MM := Lib.hid (MT.out.ext BB.out)
      have BW := Lib.hid (B2.out.trans (BB.out.mono B2.out.size))
      have S0 : Hid (OrdSt wr wr gT gwT i (ordAt R i 0) (ordAt R i 0) (zeroW i) (.slice none 0 0)) := ⟨MM.out, CleanW.zero i, fun x _ => by rw [zeroW_bit]; simp [ordAt], Kept.refl _ _, World.ownsRow_nil _ _ _ _⟩
      clear G BB A2 B2 MT
      generalize wr = wb at *
      go_wp2_with fail
      go_loopw [8] (fun s wr => ∃ (m c' : Nat) (A' : Option Addr) (ws : List Nat), s = .slice A' (ordAt R i m).length c' ∧ Hid (OrdSt wb wr gT gwT i (ordAt R i m) (ordAt R i m) ws (.slice A' (ordAt R i m).length c'))) (fun s _ => i - lenV s)
      case atStart => exact ⟨0, 0, none, _, rfl, S0.out⟩
      case round =>
        clear S0
        obtain ⟨m, c', A', ws, rfl, S⟩ := hrel
        have TD := Lib.hid (ordAt_told T.out m).1
        have NX := Lib.hid (fun h => ordAt_next (R := R) (n := i) (k := m) h)
        have DN := Lib.hid (fun h => ordAt_done T.out (k := m) h)
        generalize ordAt R i m = out at *
        have hle := TD.out.le
        have KB : Hid (Below w.heap.size w wr) := BW.out.trans (S.out.kept.below (fun k e => by rw [e]; exact GE.out) BW.out.size)
        have HL := Lib.hid (len8_any (H.out.ext KB.out))
        by_cases hlt : out.length < i
        · have hlk : ((out.length : Nat) : Int) < (i : Int) := by omega
          go_wp2_with fail
          refine HL.out.mono ?_
          rintro e w5 ⟨rfl, rfl⟩
          go_wp2_with fail
          clear HL
          go_loopw [47, 8] (fun v s8 w5 => ∃ q : Nat, q ≤ i ∧ v = .int .i64 q ∧ s8 = .slice A' out.length c' ∧ Hid (∀ j, j < q → mayG R i out j = false) ∧ Hid (OrdSt wb w5 gT gwT i out out ws (.slice A' out.length c'))) (fun v _ _ => i - (intOf v).toNat)
          case atStart => exact ⟨0, by omega, rfl, rfl, fun _ h => by omega, S.out⟩
          case round =>
            clear S KB
            obtain ⟨q, hq, rfl, rfl, N, S⟩ := hrel
            have hq0 : (0 : Int) ≤ (q : Int) := by omega
            have AW := Lib.hid (AA.out.keepW MM.out NE.out S.out.kept)
            have GW := Lib.hid (GG.out.keepW MM.out S.out.kept)
            by_cases hqn : q < i
            · have hqk : (q : Int) < (i : Int) := by omega
              obtain ⟨v, hv⟩ : ∃ v, V[q]? = some v := ⟨_, List.getElem?_eq_getElem (by have := GG.out.own.1; omega)⟩
              have HV := Lib.hid hv
              have O := Lib.hid (GW.out.each q v hv)
              obtain ⟨Ag, cg, rfl, _, _⟩ := Sl.of_own O.out
              have hcV := GW.out.own.cellAt q (by omega)
              rw [hv] at hcV
              clear hv
              have NN : Hid (mayG R i out q = false → ∀ j, j < q + 1 → mayG R i out j = false) := fun h j hj => by
                rcases Nat.lt_or_ge j q with h4 | h4
                · exact N.out j h4
                · obtain rfl : j = q := by omega
                  exact h
              have MG : Hid (mayG R i out q = ((groupR R q == q) && (!(decide (q ∈ out)) && freeR R i out q))) := rfl
              have GN : Hid (grpI R q i = [] ↔ groupR R q ≠ q) := grpL_nil T.out hqn
              have GX : Hid (∀ x ∈ grpI R q i, x < i) := fun x hx => (mem_grpL.1 hx).1
              have GL := grpI_len R q i
              have PK : Hid (mayG R i out q = true → ordAt R i (m + 1) = out ++ grpI R q i) := fun h => by
                rw [NX.out hlt, pickG_at hqn h N.out]; rfl
              by_cases hl : (grpI R q i).length = 0
              · have e1 : decide (((grpI R q i).length : Int) = 0) = true := decide_eq_true (by omega)
                have e2 := decide_eq_true hl
                have hnil := List.eq_nil_of_length_eq_zero hl
                have N2 := Lib.hid (NN.out (by rw [MG.out, beq_eq_false_iff_ne.2 (GN.out.1 hnil)]; rfl))
                rw [hl] at hcV e1 e2
                clear NN MG GN GX PK O GW AW
                go_wp2_with fail
                go_roundw
                case rel => exact ⟨q + 1, by omega, by go_num, rfl, N2.out, S.out⟩
                case measure => simp [intOf]; omega
              · have hgq : groupR R q = q := Classical.byContradiction fun hc => hl (by rw [GN.out.2 hc]; rfl)
                have e1 : decide (((grpI R q i).length : Int) = 0) = false := decide_eq_false (by omega)
                have e2 := decide_eq_false hl
                have e5 : (((grpI R q i).length : Int) == 0) = false := by rw [beq_eq_false_iff_ne]; omega
                have e3 : decide (grpI R q i = []) = false := decide_eq_false fun e => hl (by rw [e]; rfl)
                have e4 : ¬ grpI R q i = [] := fun e => hl (by rw [e]; rfl)
                have HH := Lib.hid (has7_any S.out.mask (q : Int))
                rw [hasM_clean S.out.cl, S.out.bit q hqn] at HH
                have GG2 : Hid ((groupR R q == q) = true) := by rw [Hid, hgq, beq_self_eq_true]
                have LP : Hid (0 < (grpI R q i).length) := Nat.pos_of_ne_zero hl
                by_cases h2 : q ∈ out
                · rw [decide_eq_true h2] at HH
                  have N2 := Lib.hid (NN.out (by rw [MG.out, decide_eq_true h2]; simp))
                  clear NN MG GN GX PK O GW AW GG2
                  go_wp2_with fail
                  refine HH.out.mono ?_
                  rintro e w6 ⟨rfl, rfl⟩
                  go_wp2_with fail
                  go_roundw
                  case rel => exact ⟨q + 1, by omega, by go_num, rfl, N2.out, S.out⟩
                  case measure => simp [intOf]; omega
                · rw [decide_eq_false h2] at HH
                  obtain ⟨r, hr⟩ : ∃ r, M[q]? = some r := ⟨_, List.getElem?_eq_getElem (by omega)⟩
                  have hcA := AW.out.own.cellAt q (by omega)
                  rw [encP7_get hr] at hcA
                  have AR := AW.out.row q r hr
                  have HW := Lib.hid (within7_any AR.at_ AR.cl S.out.mask)
                  rw [withM_free AR.bit S.out.cl S.out.bit] at HW
                  clear AR hr
                  cases h3 : freeR R i out q
                  · rw [h3] at HW
                    have N2 := Lib.hid (NN.out (by rw [MG.out, h3]; simp))
                    clear NN MG GN GX PK O GW AW GG2
                    go_wp2_with fail
                    refine HH.out.mono ?_
                    rintro e w6 ⟨rfl, rfl⟩
                    go_wp2_with fail
                    refine HW.out.mono ?_
                    rintro e w6 ⟨rfl, rfl⟩
                    go_wp2_with fail
                    go_roundw
                    case rel => exact ⟨q + 1, by omega, by go_num, rfl, N2.out, S.out⟩
                    case measure => simp [intOf]; omega
                  · rw [h3] at HW
                    have PK2 := Lib.hid (PK.out (by rw [MG.out, GG2.out, decide_eq_false h2, h3]; rfl))
                    have S0 : Hid (OrdSt wb wr gT gwT i (out ++ (grpI R q i).take 0) out ws (.slice A' out.length c')) := by rw [List.take_zero, List.append_nil]; exact S.out
                    clear NN MG GN PK GG2 N AW
                    go_wp2_with fail
                    refine HH.out.mono ?_
                    rintro e w6 ⟨rfl, rfl⟩
                    go_wp2_with fail
                    refine HW.out.mono ?_
                    rintro e w6 ⟨rfl, rfl⟩
                    clear HH HW hcA
                    go_wp2_with fail
                    try simp only [e5]
                    clear e1 e2 e3 e4 e5 hcV O GW S
                    go_loopw [71] (fun v w6 => ∃ (k : Nat) (ws : List Nat), k ≤ (grpI R q i).length ∧ v = .int .i64 k ∧ Hid (OrdSt wb w6 gT gwT i (out ++ (grpI R q i).take k) out ws (.slice A' out.length c'))) (fun v _ => (grpI R q i).length - (intOf v).toNat)
                    case atStart => exact ⟨0, ws, by omega, rfl, S0.out⟩
                    case round =>
                      clear S0
                      obtain ⟨k, ws, hk, rfl, S⟩ := hrel
                      have hk0 : (0 : Int) ≤ (k : Int) := by omega
                      have GW := Lib.hid (GG.out.keepW MM.out S.out.kept)
                      have O := Lib.hid (GW.out.each q _ HV.out)
                      by_cases hkl : k < (grpI R q i).length
                      · have hkk : (k : Int) < ((grpI R q i).length : Int) := by omega
                        obtain ⟨bo, oo, rfl, hb, hcx⟩ := encN_at O.out hkl
                        have HT : Hid ((grpI R q i).take (k + 1) = (grpI R q i).take k ++ [(grpI R q i)[k]]) := by rw [Hid, List.take_add_one, List.getElem?_eq_getElem hkl]; rfl
                        have HX : Hid ((grpI R q i)[k] < i) := GX.out _ (List.getElem_mem hkl)
                        generalize (grpI R q i)[k] = x at *
                        have HP := Lib.hid (put7_any S.out.mask (x : Int))
                        clear O GW hb
                        go_wp2_with fail
                        refine HP.out.mono ?_
                        rintro e w7 ⟨rfl, hm7, hk7⟩
                        have S2 := Lib.hid (S.out.put HX.out hm7 hk7)
                        rw [List.append_assoc, ← HT.out] at S2
                        clear hm7 hk7 HP S hcx
                        go_wp2_with fail
                        go_roundw
                        case rel => exact ⟨k + 1, _, by omega, by go_num, S2.out⟩
                        case measure => simp [intOf]; omega
                      · have hkk : ¬ (k : Int) < ((grpI R q i).length : Int) := by omega
                        obtain ⟨A1, c1, ee, _, sl⟩ := Sl.of_own O.out
                        cases ee
                        have SL := Lib.hid sl
                        have hS : out ++ (grpI R q i).take k = out ++ grpI R q i := by rw [List.take_of_length_le (by omega)]
                        rw [hS] at S
                        have E1 := Lib.hid (encN_one (grpI R q i))
                        have hbs := S.out.kept.size
                        clear sl O GW hS
                        go_wp2_with (at_builtin; refine wpList_cat intSlH S.out.own SL.out E1.out hbs (by omega) (by unfold maxLen; omega) (by rfl) (by rfl) ?_; intro v1 w7 own7 b7)
                        obtain ⟨A7, c7, rfl, _, _⟩ := Sl.of_own own7
                        rw [← encN_cat, ← List.length_append] at own7
                        have S2 := Lib.hid (S.out.cat MM.out b7 own7)
                        rw [← PK2.out] at S2
                        have PL : Hid (out.length + (grpI R q i).length = (ordAt R i (m + 1)).length) := by rw [Hid, PK2.out, List.length_append]
                        clear own7 b7 S SL E1
                        go_roundw
                        case rel => exact ⟨m + 1, c7, A7, ws, by rw [PL.out], S2.out⟩
                        case measure =>
                          show i - lenV (.slice A7 (out.length + (grpI R q i).length) c7) < i - lenV (.slice A' out.length c')
                          have := LP.out
                          simp only [lenV]; omega
            · exfalso
              obtain ⟨g', _, _, h1, h2⟩ := pick_there T.out TD.out hlt
              rw [N.out g' (by omega)] at h2
              cases h2
        · have hlk : ¬ ((out.length : Nat) : Int) < (i : Int) := by omega
          have E := Lib.hid (DN.out hlt)
          have OO := Lib.hid (own_rebase (base' := w.heap.size) S.out.own fun k e => Nat.le_trans BW.out.size (S.out.own.lt k e).1)
          go_wp2_with fail
          refine HL.out.mono ?_
          rintro e w5 ⟨rfl, rfl⟩
          go_wp2
          go_ret
          exact ⟨A', c', by rw [← E.out]; rfl, by rw [← E.out]; exact OO.out, KB.out⟩
end Go.Proofs.YtnhbbggpgieipaaGreat
