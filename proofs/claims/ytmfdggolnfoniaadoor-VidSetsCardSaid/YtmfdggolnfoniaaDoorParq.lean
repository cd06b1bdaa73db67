/- pid.Parse. -/
import Derived.Test.YtmfdggolnfoniaaDoorParp
namespace Go.Proofs.YtmfdggolnfoniaaDoor
open Go.RowKit

theorem var_ext {P : Program} {nm : String} {w w' : World} {x : Array Value} (h : w.var? P nm = some x) (hb : Below w.heap.size w w') : w'.var? P nm = some x := by
  unfold World.var? at h ⊢
  cases hg : P.globalNamed nm with
  | none => rw [hg] at h; simp at h
  | some g =>
    rw [hg] at h
    simp only [Option.bind_some] at h ⊢
    have hlt : g < w.heap.size := by
      rcases Nat.lt_or_ge g w.heap.size with h0 | h0
      · exact h0
      · rw [Array.getElem?_eq_none h0] at h; simp at h
    rw [hb.block g hlt]
    exact h
/-- what the listed variables hold -/
structure PW (w : World) : Prop where
  tab : TabOk w
  syn : ∃ tp p, w.var? Tryd.prog "strconv.ErrSyntax" = some #[.iface tp p]
  ran : ∃ tp p, w.var? Tryd.prog "strconv.ErrRange" = some #[.iface tp p]
theorem PW.ext {w w' : World} (h : PW w) (hb : Below w.heap.size w w') : PW w' := by
  obtain ⟨t1, p1, h1⟩ := h.syn
  obtain ⟨t2, p2, h2⟩ := h.ran
  exact ⟨tab_ext h.tab hb, ⟨t1, p1, var_ext h1 hb⟩, ⟨t2, p2, var_ext h2 hb⟩⟩
def PuRet (B M : Nat) (l : List UInt8) (w : World) (e : Ending) (w' : World) : Prop := Below w.heap.size w w' ∧ ((∃ u, u ≤ M ∧ Lib.parseUintB B l = .ok u ∧ e = .returned (.tuple #[.int .u64 u, .nilIface])) ∨ (∃ (u : Nat) (t : TypeId) (p : Value), u ≤ M ∧ (∀ m, Lib.parseUintB B l ≠ .ok m) ∧ e = .returned (.tuple #[.int .u64 u, .iface t p])))
theorem pu8_any (s : ByteArray) (w : World) (hs : s.size ≤ 100) (hp : PW w) : Calls Tryd.prog 38 #[.string s, .int .i64 10, .int .i64 8] w (PuRet 8 255 s.data.toList w) := by
  cases h : Lib.parseUintB 8 s.data.toList
  case ok u =>
    refine (Tryd.strconv_ParseUint_10_at8_ok s (by omega) u h w).mono ?_
    rintro e w' ⟨rfl, hw⟩
    refine ⟨?_, .inl ⟨u, Lib.parseUintB_le h, h, rfl⟩⟩
    rcases hw with rfl | rfl
    · exact Below.refl _ _
    · exact Lib.bytesWorld_below _ _ _
  case range =>
    obtain ⟨t1, p1, h1⟩ := hp.ran
    refine (Tryd.strconv_ParseUint_10_at8_range_var s (by omega) h t1 p1 w h1).mono ?_
    rintro e w' ⟨N, rfl, _, _, hb⟩
    exact ⟨hb, .inr ⟨255, _, _, by omega, fun m => by rw [h]; simp, rfl⟩⟩
  obtain ⟨t1, p1, h1⟩ := hp.syn
  refine (Any.strconv_ParseUint_10_at8_syntax_var Tryd.laysPu14 s (by omega) h t1 p1 w h1).mono ?_
  rintro e w' ⟨N, rfl, _, _, hb⟩
  exact ⟨hb, .inr ⟨0, _, _, by omega, fun m => by rw [h]; simp, rfl⟩⟩
theorem pu16_any (s : ByteArray) (w : World) (hs : s.size ≤ 100) (hp : PW w) : Calls Tryd.prog 38 #[.string s, .int .i64 10, .int .i64 16] w (PuRet 16 65535 s.data.toList w) := by
  cases h : Lib.parseUintB 16 s.data.toList
  case ok u =>
    refine (Tryd.strconv_ParseUint_10_at16_ok s (by omega) u h w).mono ?_
    rintro e w' ⟨rfl, hw⟩
    refine ⟨?_, .inl ⟨u, Lib.parseUintB_le h, h, rfl⟩⟩
    rcases hw with rfl | rfl
    · exact Below.refl _ _
    · exact Lib.bytesWorld_below _ _ _
  case range =>
    obtain ⟨t1, p1, h1⟩ := hp.ran
    refine (Tryd.strconv_ParseUint_10_at16_range_var s (by omega) h t1 p1 w h1).mono ?_
    rintro e w' ⟨N, rfl, _, _, hb⟩
    exact ⟨hb, .inr ⟨65535, _, _, by omega, fun m => by rw [h]; simp, rfl⟩⟩
  obtain ⟨t1, p1, h1⟩ := hp.syn
  refine (Any.strconv_ParseUint_10_at16_syntax_var Tryd.laysPu14 s (by omega) h t1 p1 w h1).mono ?_
  rintro e w' ⟨N, rfl, _, _, hb⟩
  exact ⟨hb, .inr ⟨0, _, _, by omega, fun m => by rw [h]; simp, rfl⟩⟩
theorem cutD_len (l : List UInt8) : (cutD l).1.length ≤ l.length ∧ (cutD l).2.1.length ≤ l.length := by
  unfold cutD
  split
  · simp only [List.length_take, List.length_drop]; omega
  · simp
theorem below_new' (w : World) (o : Obj) : Below w.heap.size w (w.alloc o) := (Below.refl _ _).alloc (Nat.le_refl _) _
theorem below_setCell2 {B : Nat} {a w : World} (h : Below B a w) {p : Addr} (hp : B ≤ p.block) {u : Value} : Below B a (w.setCell p u) := h.setCell hp u
theorem str_ne' {s t : ByteArray} (h : s ≠ t) : (s.toList == t.toList) = false := by
  rw [beq_eq_false_iff_ne]
  intro e
  rw [ByteArray.toList_eq, ByteArray.toList_eq] at e
  exact h (ByteArray.ext (Array.ext' e))
def ParseRet (s : List UInt8) (w : World) (e : Ending) (w' : World) : Prop := Below w.heap.size w w' ∧ ((∃ a n : Nat, a < 256 ∧ n < 65536 ∧ s = pidText a n ∧ e = .returned (.tuple #[.agg #[.int .u8 a, .int .u16 n], .bool true])) ∨ ((∀ a n : Nat, a < 256 → n < 65536 → s ≠ pidText a n) ∧ e = .returned (.tuple #[.agg #[.int .u8 0, .int .u16 0], .bool false])))

set_option maxRecDepth 100000 in
set_option maxHeartbeats 4000000 in
theorem parse_any (s : ByteArray) (w : World) (hs : s.size ≤ 100) (hp : PW w) : Calls Tryd.prog 10 #[.string s] w (ParseRet s.data.toList w) := by
  have hl : s.data.toList.length = s.size := Array.length_toList
  have LL := cutD_len s.data.toList
  have L1 : Hid ((⟨(cutD s.data.toList).1.toArray⟩ : ByteArray).size ≤ 100) := by
    show (cutD s.data.toList).1.toArray.size ≤ 100
    rw [List.size_toArray]; omega
  have L2 : Hid ((⟨(cutD s.data.toList).2.1.toArray⟩ : ByteArray).size ≤ 100) := by
    show (cutD s.data.toList).2.1.toArray.size ≤ 100
    rw [List.size_toArray]; omega
  have HP := Lib.hid hp
  have HC := Lib.hid (fun w0 => cut_any s w0 (by unfold maxLen; omega))
  have TXT : Hid (∀ a n : Nat, a < 256 → n < 65536 → s.data.toList = pidText a n → (cutD s.data.toList).1 = Lib.itoa (a : Int) ∧ (cutD s.data.toList).2.1 = Lib.itoa (n : Int)) := fun a n _ _ h => by rw [h, cutD_pid]; exact ⟨rfl, rfl⟩
  clear LL hp
  go_enter Tryd.func10, Tryd.ntmps10
  have K0 : Hid (Blk (w.alloc (.cells #[.int .u8 0, .int .u16 0] 24)) w.heap.size 24 #[.int .u8 0, .int .u16 0]) := Blk.new _ _ _
  have B0 : Hid (Below w.heap.size w (w.alloc (.cells #[.int .u8 0, .int .u16 0] 24))) := below_new' _ _
  go_wp2_with fail
  refine (HC.out _).mono ?_
  rintro e w1 ⟨rfl, k, rfl⟩
  have B1 := Lib.hid (below_drewN B0.out k)
  have K1 := Lib.hid (K0.out.drewN k)
  have P1 := Lib.hid (HP.out.ext B1.out)
  generalize (w.alloc (.cells #[.int .u8 0, .int .u16 0] 24)).drewN k = w1 at *
  clear HC K0 B0
  go_wp2_with fail
  refine (pu8_any _ w1 L1.out P1.out).mono ?_
  rintro e w2 ⟨b2, h2⟩
  have B2 := Lib.hid (B1.out.trans (b2.mono B1.out.size))
  have K2 := Lib.hid (K1.out.ext b2)
  have P2 := Lib.hid (P1.out.ext b2)
  clear b2 B1 K1 P1
  rcases h2 with ⟨u, hu, h8, rfl⟩ | ⟨u, t, p, hu, h8, rfl⟩
  · have h8 := Lib.hid h8
    go_wp2_with fail
    refine (pu16_any _ w2 L2.out P2.out).mono ?_
    rintro e w3 ⟨b3, h3⟩
    have B3 := Lib.hid (B2.out.trans (b3.mono B2.out.size))
    have K3 := Lib.hid (K2.out.ext b3)
    have P3 := Lib.hid (P2.out.ext b3)
    clear b3 B2 K2 P2
    rcases h3 with ⟨v, hv, h16, rfl⟩ | ⟨v, t, p, hv, h16, rfl⟩
    · have h16 := Lib.hid h16
      have u0 : (0 : Int) ≤ (u : Int) := by omega
      have v0 : (0 : Int) ≤ (v : Int) := by omega
      have K4 : Hid (Blk (w3.alloc (.cells #[.int .u8 u, .int .u16 v] 24)) w.heap.size 24 #[.int .u8 0, .int .u16 0]) := K3.out.alloc _
      have K5 : Hid (Blk (w3.alloc (.cells #[.int .u8 u, .int .u16 v] 24)) w3.heap.size 24 #[.int .u8 u, .int .u16 v]) := Blk.new _ _ _
      have B4 : Hid (Below w.heap.size w (w3.alloc (.cells #[.int .u8 u, .int .u16 v] 24))) := B3.out.trans ((below_new' w3 _).mono B3.out.size)
      have z0 : (w3.alloc (.cells #[.int .u8 u, .int .u16 v] 24)).cell? ⟨w.heap.size, 0, none⟩ = some (.int .u8 0) := K4.out.cell 0
      have z1 : (w3.alloc (.cells #[.int .u8 u, .int .u16 v] 24)).cell? ⟨w.heap.size, 1, none⟩ = some (.int .u16 0) := K4.out.cell 1
      have f0 := K4.out.fr 0
      have f1 := K4.out.fr 1
      have P4 := Lib.hid (P3.out.ext (below_new' w3 (.cells #[.int .u8 u, .int .u16 v] 24)))
      go_wp2_with fail
      clear z0 z1 f0 f1
      refine (text_any u v (by omega) (by omega) _ P4.out.tab).mono ?_
      rintro e w5 ⟨rfl, b5⟩
      have B5 := Lib.hid (B4.out.trans (b5.mono B4.out.size))
      have K6 := Lib.hid (K4.out.ext b5)
      have K7 := Lib.hid (K5.out.ext b5)
      clear b5 B4 K4 K5 P4 P3 B3 K3
      by_cases he : s.data.toList = pidText u v
      · obtain rfl : s = ⟨(pidText u v).toArray⟩ := by
          apply ByteArray.ext
          rw [← he]
        have x0 : w5.cell? ⟨w3.heap.size, 0, none⟩ = some (.int .u8 u) := K7.out.cell 0
        have x1 : w5.cell? ⟨w3.heap.size, 1, none⟩ = some (.int .u16 v) := K7.out.cell 1
        have z0 : w5.cell? ⟨w.heap.size, 0, none⟩ = some (.int .u8 0) := K6.out.cell 0
        have z1 : w5.cell? ⟨w.heap.size, 1, none⟩ = some (.int .u16 0) := K6.out.cell 1
        have f0 := K6.out.fr 0
        have f1 := K6.out.fr 1
        clear he TXT h8 h16 K7
        go_wp2_with fail
        have K8 : Blk _ _ _ _ := (K6.out.set_ 0 (.int .u8 u)).set_ 1 (.int .u16 v)
        have y0 := K8.cell 0
        have y1 := K8.cell 1
        refine bodyPost_ret (v := .tuple #[.agg #[.int .u8 u, .int .u16 v], .bool true]) ?_ rfl ⟨below_setCell2 (below_setCell2 B5.out (Nat.le_refl _)) (Nat.le_refl _), .inl ⟨u, v, by omega, by omega, rfl, rfl⟩⟩
        simp [results, Tryd.results10, go_sem, y0, y1]
      · have hne : s ≠ ⟨(pidText u v).toArray⟩ := fun e => he (by rw [e])
        have d1 := str_ne' hne
        have d2 := str_ne' (Ne.symm hne)
        have d3 : (pidText u v == s.toList) = false := by rw [ByteArray.toList_eq]; exact beq_eq_false_iff_ne.2 (Ne.symm he)
        have d4 : (pidText u v == s.data.toList) = false := beq_eq_false_iff_ne.2 (Ne.symm he)
        have d5 : (pidText u v != s.toList) = true := by rw [ByteArray.toList_eq]; exact bne_iff_ne.2 (Ne.symm he)
        have d6 : (pidText u v != s.data.toList) = true := bne_iff_ne.2 (Ne.symm he)
        have N : Hid (∀ a n : Nat, a < 256 → n < 65536 → s.data.toList ≠ pidText a n) := fun a n ha hn e => by
          obtain ⟨e1, e2⟩ := TXT.out a n ha hn e
          have g1 : Lib.parseUintB 8 (cutD s.data.toList).1 = .ok u := h8.out
          have g2 : Lib.parseUintB 16 (cutD s.data.toList).2.1 = .ok v := h16.out
          rw [e1, parse8 (by omega)] at g1
          rw [e2, parse16 (by omega)] at g2
          injection g1 with g1
          injection g2 with g2
          subst g1 g2
          exact he e
        have z0 : w5.cell? ⟨w.heap.size, 0, none⟩ = some (.int .u8 0) := K6.out.cell 0
        have z1 : w5.cell? ⟨w.heap.size, 1, none⟩ = some (.int .u16 0) := K6.out.cell 1
        have f0 := K6.out.fr 0
        have f1 := K6.out.fr 1
        clear he TXT h8 h16 K7 hne
        go_wp2_with fail
        have K8 : Blk _ _ _ _ := (K6.out.set_ 0 (.int .u8 0)).set_ 1 (.int .u16 0)
        have y0 := K8.cell 0
        have y1 := K8.cell 1
        refine bodyPost_ret (v := .tuple #[.agg #[.int .u8 0, .int .u16 0], .bool false]) ?_ rfl ⟨below_setCell2 (below_setCell2 B5.out (Nat.le_refl _)) (Nat.le_refl _), .inr ⟨N.out, rfl⟩⟩
        simp [results, Tryd.results10, go_sem, y0, y1]
    · have N : Hid (∀ a n : Nat, a < 256 → n < 65536 → s.data.toList ≠ pidText a n) := fun a n ha hn e => by
        have := (TXT.out a n ha hn e).2
        exact h16 n (by show Lib.parseUintB 16 (cutD s.data.toList).2.1 = _; rw [this]; exact parse16 (by omega))
      clear h16
      have u0 : (0 : Int) ≤ (u : Int) := by omega
      have v0 : (0 : Int) ≤ (v : Int) := by omega
      have K4 : Hid (Blk (w3.alloc (.cells #[.int .u8 u, .int .u16 v] 24)) w.heap.size 24 #[.int .u8 0, .int .u16 0]) := K3.out.alloc _
      have K5 : Hid (Blk (w3.alloc (.cells #[.int .u8 u, .int .u16 v] 24)) w3.heap.size 24 #[.int .u8 u, .int .u16 v]) := Blk.new _ _ _
      have B4 : Hid (Below w.heap.size w (w3.alloc (.cells #[.int .u8 u, .int .u16 v] 24))) := B3.out.trans ((below_new' w3 _).mono B3.out.size)
      have z0 : (w3.alloc (.cells #[.int .u8 u, .int .u16 v] 24)).cell? ⟨w.heap.size, 0, none⟩ = some (.int .u8 0) := K4.out.cell 0
      have z1 : (w3.alloc (.cells #[.int .u8 u, .int .u16 v] 24)).cell? ⟨w.heap.size, 1, none⟩ = some (.int .u16 0) := K4.out.cell 1
      have f0 := K4.out.fr 0
      have f1 := K4.out.fr 1
      clear K5
      go_wp2_with fail
      have K6 : Blk _ _ _ _ := (K4.out.set_ 0 (.int .u8 0)).set_ 1 (.int .u16 0)
      have y0 := K6.cell 0
      have y1 := K6.cell 1
      refine bodyPost_ret (v := .tuple #[.agg #[.int .u8 0, .int .u16 0], .bool false]) ?_ rfl ⟨below_setCell2 (below_setCell2 B4.out (Nat.le_refl _)) (Nat.le_refl _), .inr ⟨N.out, rfl⟩⟩
      simp [results, Tryd.results10, go_sem, y0, y1]
  · have N : Hid (∀ a n : Nat, a < 256 → n < 65536 → s.data.toList ≠ pidText a n) := fun a n ha hn e => by
      have := (TXT.out a n ha hn e).1
      exact h8 a (by show Lib.parseUintB 8 (cutD s.data.toList).1 = _; rw [this]; exact parse8 (by omega))
    clear h8
    go_wp2_with fail
    refine (pu16_any _ w2 L2.out P2.out).mono ?_
    rintro e w3 ⟨b3, h3⟩
    have B3 := Lib.hid (B2.out.trans (b3.mono B2.out.size))
    have K3 := Lib.hid (K2.out.ext b3)
    clear b3 B2 K2 P2
    rcases h3 with ⟨v, hv, h16, rfl⟩ | ⟨v, t', p', hv, h16, rfl⟩
    · clear h16
      have u0 : (0 : Int) ≤ (u : Int) := by omega
      have v0 : (0 : Int) ≤ (v : Int) := by omega
      have K4 : Hid (Blk (w3.alloc (.cells #[.int .u8 u, .int .u16 v] 24)) w.heap.size 24 #[.int .u8 0, .int .u16 0]) := K3.out.alloc _
      have K5 : Hid (Blk (w3.alloc (.cells #[.int .u8 u, .int .u16 v] 24)) w3.heap.size 24 #[.int .u8 u, .int .u16 v]) := Blk.new _ _ _
      have B4 : Hid (Below w.heap.size w (w3.alloc (.cells #[.int .u8 u, .int .u16 v] 24))) := B3.out.trans ((below_new' w3 _).mono B3.out.size)
      have z0 : (w3.alloc (.cells #[.int .u8 u, .int .u16 v] 24)).cell? ⟨w.heap.size, 0, none⟩ = some (.int .u8 0) := K4.out.cell 0
      have z1 : (w3.alloc (.cells #[.int .u8 u, .int .u16 v] 24)).cell? ⟨w.heap.size, 1, none⟩ = some (.int .u16 0) := K4.out.cell 1
      have f0 := K4.out.fr 0
      have f1 := K4.out.fr 1
      clear K5
      go_wp2_with fail
      have K6 : Blk _ _ _ _ := (K4.out.set_ 0 (.int .u8 0)).set_ 1 (.int .u16 0)
      have y0 := K6.cell 0
      have y1 := K6.cell 1
      refine bodyPost_ret (v := .tuple #[.agg #[.int .u8 0, .int .u16 0], .bool false]) ?_ rfl ⟨below_setCell2 (below_setCell2 B4.out (Nat.le_refl _)) (Nat.le_refl _), .inr ⟨N.out, rfl⟩⟩
      simp [results, Tryd.results10, go_sem, y0, y1]
    · clear h16
      have u0 : (0 : Int) ≤ (u : Int) := by omega
      have v0 : (0 : Int) ≤ (v : Int) := by omega
      have K4 : Hid (Blk (w3.alloc (.cells #[.int .u8 u, .int .u16 v] 24)) w.heap.size 24 #[.int .u8 0, .int .u16 0]) := K3.out.alloc _
      have K5 : Hid (Blk (w3.alloc (.cells #[.int .u8 u, .int .u16 v] 24)) w3.heap.size 24 #[.int .u8 u, .int .u16 v]) := Blk.new _ _ _
      have B4 : Hid (Below w.heap.size w (w3.alloc (.cells #[.int .u8 u, .int .u16 v] 24))) := B3.out.trans ((below_new' w3 _).mono B3.out.size)
      have z0 : (w3.alloc (.cells #[.int .u8 u, .int .u16 v] 24)).cell? ⟨w.heap.size, 0, none⟩ = some (.int .u8 0) := K4.out.cell 0
      have z1 : (w3.alloc (.cells #[.int .u8 u, .int .u16 v] 24)).cell? ⟨w.heap.size, 1, none⟩ = some (.int .u16 0) := K4.out.cell 1
      have f0 := K4.out.fr 0
      have f1 := K4.out.fr 1
      clear K5
      go_wp2_with fail
      have K6 : Blk _ _ _ _ := (K4.out.set_ 0 (.int .u8 0)).set_ 1 (.int .u16 0)
      have y0 := K6.cell 0
      have y1 := K6.cell 1
      refine bodyPost_ret (v := .tuple #[.agg #[.int .u8 0, .int .u16 0], .bool false]) ?_ rfl ⟨below_setCell2 (below_setCell2 B4.out (Nat.le_refl _)) (Nat.le_refl _), .inr ⟨N.out, rfl⟩⟩
      simp [results, Tryd.results10, go_sem, y0, y1]
end Go.Proofs.YtmfdggolnfoniaaDoor
