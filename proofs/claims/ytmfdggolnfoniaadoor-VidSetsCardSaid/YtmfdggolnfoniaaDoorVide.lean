/- vid.Parse. -/
import Derived.Test.YtmfdggolnfoniaaDoorVidd
import Derived.Test.YtmfdggolnfoniaaDoorParu
import Derived.Test.YtmfdggolnfoniaaDoorPidParsesw
namespace Go.Proofs.YtmfdggolnfoniaaDoor
open Go.RowKit

/-- the last dot of a text -/
theorem last_dot {s : ByteArray} : (Lib.lastIndexByte s 46 = -1 ∧ ∀ a n m : Nat, s.data.toList ≠ vidText a n m) ∨
    ∃ i : Nat, Lib.lastIndexByte s 46 = i ∧ i < s.size ∧ ∀ a n m : Nat, s.data.toList = vidText a n m → s.data.toList.take i = pidText a n ∧ s.data.toList.drop (i + 1) = Lib.itoa (m : Int) := by
  have hl : s.data.toList.length = s.size := Array.length_toList
  have key : ∀ j : Nat, j < s.size → ((s.data[j]!).toNat : Int) ≠ 46 → s.data.toList[j]? ≠ some 46 := by
    intro j hj hne e
    have hj' : j < s.data.size := hj
    rw [Array.getElem?_toList, Array.getElem?_eq_getElem hj'] at e
    injection e with e
    apply hne
    rw [getElem!_pos s.data j hj', e]; rfl
  rcases Lib.lastIdx_spec s 46 s.size with ⟨h1, h2⟩ | ⟨i, hi, h1, h2, h3⟩
  · refine .inl ⟨h1, fun a n m e => ?_⟩
    have hp : (pidText a n).length < s.size := by rw [← hl, e]; unfold vidText; simp
    refine key _ hp (h2 _ hp) ?_
    rw [e]; unfold vidText; simp
  · refine .inr ⟨i, h1, hi, fun a n m e => ?_⟩
    have hp : (pidText a n).length < s.size := by rw [← hl, e]; unfold vidText; simp
    have hd : s.data.toList[(pidText a n).length]? = some 46 := by rw [e]; unfold vidText; simp
    have e1 : i = (pidText a n).length := by
      rcases Nat.lt_trichotomy i (pidText a n).length with h | h | h
      · exact absurd hd (key _ hp (h3 _ h hp))
      · exact h
      · exfalso
        have hi' : i < s.data.size := hi
        have c1 : s.data.toList[i]? = some 46 := by
          rw [Array.getElem?_toList, Array.getElem?_eq_getElem hi']
          congr 1
          rw [getElem!_pos s.data i hi'] at h2
          exact UInt8.toNat_inj.1 (by show (s.data[i]).toNat = 46; omega)
        rw [e] at c1
        unfold vidText at c1
        rw [List.getElem?_append_right (by omega)] at c1
        obtain ⟨q, hq⟩ : ∃ q, i - (pidText a n).length = q + 1 := ⟨i - (pidText a n).length - 1, by omega⟩
        rw [hq, List.getElem?_cons_succ] at c1
        exact itoa_dot m 46 (List.mem_of_getElem? c1) rfl
    subst e1
    rw [e]; unfold vidText; simp
def VRet (s : List UInt8) (w : World) (e : Ending) (w' : World) : Prop := Below w.heap.size w w' ∧ ((∃ a n m : Nat, a < 256 ∧ n < 65536 ∧ m < 256 ∧ s = vidText a n m ∧ e = .returned (.tuple #[.agg #[.int .u8 a, .int .u16 n, .int .u8 m], .bool true])) ∨ ((∀ a n m : Nat, a < 256 → n < 65536 → m < 256 → s ≠ vidText a n m) ∧ e = .returned (.tuple #[.agg #[.int .u8 0, .int .u16 0, .int .u8 0], .bool false])))

set_option maxRecDepth 100000 in
set_option maxHeartbeats 8000000 in
theorem vparse_any (s : ByteArray) (w : World) (hs : s.size ≤ 100) (hp : PW w) : Calls Tryd.prog 19 #[.string s] w (VRet s.data.toList w) := by
  have B0 : Hid (Below w.heap.size w (w.alloc (.cells #[.int .u8 0, .int .u16 0, .int .u8 0] 36))) := below_new _ _
  have K0 : Hid (Blk (w.alloc (.cells #[.int .u8 0, .int .u16 0, .int .u8 0] 36)) w.heap.size 36 #[.int .u8 0, .int .u16 0, .int .u8 0]) := Blk.new _ _ _
  have P0 := Lib.hid (hp.ext B0.out)
  have HL := Lib.hid (fun w0 => Tryd.strings_LastIndexByte s 46 (by omega) w0)
  clear hp
  rcases last_dot (s := s) with ⟨hk, hno⟩ | ⟨i, hk, hi, hyes⟩
  · have N : Hid (∀ a n m : Nat, a < 256 → n < 65536 → m < 256 → s.data.toList ≠ vidText a n m) := fun a n m _ _ _ => hno a n m
    rw [hk] at HL
    clear hk hno
    have z0 : (w.alloc (.cells #[.int .u8 0, .int .u16 0, .int .u8 0] 36)).cell? ⟨w.heap.size, 0, none⟩ = some (.int .u8 0) := K0.out.cell 0
    have z1 : (w.alloc (.cells #[.int .u8 0, .int .u16 0, .int .u8 0] 36)).cell? ⟨w.heap.size, 1, none⟩ = some (.int .u16 0) := K0.out.cell 1
    have z2 : (w.alloc (.cells #[.int .u8 0, .int .u16 0, .int .u8 0] 36)).cell? ⟨w.heap.size, 2, none⟩ = some (.int .u8 0) := K0.out.cell 2
    have f0 := K0.out.fr 0
    have f1 := K0.out.fr 1
    have f2 := K0.out.fr 2
    go_enter Tryd.func19, Tryd.ntmps19
    go_wp2_with fail
    generalize w.alloc (.cells #[.int .u8 0, .int .u16 0, .int .u8 0] 36) = w0 at *
    refine (HL.out w0).mono ?_
    rintro e w1 ⟨rfl, rfl⟩
    go_wp2_with fail
    have y0 := (K0.out.set_ 0 (.int .u8 0)).cell 0
    have y1 := ((K0.out.set_ 0 (.int .u8 0)).set_ 1 (.int .u16 0)).cell 1
    have y2 := (((K0.out.set_ 0 (.int .u8 0)).set_ 1 (.int .u16 0)).set_ 2 (.int .u8 0)).cell 2
    refine bodyPost_ret (v := .tuple #[.agg #[.int .u8 0, .int .u16 0, .int .u8 0], .bool false]) ?_ rfl ⟨below_setCell (below_setCell (below_setCell B0.out (Nat.le_refl _)) (Nat.le_refl _)) (Nat.le_refl _), .inr ⟨N.out, rfl⟩⟩
    simp [results, Tryd.results19, go_sem, y0, y1, y2]
  · rw [hk] at HL
    have c1 : (0 : Int) ≤ (i : Int) := by omega
    have c2 : (i : Int) ≤ (s.size : Int) := by omega
    have c3 : (0 : Int) ≤ (i : Int) + 1 := by omega
    have c4 : (i : Int) + 1 ≤ (s.size : Int) := by omega
    have S1 : Hid ((s.extract 0 i).size ≤ 100) := by rw [Hid, ByteArray.size_extract]; omega
    have S2 : Hid ((s.extract (i + 1) s.size).size ≤ 100) := by rw [Hid, ByteArray.size_extract]; omega
    have E1 : Hid ((s.extract 0 i).data.toList = s.data.toList.take i) := by rw [Hid, extract_take]
    have E2 : Hid ((s.extract (i + 1) s.size).data.toList = s.data.toList.drop (i + 1)) := by rw [Hid, extract_drop]
    have Y := Lib.hid hyes
    clear hk hyes
    go_enter Tryd.func19, Tryd.ntmps19
    go_wp2_with fail
    generalize w.alloc (.cells #[.int .u8 0, .int .u16 0, .int .u8 0] 36) = w0 at *
    refine (HL.out w0).mono ?_
    rintro e w1 ⟨rfl, rfl⟩
    go_wp2_with fail
    refine (parse_any (s.extract 0 i) w1 S1.out P0.out).mono ?_
    rintro e w2 h2
    obtain ⟨a, n, b, ha, hn, rfl, b2, r2⟩ := parse_form h2
    have R2 := Lib.hid r2
    have HA := Lib.hid ha
    have HN := Lib.hid hn
    have B2 : Hid (Below w.heap.size w (w2.alloc (.cells #[.int .u8 a, .int .u16 n] 24))) := (B0.out.trans (b2.mono B0.out.size)).trans ((below_new w2 _).mono (Nat.le_trans B0.out.size b2.size))
    have K2 := Lib.hid ((K0.out.ext b2).alloc (.cells #[.int .u8 a, .int .u16 n] 24))
    have P2 := Lib.hid ((P0.out.ext b2).ext (below_new w2 (.cells #[.int .u8 a, .int .u16 n] 24)))
    have M2 : Hid (Blk (w2.alloc (.cells #[.int .u8 a, .int .u16 n] 24)) w2.heap.size 24 #[.int .u8 a, .int .u16 n]) := Blk.new _ _ _
    clear h2 b2 r2 ha hn B0 K0 P0 HL
    go_wp2_with fail
    generalize w2.alloc (.cells #[.int .u8 a, .int .u16 n] 24) = w3 at *
    generalize w2.heap.size = g5 at *
    refine (pu8_any (s.extract (i + 1) s.size) w3 S2.out P2.out).mono ?_
    rintro e w4 ⟨b4, h4⟩
    have B4 := Lib.hid (B2.out.trans (b4.mono B2.out.size))
    have K4 := Lib.hid (K2.out.ext b4)
    have P4 := Lib.hid (P2.out.ext b4)
    have M4 := Lib.hid (M2.out.ext b4)
    clear b4 B2 K2 P2 M2
    have hu : ∃ (u : Nat) (v : Value), u ≤ 255 ∧ e = .returned (.tuple #[.int .u64 u, v]) ∧ ((v = .nilIface ∧ Lib.parseUintB 8 (s.data.toList.drop (i + 1)) = .ok u) ∨ (∃ t p, v = .iface t p) ∧ ∀ m, Lib.parseUintB 8 (s.data.toList.drop (i + 1)) ≠ .ok m) := by
      rcases h4 with ⟨u, h1, h2, h3⟩ | ⟨u, t, p, h1, h2, h3⟩
      · exact ⟨u, _, h1, h3, .inl ⟨rfl, by rw [← E2.out]; exact h2⟩⟩
      · exact ⟨u, _, h1, h3, .inr ⟨⟨t, p, rfl⟩, by rw [← E2.out]; exact h2⟩⟩
    obtain ⟨u, v, hu, rfl, hv⟩ := hu
    have V := Lib.hid hv
    have u0 : (0 : Int) ≤ (u : Int) := by omega
    clear hv h4
    have q0 : w4.cell? ⟨g5, 0, none⟩ = some (.int .u8 a) := M4.out.cell 0
    have q1 : w4.cell? ⟨g5, 1, none⟩ = some (.int .u16 n) := M4.out.cell 1
    have B5 : Hid (Below w.heap.size w (w4.alloc (.cells #[.int .u8 a, .int .u16 n, .int .u8 u] 36))) := B4.out.trans ((below_new w4 _).mono B4.out.size)
    have K5 := Lib.hid (K4.out.alloc (.cells #[.int .u8 a, .int .u16 n, .int .u8 u] 36))
    have P5 := Lib.hid (P4.out.ext (below_new w4 (.cells #[.int .u8 a, .int .u16 n, .int .u8 u] 36)))
    have M5 : Hid (Blk (w4.alloc (.cells #[.int .u8 a, .int .u16 n, .int .u8 u] 36)) w4.heap.size 36 #[.int .u8 a, .int .u16 n, .int .u8 u]) := Blk.new _ _ _
    have z0 : (w4.alloc (.cells #[.int .u8 a, .int .u16 n, .int .u8 u] 36)).cell? ⟨w.heap.size, 0, none⟩ = some (.int .u8 0) := K5.out.cell 0
    have z1 : (w4.alloc (.cells #[.int .u8 a, .int .u16 n, .int .u8 u] 36)).cell? ⟨w.heap.size, 1, none⟩ = some (.int .u16 0) := K5.out.cell 1
    have z2 : (w4.alloc (.cells #[.int .u8 a, .int .u16 n, .int .u8 u] 36)).cell? ⟨w.heap.size, 2, none⟩ = some (.int .u8 0) := K5.out.cell 2
    have f0 := K5.out.fr 0
    have f1 := K5.out.fr 1
    have f2 := K5.out.fr 2
    clear B4 K4 P4 M4
    by_cases hok : b = true ∧ v = .nilIface
    · obtain ⟨rfl, rfl⟩ := hok
      have U : Hid (Lib.parseUintB 8 (s.data.toList.drop (i + 1)) = .ok u) := by
        rcases V.out with h | ⟨⟨t, p, h⟩, _⟩
        · exact h.2
        · cases h
      have Q : Hid (s.data.toList.take i = pidText a n) := by
        rw [Hid, ← E1.out]
        rcases R2.out with h | h
        · exact h.2
        · cases h.1
      clear V R2
      go_wp2_with fail
      clear z0 z1 z2 f0 f1 f2 q0 q1
      generalize w4.alloc (.cells #[.int .u8 a, .int .u16 n, .int .u8 u] 36) = w5 at *
      generalize w4.heap.size = g9 at *
      refine (vtext_any a n u HA.out HN.out (by omega) w5 P5.out.tab).mono ?_
      rintro e w6 ⟨rfl, b6⟩
      have B6 := Lib.hid (B5.out.trans (b6.mono B5.out.size))
      have K6 := Lib.hid (K5.out.ext b6)
      have M6 := Lib.hid (M5.out.ext b6)
      clear b6 B5 K5 M5 P5
      have z0 : w6.cell? ⟨w.heap.size, 0, none⟩ = some (.int .u8 0) := K6.out.cell 0
      have z1 : w6.cell? ⟨w.heap.size, 1, none⟩ = some (.int .u16 0) := K6.out.cell 1
      have z2 : w6.cell? ⟨w.heap.size, 2, none⟩ = some (.int .u8 0) := K6.out.cell 2
      have f0 := K6.out.fr 0
      have f1 := K6.out.fr 1
      have f2 := K6.out.fr 2
      by_cases he : s.data.toList = vidText a n u
      · obtain rfl : s = ⟨(vidText a n u).toArray⟩ := by
          apply ByteArray.ext
          rw [← he]
        have x0 : w6.cell? ⟨g9, 0, none⟩ = some (.int .u8 a) := M6.out.cell 0
        have x1 : w6.cell? ⟨g9, 1, none⟩ = some (.int .u16 n) := M6.out.cell 1
        have x2 : w6.cell? ⟨g9, 2, none⟩ = some (.int .u8 u) := M6.out.cell 2
        clear he Y U Q M6 E1 E2 S1 S2
        go_wp2_with fail
        have y0 := (K6.out.set_ 0 (.int .u8 a)).cell 0
        have y1 := ((K6.out.set_ 0 (.int .u8 a)).set_ 1 (.int .u16 n)).cell 1
        have y2 := (((K6.out.set_ 0 (.int .u8 a)).set_ 1 (.int .u16 n)).set_ 2 (.int .u8 u)).cell 2
        refine bodyPost_ret (v := .tuple #[.agg #[.int .u8 a, .int .u16 n, .int .u8 u], .bool true]) ?_ rfl ⟨below_setCell (below_setCell (below_setCell B6.out (Nat.le_refl _)) (Nat.le_refl _)) (Nat.le_refl _), .inl ⟨a, n, u, HA.out, HN.out, by omega, rfl, rfl⟩⟩
        simp [results, Tryd.results19, go_sem, y0, y1, y2]
      · have d3 : (vidText a n u == s.toList) = false := by rw [ByteArray.toList_eq]; exact beq_eq_false_iff_ne.2 (Ne.symm he)
        have d4 : (vidText a n u == s.data.toList) = false := beq_eq_false_iff_ne.2 (Ne.symm he)
        have d5 : (vidText a n u != s.toList) = true := by rw [ByteArray.toList_eq]; exact bne_iff_ne.2 (Ne.symm he)
        have d6 : (vidText a n u != s.data.toList) = true := bne_iff_ne.2 (Ne.symm he)
        have N : Hid (∀ a n m : Nat, a < 256 → n < 65536 → m < 256 → s.data.toList ≠ vidText a n m) := fun a' n' m' ha' hn' hm' e => by
          obtain ⟨e1, e2⟩ := Y.out a' n' m' e
          have q1 := Q.out
          rw [e1] at q1
          obtain ⟨rfl, rfl⟩ := pidText_inj q1
          have q2 := U.out
          rw [e2, parse8 (by omega)] at q2
          injection q2 with q2
          subst q2
          exact he e
        clear he Y U Q M6 E1 E2 S1 S2
        go_wp2_with fail
        have y0 := (K6.out.set_ 0 (.int .u8 0)).cell 0
        have y1 := ((K6.out.set_ 0 (.int .u8 0)).set_ 1 (.int .u16 0)).cell 1
        have y2 := (((K6.out.set_ 0 (.int .u8 0)).set_ 1 (.int .u16 0)).set_ 2 (.int .u8 0)).cell 2
        refine bodyPost_ret (v := .tuple #[.agg #[.int .u8 0, .int .u16 0, .int .u8 0], .bool false]) ?_ rfl ⟨below_setCell (below_setCell (below_setCell B6.out (Nat.le_refl _)) (Nat.le_refl _)) (Nat.le_refl _), .inr ⟨N.out, rfl⟩⟩
        simp [results, Tryd.results19, go_sem, y0, y1, y2]
    · have N : Hid (∀ a n m : Nat, a < 256 → n < 65536 → m < 256 → s.data.toList ≠ vidText a n m) := fun a' n' m' ha' hn' hm' e => by
        obtain ⟨e1, e2⟩ := Y.out a' n' m' e
        rcases R2.out with ⟨hb, h⟩ | ⟨hb, _, _, h⟩
        · rcases V.out with ⟨hv, _⟩ | ⟨_, h'⟩
          · exact hok ⟨hb, hv⟩
          · refine h' m' ?_
            rw [e2]; exact parse8 (by omega)
        · exact h a' n' ha' hn' (by rw [E1.out]; exact e1)
      have hcase : b = false ∨ (b = true ∧ ∃ t p, v = .iface t p) := by
        cases b with
        | false => exact .inl rfl
        | true =>
          right
          refine ⟨rfl, ?_⟩
          rcases V.out with h | ⟨h, _⟩
          · exact absurd ⟨rfl, h.1⟩ hok
          · exact h
      have hv2 : v = .nilIface ∨ ∃ t p, v = .iface t p := by
        rcases V.out with h | h
        · exact .inl h.1
        · exact .inr h.1
      clear Y V R2 hok E1 E2 S1 S2
      have fin : ∀ (bb : Bool) (vv : Value), True := fun _ _ => trivial
      clear fin
      rcases hcase with rfl | ⟨rfl, t, p, rfl⟩
      · rcases hv2 with rfl | ⟨t, p, rfl⟩
        all_goals
          go_wp2_with fail
          have y0 := (K5.out.set_ 0 (.int .u8 0)).cell 0
          have y1 := ((K5.out.set_ 0 (.int .u8 0)).set_ 1 (.int .u16 0)).cell 1
          have y2 := (((K5.out.set_ 0 (.int .u8 0)).set_ 1 (.int .u16 0)).set_ 2 (.int .u8 0)).cell 2
          refine bodyPost_ret (v := .tuple #[.agg #[.int .u8 0, .int .u16 0, .int .u8 0], .bool false]) ?_ rfl ⟨below_setCell (below_setCell (below_setCell B5.out (Nat.le_refl _)) (Nat.le_refl _)) (Nat.le_refl _), .inr ⟨N.out, rfl⟩⟩
          simp [results, Tryd.results19, go_sem, y0, y1, y2]
      · clear hv2
        go_wp2_with fail
        have y0 := (K5.out.set_ 0 (.int .u8 0)).cell 0
        have y1 := ((K5.out.set_ 0 (.int .u8 0)).set_ 1 (.int .u16 0)).cell 1
        have y2 := (((K5.out.set_ 0 (.int .u8 0)).set_ 1 (.int .u16 0)).set_ 2 (.int .u8 0)).cell 2
        refine bodyPost_ret (v := .tuple #[.agg #[.int .u8 0, .int .u16 0, .int .u8 0], .bool false]) ?_ rfl ⟨below_setCell (below_setCell (below_setCell B5.out (Nat.le_refl _)) (Nat.le_refl _)) (Nat.le_refl _), .inr ⟨N.out, rfl⟩⟩
        simp [results, Tryd.results19, go_sem, y0, y1, y2]
end Go.Proofs.YtmfdggolnfoniaaDoor
