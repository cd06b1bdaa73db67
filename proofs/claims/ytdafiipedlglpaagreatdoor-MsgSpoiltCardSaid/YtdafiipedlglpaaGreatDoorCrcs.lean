/- Bytes are spoilt by the document: walked: in 32 bits in a row at most. -/
import Derived.Test.YtdafiipedlglpaaGreatDoorCrcq
namespace Go.Proofs.YtdafiipedlglpaaGreatDoor
open Go.RowKit

/-- a byte that differs at most where it is spoilt -/
def NearB (x y : UInt8) (i : Nat) (a : Int) : Prop := ∀ j, j < 8 → y.toBitVec.getLsbD (7 - j) ≠ x.toBitVec.getLsbD (7 - j) → a ≤ ((8 * i + j : Nat) : Int) ∧ ((8 * i + j : Nat) : Int) < a + 32
theorem NearB.refl (x : UInt8) (i : Nat) (a : Int) : NearB x x i a := fun _ _ h => absurd rfl h
theorem NearB.flip {x y : UInt8} {i j : Nat} {a : Int} (h : NearB x y i a) (hj : j < 8) (h1 : a ≤ ((8 * i + j : Nat) : Int)) (h2 : ((8 * i + j : Nat) : Int) < a + 32) : NearB x (y ^^^ UInt8.ofNat (2 ^ (7 - j))) i a := fun q hq hne => by
  by_cases e : q = j
  · subst e; exact ⟨h1, h2⟩
  · refine h q hq fun h3 => hne ?_
    rw [UInt8.toBitVec_xor, BitVec.getLsbD_xor, pow_bit (by omega), decide_eq_false (by omega), Bool.xor_false]
    exact h3
def SpoilAt (l m : List UInt8) (a : Int) : Prop := ∀ (i : Nat) (x y : UInt8), l[i]? = some x → m[i]? = some y → NearB x y i a
theorem SpoilAt.nil (l : List UInt8) (a : Int) : SpoilAt l [] a := fun _ _ _ _ h => by simp at h
theorem SpoilAt.snoc {l m : List UInt8} {a : Int} {x y : UInt8} (h : SpoilAt l m a) (hx : l[m.length]? = some x) (hn : NearB x y m.length a) : SpoilAt l (m ++ [y]) a := fun i x' y' h1 h2 => by
  rcases Nat.lt_or_ge i m.length with c | c
  · rw [List.getElem?_append_left c] at h2
    exact h i x' y' h1 h2
  · rw [List.getElem?_append_right c] at h2
    match e : i - m.length, h2 with
    | 0, h2 =>
      have e2 : i = m.length := by omega
      subst e2
      rw [hx] at h1
      have h3 : y = y' := by simpa using h2
      rw [← Option.some.inj h1, ← h3]
      exact hn
    | q + 1, h2 => simp at h2
theorem SpoilAt.near {l m : List UInt8} {a : Int} (h : SpoilAt l m a) (hl : m.length = l.length) : Near l m a := ⟨hl, fun p hp => by
  rw [bitsU_get, bitsU_get] at hp
  rcases Nat.lt_or_ge (p / 8) l.length with c | c
  · have h1 : l[p / 8]? = some l[p / 8] := List.getElem?_eq_getElem c
    have h2 : m[p / 8]? = some (m[p / 8]'(by omega)) := List.getElem?_eq_getElem (by omega)
    rw [h1, h2] at hp
    have := h _ _ _ h1 h2 (p % 8) (Nat.mod_lt _ (by omega)) fun e => hp (by show some _ = some _; rw [e])
    have e : 8 * (p / 8) + p % 8 = p := Nat.div_add_mod p 8
    rwa [e] at this
  · rw [List.getElem?_eq_none (by omega), List.getElem?_eq_none (by omega)] at hp
    exact absurd rfl hp⟩
def BitRet (w : World) (e : Ending) (w' : World) : Prop := (∃ b : Bool, e = .returned (.bool b)) ∧ w' = w
set_option maxRecDepth 100000 in
set_option maxHeartbeats 2000000 in
theorem bit05_any (z : Int) (h0 : 0 ≤ z) (h1 : z < 4294967296) (i : Nat) (hi : i < 32) (w : World) : Calls Tryz.prog 97 #[.int .u32 z, .int .i64 (i : Int)] w (BitRet w) := by
  go_enter Tryz.func97, Tryz.ntmps97
  go_wp2_with fail
  go_loop [0, 5] (fun m k => ∃ (y : Int) (q : Nat), m = .int .u32 y ∧ k = .int .i64 (q : Int) ∧ 0 ≤ y ∧ y < 4294967296 ∧ i ≤ q ∧ q ≤ 31) (fun _ k => (intOf k).toNat)
  case atStart => exact ⟨z, 31, rfl, rfl, h0, h1, by omega, by omega⟩
  case round =>
    obtain ⟨y, q, rfl, rfl, hy0, hy1, hq, hq1⟩ := hrel
    by_cases hlt : i < q
    · have hlk : (i : Int) < (q : Int) := by omega
      have D : ∀ u : World, (binOp .quo 47 (.int .u32 y) (.int .u32 2)).run Tryz.prog u = .ok (.int .u32 (y / 2)) u := fun u => by
        have e : Int.tdiv y 2 = y / 2 := Int.tdiv_eq_ediv_of_nonneg hy0
        have e2 : IntKind.u32.wrap (y / 2) = y / 2 := IntWalk.u32_in _ (by omega)
        simp [go_sem, e, e2]
      have hd0 : 0 ≤ y / 2 := by omega
      have hd1 : y / 2 < 4294967296 := by omega
      have D := Lib.hid D
      generalize y / 2 = y2 at *
      go_wp2_with ((with_reducible refine wpList_comp ?_ ?_ ?_ (D.out _) ?_); rfl; rfl; rfl)
      go_round
      case rel => exact ⟨y2, q - 1, rfl, by go_num, hd0, hd1, by omega, by omega⟩
      case measure => simp [intOf]; omega
    · have hlk : ¬ (i : Int) < (q : Int) := by omega
      go_wp2_with fail
      go_ret
      exact ⟨⟨_, rfl⟩, rfl⟩
theorem xor8p (y : UInt8) {k : Nat} (hk : k < 8) (w : World) : (binOp .xor 5 (.int .u8 ((y.toNat : Nat) : Int)) (.int .u8 ((2 ^ k : Nat) : Int))).run Tryz.prog w = .ok (.int .u8 (((y ^^^ UInt8.ofNat (2 ^ k)).toNat : Nat) : Int)) w := by
  have h2 : 2 ^ k < 256 := show 2 ^ k < 2 ^ 8 from Nat.pow_lt_pow_right (by omega) hk
  have e : (y ^^^ UInt8.ofNat (2 ^ k)).toNat = y.toNat ^^^ 2 ^ k := by rw [UInt8.toNat_xor, ofNat_toNat h2]
  rw [e, ← u8_xor_nat _ _ y.toNat_lt h2]
  simp [go_sem]
theorem half8 {k : Nat} (hk : k < 7) (w : World) : (binOp .quo 5 (.int .u8 ((2 ^ (7 - k) : Nat) : Int)) (.int .u8 2)).run Tryz.prog w = .ok (.int .u8 ((2 ^ (7 - (k + 1)) : Nat) : Int)) w := by
  have : k = 0 ∨ k = 1 ∨ k = 2 ∨ k = 3 ∨ k = 4 ∨ k = 5 ∨ k = 6 := by omega
  rcases this with rfl | rfl | rfl | rfl | rfl | rfl | rfl <;> simp [go_sem] <;> decide
def SpoilRet (w : World) (l : List UInt8) (a : Int) (e : Ending) (w' : World) : Prop := ∃ v m, e = .returned v ∧ Near l m a ∧ w'.ownsRow w.heap.size 5 1 v m.length (encB m) ∧ Below w.heap.size w w'
set_option maxRecDepth 100000 in
set_option maxHeartbeats 4000000 in
theorem spoil_any (l : List UInt8) (w : World) (A : Option Addr) (n c : Nat) (h : BytesAt w A n c l) (hm : n ≤ 10000000) (a : Int) (ha0 : -9223372036854775808 ≤ a) (ha1 : a ≤ 9223372036854775807) (z : Int) (hz0 : 0 ≤ z) (hz1 : z < 4294967296) :
    Calls Tryz.prog 24 #[.slice A n c, .int .i64 a, .int .u32 z] w (SpoilRet w l a) := by
  have hl := Lib.hid h.len
  have H := Lib.hid h
  have O0 := Lib.hid (World.ownsRow_nil w w.heap.size 5 1)
  have BR := Lib.hid (Below.refl w.heap.size w)
  have HB := Lib.hid (fun i (hi : i < 32) u => bit05_any z hz0 hz1 i hi u)
  clear h hz0 hz1
  go_enter Tryz.func24, Tryz.ntmps24
  go_wp2_with fail
  go_loopw [7, 8] (fun v i wr => ∃ (k c' : Nat) (A' : Option Addr) (m : List UInt8), k ≤ n ∧ v = .slice A' k c' ∧ i = .int .i64 (k : Int) ∧ Hid (m.length = k) ∧ Hid (wr.ownsRow w.heap.size 5 1 (.slice A' k c') k (encB m)) ∧ Hid (SpoilAt l m a) ∧ Hid (Below w.heap.size w wr)) (fun _ i _ => n - (intOf i).toNat)
  case atStart => exact ⟨0, 0, none, [], by omega, rfl, rfl, rfl, O0.out, SpoilAt.nil _ _, BR.out⟩
  case round =>
    clear O0 BR
    obtain ⟨k, c', A', m, hk, rfl, rfl, hml, O, SP, B⟩ := hrel
    obtain ⟨wi, rfl⟩ : ∃ wx, wx = wr := ⟨_, rfl⟩
    have hk0 : (0 : Int) ≤ (k : Int) := by omega
    by_cases hlt : k < n
    · have hlk : (k : Int) < (n : Int) := by omega
      obtain ⟨b, o, x, hA, hb, hx, hc⟩ := (H.out.ext B.out).at_ hlt
      subst hA
      have SN := Lib.hid (fun y (hn : NearB x y k a) => SP.out.snoc (x := x) (y := y) (by rw [hml.out]; exact hx) (by rw [hml.out]; exact hn))
      clear hx hb
      go_wp2_with fail
      clear hc
      go_loop [9, 10] (fun xv kv => ∃ (j : Nat) (y : UInt8), j ≤ 8 ∧ xv = .int .u8 ((y.toNat : Nat) : Int) ∧ kv = .int .i64 (j : Int) ∧ Hid (NearB x y k a)) (fun _ kv => 8 - (intOf kv).toNat)
      case atStart => exact ⟨0, x, by omega, rfl, rfl, NearB.refl _ _ _⟩
      case round =>
        obtain ⟨j, y, hj, rfl, rfl, NB⟩ := hrel
        have hj0 : (0 : Int) ≤ (j : Int) := by omega
        by_cases hj8 : j < 8
        · have hji : (j : Int) < 8 := by omega
          have NF := Lib.hid (fun h1 h2 => NB.out.flip hj8 h1 h2)
          by_cases c1 : a ≤ ((8 * k + j : Nat) : Int)
          · have c1' : a ≤ 8 * (k : Int) + (j : Int) := by omega
            by_cases c2 : ((8 * k + j : Nat) : Int) < a + 32
            · have c2' : 8 * (k : Int) + (j : Int) - 32 < a := by omega
              obtain ⟨q, hq⟩ : ∃ q : Nat, (q : Int) = 8 * (k : Int) + (j : Int) - a := ⟨(8 * (k : Int) + (j : Int) - a).toNat, by omega⟩
              have hq32 : q < 32 := by omega
              have HQ := Lib.hid (HB.out q hq32 wi)
              rw [hq] at HQ
              have NY := Lib.hid (NF.out c1 c2)
              have X1 := Lib.hid (fun u => xor8p y (k := 7 - j) (by omega) u)
              have sb1 : -9223372036854775808 ≤ 8 * (k : Int) + (j : Int) - a := by omega
              have sb2 : 8 * (k : Int) + (j : Int) - a < 9223372036854775808 := by omega
              clear NF c1 c2 hq hq32
              go_wp2_with fail
              refine HQ.out.mono ?_
              rintro e _ ⟨⟨bb, rfl⟩, rfl⟩
              cases bb
              · go_wp2_with fail
                go_round
                case rel => exact ⟨j + 1, y, by omega, rfl, by go_num, NB.out⟩
                case measure => simp [intOf]; omega
              · go_wp2_with fail
                go_loop [12, 13] (fun ov jv => ∃ i : Nat, i ≤ j ∧ ov = .int .u8 ((2 ^ (7 - i) : Nat) : Int) ∧ jv = .int .i64 (i : Int)) (fun _ jv => j - (intOf jv).toNat)
                case atStart => exact ⟨0, by omega, rfl, rfl⟩
                case round =>
                  obtain ⟨i, hi, rfl, rfl⟩ := hrel
                  have hi0 : (0 : Int) ≤ (i : Int) := by omega
                  by_cases hij : i < j
                  · have hii : (i : Int) < (j : Int) := by omega
                    have D := Lib.hid (fun u => half8 (k := i) (by omega) u)
                    obtain ⟨p1, hp1⟩ : ∃ p1, p1 = ((2 ^ (7 - (i + 1)) : Nat) : Int) := ⟨_, rfl⟩
                    rw [← hp1] at D
                    replace hp1 := Lib.hid hp1
                    generalize ((2 ^ (7 - i) : Nat) : Int) = p0 at *
                    go_wp2_with ((with_reducible refine wpList_comp ?_ ?_ ?_ (D.out _) ?_); rfl; rfl; rfl)
                    go_round
                    case rel => exact ⟨i + 1, by omega, by rw [hp1.out], by go_num⟩
                    case measure => simp [intOf]; omega
                  · have hii : ¬ (i : Int) < (j : Int) := by omega
                    have eij : i = j := by omega
                    subst eij
                    generalize ((2 ^ (7 - i) : Nat) : Int) = p0 at *
                    generalize y ^^^ UInt8.ofNat (2 ^ (7 - i)) = y2 at *
                    go_wp2_with ((with_reducible refine wpList_comp ?_ ?_ ?_ (X1.out _) ?_); rfl; rfl; rfl)
                    go_round
                    case rel => exact ⟨i + 1, y2, by omega, rfl, by go_num, NY.out⟩
                    case measure => simp [intOf]; omega
            · have c2' : ¬ 8 * (k : Int) + (j : Int) - 32 < a := by omega
              go_wp2_with fail
              go_round
              case rel => exact ⟨j + 1, y, by omega, rfl, by go_num, NB.out⟩
              case measure => simp [intOf]; omega
          · have c1' : ¬ a ≤ 8 * (k : Int) + (j : Int) := by omega
            go_wp2_with fail
            go_round
            case rel => exact ⟨j + 1, y, by omega, rfl, by go_num, NB.out⟩
            case measure => simp [intOf]; omega
        · have hji : ¬ (j : Int) < 8 := by omega
          have S2 := Lib.hid (SN.out y NB.out)
          have G : Hid (w.heap.size ≤ wi.heap.size) := B.out.size
          have ML : Hid ((m ++ [y]).length = k + 1) := by rw [Hid, List.length_append, hml.out]; rfl
          have EB : Hid (encB (m ++ [y]) = encB m ++ [.int .u8 ((y.toNat : Nat) : Int)]) := by rw [Hid, encB_append]; rfl
          clear SN NB SP
          go_wp2_with (at_builtin; refine wpList_pushF byteSl O.out [.int .u8 ((y.toNat : Nat) : Int)] rfl (by simp [Value.oneCell']) G.out (by omega) (by unfold maxLen; omega) (by rfl) (by rfl) (by rfl) ?_; intro v1 w6 own1 kp hv1)
          obtain ⟨A6, c6, rfl, _, _⟩ := Sl.of_own own1
          rw [← EB.out] at own1
          have B6 := Lib.hid (B.out.trans (kp.below (fun k e => (O.out.lt k e).1) B.out.size))
          have O6 := Lib.hid own1
          clear own1 kp hv1 O B
          go_roundw
          case rel => exact ⟨k + 1, c6, A6, m ++ [y], by omega, rfl, by go_num, ML.out, O6.out, S2.out, B6.out⟩
          case measure => simp [intOf]; omega
    · have hlk : ¬ (k : Int) < (n : Int) := by omega
      have hkn : k = n := by omega
      subst hkn
      have NR := Lib.hid (SP.out.near (by rw [hml.out, hl.out]))
      go_wp2_with fail
      go_ret
      exact ⟨_, m, rfl, NR.out, by rw [hml.out]; exact O.out, B.out⟩
end Go.Proofs.YtdafiipedlglpaaGreatDoor
