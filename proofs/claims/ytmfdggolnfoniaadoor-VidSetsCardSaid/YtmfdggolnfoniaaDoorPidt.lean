/- Names of patches: their texts. -/
import Derived.Test.YtmfdggolnfoniaaDoorPidw
import Derived.Test.YtmfdggolnfoniaaDoorShelf
import Derived.Laws.IdiomStrings
import Derived.Lib.ItoaLen
import Derived.Sort.Grow
namespace Go.Proofs.YtmfdggolnfoniaaDoor
open Go.RowKit

/-- a slice of one new byte, as a text -/
theorem conv_one (w : World) (c : Nat) (h : c < 256) : (convert 84 9 (.slice (some ⟨w.heap.size, 0, none⟩) 1 1)).run Tryd.prog (w.alloc (.cells #[.int .u8 c] 5)) = .ok (.string ⟨#[UInt8.ofNat c]⟩) (w.alloc (.cells #[.int .u8 c] 5)) := by
  refine run_convert_bytes_back (P := Tryd.prog) (w.alloc (.cells #[.int .u8 c] 5)) 84 9 5 ⟨w.heap.size, 0, none⟩ 1 [UInt8.ofNat c] Tryd.underlying84 Tryd.underlying5 Tryd.underlying9 ?_
  intro j hj
  have hj0 : j = 0 := by simpa using hj
  subst hj0
  have ea : (⟨w.heap.size, 0, none⟩ : Addr).add 0 = ⟨w.heap.size, 0, none⟩ := rfl
  rw [ea, (Blk.new w 5 #[.int .u8 c]).cell 0]
  simp [Nat.mod_eq_of_lt h]
def dgt (m : Nat) : UInt8 := UInt8.ofNat (48 + m % 10)
theorem conv_dig (w : World) (m : Nat) : (convert 84 9 (.slice (some ⟨w.heap.size, 0, none⟩) 1 1)).run Tryd.prog (w.alloc (.cells #[.int .u8 (48 + (m : Int) % 10)] 5)) = .ok (.string ⟨#[dgt m]⟩) (w.alloc (.cells #[.int .u8 (48 + (m : Int) % 10)] 5)) := by
  have := conv_one w (48 + m % 10) (by omega)
  have e : ((48 + m % 10 : Nat) : Int) = 48 + (m : Int) % 10 := by omega
  rw [e] at this
  exact this
theorem str_cons (c : UInt8) (l : List UInt8) : (ByteArray.mk #[c]) ++ ⟨l.toArray⟩ = ⟨(c :: l).toArray⟩ := by
  apply ByteArray.ext
  simp [ByteArray.data_append]

set_option maxRecDepth 100000 in
set_option maxHeartbeats 1000000 in
theorem digits_any (n : Nat) (hn : n < 100000) (w : World) : Calls Tryd.prog 55 #[.int .i64 n] w (RetB w (.string ⟨(Lib.itoa n).toArray⟩)) := by
  rw [Lib.itoa_nonneg]
  have h0 : (0 : Int) ≤ (n : Int) := by omega
  have h1 : (n : Int) < 100000 := by omega
  have hc := conv_dig w n
  have B0 : Hid (Below w.heap.size w (w.alloc (.cells #[.int .u8 (48 + (n : Int) % 10)] 5))) := (Below.refl _ _).alloc (Nat.le_refl _) _
  go_enter Tryd.func55, Tryd.ntmps55
  go_wp2_with fail
  clear hc
  generalize (w.alloc (.cells #[.int .u8 (48 + (n : Int) % 10)] 5)) = w0 at *
  go_loopw [0, 3] (fun i v wr => ∃ (m : Nat) (rest : List UInt8), m ≤ n ∧ i = .int .i64 m ∧ v = .string ⟨(dgt m :: rest).toArray⟩ ∧ Lib.decDigits n = Lib.decDigits m ++ rest ∧ m * 10 ^ rest.length ≤ n ∧ Below w.heap.size w wr) (fun i _ _ => (intOf i).toNat)
  case atStart => exact ⟨n, [], Nat.le_refl _, rfl, rfl, by simp, by simp, B0.out⟩
  case round =>
    obtain ⟨m, rest, hm, rfl, rfl, hd, hp, hbl⟩ := hrel
    have D := Lib.hid hd
    have B := Lib.hid hbl
    have P := Lib.hid hp
    clear hd hbl hp B0
    have hm0 : (0 : Int) ≤ (m : Int) := by omega
    have hm1 : (m : Int) < 100000 := by omega
    by_cases h10 : 10 ≤ m
    · have hq0 : (10 : Int) ≤ (m : Int) := by omega
      have hc := conv_dig wr (m / 10)
      have e : ((m / 10 : Nat) : Int) = (m : Int) / 10 := by omega
      rw [e] at hc
      have hl : rest.length ≤ 5 := by
        rcases Nat.lt_or_ge rest.length 6 with h | h
        · omega
        · have := Nat.pow_le_pow_right (n := 10) (by omega) h
          have h2 := P.out
          have : m * 10 ^ 6 ≤ m * 10 ^ rest.length := Nat.mul_le_mul_left _ this
          omega
      have B1 : Hid (Below w.heap.size w (wr.alloc (.cells #[.int .u8 (48 + (m : Int) / 10 % 10)] 5))) := B.out.alloc B.out.size _
      have E := Lib.hid e
      clear e
      go_wp2_with fail
      go_roundw
      case rel =>
        refine ⟨m / 10, dgt m :: rest, by omega, by rw [E.out], ?_, ?_, ?_, B1.out⟩
        · rw [str_cons]
        · rw [D.out, Lib.decDigits, dif_neg (by omega), List.append_assoc]; rfl
        · have h2 := P.out
          rw [List.length_cons, Nat.pow_succ]
          have : m / 10 * (10 ^ rest.length * 10) = (m / 10 * 10) * 10 ^ rest.length := by rw [Nat.mul_comm (10 ^ rest.length) 10, Nat.mul_assoc]
          rw [this]
          exact Nat.le_trans (Nat.mul_le_mul_right _ (by omega)) h2
      case measure => simp [intOf]; omega
    · have F : Hid ((dgt m :: rest) = Lib.decDigits n) := by
        rw [Hid, D.out, Lib.decDigits, dif_pos (by omega)]
        have : m % 10 = m := by omega
        unfold dgt; rw [this]; rfl
      have hq0 : ¬ (10 : Int) ≤ (m : Int) := by omega
      go_wp2
      go_ret
      exact ⟨by rw [F.out]; rfl, B.out⟩

/-- what a name is called -/
def pidText (a s : Nat) : List UInt8 := Lib.itoa a ++ 46 :: Lib.itoa s
theorem str_app (l m : List UInt8) : (ByteArray.mk l.toArray) ++ ⟨m.toArray⟩ = ⟨(l ++ m).toArray⟩ := by
  apply ByteArray.ext
  simp [ByteArray.data_append]
theorem str_dot (l m : List UInt8) : (ByteArray.mk l.toArray) ++ ⟨#[46]⟩ ++ ⟨m.toArray⟩ = ⟨(l ++ 46 :: m).toArray⟩ := by
  apply ByteArray.ext
  simp [ByteArray.data_append]
theorem itoa_len (n : Nat) (h : n < 100000) : (Lib.itoa n).length ≤ 21 := Lib.itoa_length_le n (by omega) (by omega)

set_option maxRecDepth 100000 in
set_option maxHeartbeats 1000000 in
theorem rtext_any (a s : Nat) (ha : a < 256) (hs : s < 65536) (w : World) : Calls Tryd.prog 54 #[.agg #[.int .u8 a, .int .u16 s]] w (RetB w (.string ⟨(pidText a s).toArray⟩)) := by
  have HA := Lib.hid (fun w0 => digits_any a (by omega) w0)
  have HS := Lib.hid (fun w0 => digits_any s (by omega) w0)
  have B0 : Hid (Below w.heap.size w (w.alloc (.cells #[.int .u8 a, .int .u16 s] 24))) := (Below.refl _ _).alloc (Nat.le_refl _) _
  have K1 : Hid (Blk (w.alloc (.cells #[.int .u8 a, .int .u16 s] 24)) w.heap.size 24 #[.int .u8 a, .int .u16 s]) := Blk.new _ _ _
  have la := itoa_len a (by omega)
  have ls := itoa_len s (by omega)
  have E := Lib.hid (str_dot (Lib.itoa a) (Lib.itoa s))
  have a0 : (0 : Int) ≤ (a : Int) := by omega
  have a1 : (a : Int) < 256 := by omega
  have s0 : (0 : Int) ≤ (s : Int) := by omega
  have s1 : (s : Int) < 65536 := by omega
  unfold pidText
  generalize Lib.itoa a = l at *
  generalize Lib.itoa s = m at *
  go_enter Tryd.func54, Tryd.ntmps54
  go_wp2_with fail
  generalize (w.alloc (.cells #[.int .u8 a, .int .u16 s] 24)) = w0 at *
  have q0 : ∀ z : Ext w0, z.w.cell? ⟨w.heap.size, 0, none⟩ = some (.int .u8 a) := fun z => (K1.out.ext z.h).cell 0
  have q1 : ∀ z : Ext w0, z.w.cell? ⟨w.heap.size, 1, none⟩ = some (.int .u16 s) := fun z => (K1.out.ext z.h).cell 1
  refine wp_region_ext mixedP (by kernel_rfl) ?_
  repeat (first
    | go_big_quiet_step ((first | (go_at_call 55; with_reducible exact ext_call (HA.out _)) | (go_at_call 55; with_reducible exact ext_call (HS.out _)))))
  refine wpQuiet_nil ?_
  rintro _ ⟨z, rfl⟩
  go_wp2
  go_ret
  exact ⟨by rw [← E.out]; rfl, B0.out.trans (z.h.mono B0.out.size)⟩

open Go.Sort in
theorem below_grown (w : World) (k : Nat) (os : Array Obj) : Below w.heap.size w (grow (w.drewN k) os) :=
  ⟨rfl, rfl, rfl, by simp [grow, World.drewN], fun i hi => by simp only [grow, World.drewN]; rw [Array.getElem?_append_left hi]⟩
abbrev TabOk (w : World) : Prop := Lib.TabIs Tryd.prog w "internal/strconv.uint64pow10" .u64 Lib.pow10Tab
theorem gTab : Tryd.prog.globalNamed "internal/strconv.uint64pow10" = some 3 := by kernel_rfl
theorem tab_below {w w' : World} (h : TabOk w) (hlt : 3 < w.heap.size) (hb : Below w.heap.size w w') : TabOk w' := by
  have he := hb.block 3 hlt
  unfold TabOk Lib.TabIs at *
  rw [← h]
  unfold World.var?
  rw [gTab]
  simp only [Option.bind_some, he]
theorem tab_lt {w : World} (h : TabOk w) : 3 < w.heap.size := by
  rcases Nat.lt_or_ge 3 w.heap.size with h0 | h0
  · exact h0
  · unfold TabOk Lib.TabIs World.var? at h
    rw [gTab] at h
    simp [Array.getElem?_eq_none h0] at h
theorem tab_ext {w w' : World} (h : TabOk w) (hb : Below w.heap.size w w') : TabOk w' := tab_below h (tab_lt h) hb
theorem itoa_any (n : Nat) (hn : n < 100000) (w : World) (h : TabOk w) : Calls Tryd.prog 41 #[.int .i64 n] w (RetB w (.string ⟨(Lib.itoa n).toArray⟩)) :=
  (Tryd.strconv_Itoa n (by omega) (by omega) w h).mono fun _ _ ⟨he, k, os, hw⟩ => ⟨he, by rw [hw]; exact below_grown _ _ _⟩

set_option maxRecDepth 100000 in
set_option maxHeartbeats 1000000 in
theorem text_any (a s : Nat) (ha : a < 256) (hs : s < 65536) (w : World) (ht : TabOk w) : Calls Tryd.prog 12 #[.agg #[.int .u8 a, .int .u16 s]] w (RetB w (.string ⟨(pidText a s).toArray⟩)) := by
  have B0 : Hid (Below w.heap.size w (w.alloc (.cells #[.int .u8 a, .int .u16 s] 24))) := (Below.refl _ _).alloc (Nat.le_refl _) _
  have T := Lib.hid (tab_ext ht B0.out)
  have K1 : Hid (Blk (w.alloc (.cells #[.int .u8 a, .int .u16 s] 24)) w.heap.size 24 #[.int .u8 a, .int .u16 s]) := Blk.new _ _ _
  have la := itoa_len a (by omega)
  have ls := itoa_len s (by omega)
  have E := Lib.hid (str_dot (Lib.itoa a) (Lib.itoa s))
  have a0 : (0 : Int) ≤ (a : Int) := by omega
  have a1 : (a : Int) < 256 := by omega
  have s0 : (0 : Int) ≤ (s : Int) := by omega
  have s1 : (s : Int) < 65536 := by omega
  have HA := Lib.hid (fun w0 h => itoa_any a (by omega) w0 h)
  have HS := Lib.hid (fun w0 h => itoa_any s (by omega) w0 h)
  unfold pidText
  generalize Lib.itoa a = l at *
  generalize Lib.itoa s = m at *
  clear ht
  go_enter Tryd.func12, Tryd.ntmps12
  go_wp2_with fail
  generalize (w.alloc (.cells #[.int .u8 a, .int .u16 s] 24)) = w0 at *
  have q0 : ∀ z : Ext w0, z.w.cell? ⟨w.heap.size, 0, none⟩ = some (.int .u8 a) := fun z => (K1.out.ext z.h).cell 0
  have q1 : ∀ z : Ext w0, z.w.cell? ⟨w.heap.size, 1, none⟩ = some (.int .u16 s) := fun z => (K1.out.ext z.h).cell 1
  refine wp_region_ext mixedP (by kernel_rfl) ?_
  repeat (first
    | go_big_quiet_step ((first | (go_at_call 41; with_reducible exact ext_call (HA.out _ (tab_ext T.out (Ext.h _)))) | (go_at_call 41; with_reducible exact ext_call (HS.out _ (tab_ext T.out (Ext.h _)))))))
  refine wpQuiet_nil ?_
  rintro _ ⟨z, rfl⟩
  go_wp2
  go_ret
  exact ⟨by rw [← E.out]; rfl, B0.out.trans (z.h.mono B0.out.size)⟩
end Go.Proofs.YtmfdggolnfoniaaDoor
