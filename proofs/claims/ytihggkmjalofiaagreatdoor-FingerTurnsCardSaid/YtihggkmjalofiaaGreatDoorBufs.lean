/- Texts of general use, one behind another. -/
import Derived.Test.YtihggkmjalofiaaGreatDoorGen
import Derived.Laws.BitsAllLaws
import Derived.Laws.Shifts
import Derived.IntWalk
import Derived.Test.YtihggkmjalofiaaGreatDoorIdxw
import Derived.Lib.AppendStr
import Derived.Test.YtihggkmjalofiaaGreatDoorSets
import Derived.Laws.BytesArg

/- Numbers as bytes: plain law; no program in sight. -/
namespace Go.Proofs.YtihggkmjalofiaaGreatDoor

/-- a number's bytes -/
def vbytes (n : Nat) : List UInt8 := if n < 128 then [UInt8.ofNat n] else UInt8.ofNat (n % 128 + 128) :: vbytes (n / 128)
termination_by n
decreasing_by omega
theorem vbytes_low {n : Nat} (h : n < 128) : vbytes n = [UInt8.ofNat n] := by rw [vbytes, if_pos h]
theorem vbytes_high {n : Nat} (h : ¬ n < 128) : vbytes n = UInt8.ofNat (n % 128 + 128) :: vbytes (n / 128) := by rw [vbytes, if_neg h]
theorem ofNat_toNat {n : Nat} (h : n < 256) : (UInt8.ofNat n).toNat = n := by
  rw [UInt8.toNat_ofNat']; omega
theorem vbytes_pos (n : Nat) : 0 < (vbytes n).length := by
  unfold vbytes
  split <;> simp
theorem vbytes_len : ∀ (k n : Nat), n < 128 ^ (k + 1) → (vbytes n).length ≤ k + 1
  | 0, n, h => by rw [vbytes_low (by simpa using h)]; simp
  | k + 1, n, h => by
    by_cases hl : n < 128
    · rw [vbytes_low hl]; simp
    · rw [vbytes_high hl, List.length_cons]
      have := vbytes_len k (n / 128) (Nat.div_lt_of_lt_mul (by rw [Nat.pow_succ] at h; omega))
      omega
end Go.Proofs.YtihggkmjalofiaaGreatDoor

/- A number's bytes: the program's, walked. -/
namespace Go.Proofs.YtihggkmjalofiaaGreatDoor
open Go.RowKit

/-- bytes as they lie in memory -/
def enc1 (b : UInt8) : List Value := [.int .u8 ((b.toNat : Nat) : Int)]
def encB (l : List UInt8) : List Value := l.flatMap enc1
theorem enc1_len (b : UInt8) : (enc1 b).length = 1 := rfl
theorem encB_len (l : List UInt8) : (encB l).length = l.length := by
  unfold encB
  induction l with
  | nil => rfl
  | cons x l ih => rw [List.flatMap_cons, List.length_append, ih, enc1_len, List.length_cons]; omega
theorem encB_append (l m : List UInt8) : encB (l ++ m) = encB l ++ encB m := List.flatMap_append
theorem encB_one (l : List UInt8) : ∀ u ∈ encB l, u.oneCell' = true := fun u hu => by
  obtain ⟨b, _, h⟩ := List.mem_flatMap.1 hu
  rw [List.mem_singleton.1 h]; rfl
theorem encB_at (l : List UInt8) (k : Nat) : (encB l)[k]? = l[k]?.map fun b => Value.int .u8 ((b.toNat : Nat) : Int) := by
  unfold encB
  induction l generalizing k with
  | nil => simp
  | cons x l ih =>
    rw [List.flatMap_cons]
    cases k with
    | zero => rfl
    | succ k => exact ih k
theorem byteSl : SlT Tryz.prog 46 5 1 1 := slT_of Tryz.underlying46 (z := .int .u8 0) (by kernel_rfl) rfl (by omega)
theorem wpList_binB {P : Program} {ops : Array Oper} {rest : List Oper} {a : Act} {w : World} {Q : Exit → Act → World → Prop} {d : Option Tmp} {ty t rt : TypeId} {pos : String} {after : Array Edge} {op : BinOp} {x y : Operand} {xv yv v : Value} (hx : a.eval x = xv) (hy : a.eval y = yv) (hg : (eqGuard op t x y xv yv).run P w = .ok () w) (hr : (binOp op t xv yv).run P w = .ok v w)
    (h : wpList P ops Q rest (a.put d v) w) : wpList P ops Q (⟨d, .binOp op t x y rt, ty, pos, after, none⟩ :: rest) a w :=
  wpList_plain rfl fun _ hK => wp_computed hx hy hg hr (hK _ _ h)
set_option maxRecDepth 10000 in
theorem or128_fin : ∀ a : Fin 256, (a.val ||| 128) = a.val % 128 + 128 := by decide
theorem or128 {q : Nat} (h : q < 256) : bits .or .u8 (q : Int) 128 = ((q % 128 + 128 : Nat) : Int) := by
  have e := u8_or_nat q 128 h (by omega)
  rw [or128_fin ⟨q, h⟩] at e
  exact e
theorem or128_run {q : Nat} (h : q < 256) (w : World) : (binOp .or 5 (.int .u8 (q : Int)) (.int .u8 128)).run Tryz.prog w = .ok (.int .u8 ((q % 128 + 128 : Nat) : Int)) w := by
  rw [← or128 h]
  simp [go_sem]
theorem low8_run (m : Nat) (w : World) : (convert 76 5 (.int .u64 (m : Int))).run Tryz.prog w = .ok (.int .u8 ((m % 256 : Nat) : Int)) w := by
  have e : ((m % 256 : Nat) : Int) = (m : Int) % 256 := by omega
  rw [e]
  simp [go_sem, IntKind.wrap_u8']
theorem shr7_run (m : Nat) (w : World) : (binOp .shr 76 (.int .u64 (m : Int)) (.int .u64 7)).run Tryz.prog w = .ok (.int .u64 ((m / 128 : Nat) : Int)) w := by
  have e : ((m / 128 : Nat) : Int) = (m : Int) / 128 := by omega
  rw [e]
  simp [go_sem]
theorem mk10_run (w : World) : (Instr.makeSlice 46 (.int .i64 0) (.int .i64 10)).run Tryz.prog w = .ok (.slice (some ⟨w.heap.size, 0, none⟩) 0 10) (w.alloc (.cells (Array.replicate 10 (.int .u8 0)) 5)) := by kernel_rfl
theorem enc1_nat {n : Nat} (h : n < 256) : enc1 (UInt8.ofNat n) = [.int .u8 (n : Int)] := by unfold enc1; rw [ofNat_toNat h]
set_option maxRecDepth 100000 in
set_option maxHeartbeats 2000000 in
theorem vbytes_any (n : Nat) (hn : n < 18446744073709551616) (w : World) : Calls Tryz.prog 146 #[.int .u64 (n : Int)] w (OwnedRet w 5 1 (vbytes n).length (encB (vbytes n))) := by
  have MK := fun W => mk10_run W
  have O0 : Hid ((w.alloc (.cells (Array.replicate 10 (.int .u8 0)) 5)).ownsRow w.heap.size 5 1 (.slice (some ⟨w.heap.size, 0, none⟩) 0 10) 0 []) :=
    ⟨rfl, .inr ⟨w.heap.size, 10, _, rfl, Nat.le_refl _, heap_alloc_new w _, Nat.zero_le _, by simp [maxLen], by simp, rfl⟩⟩
  have B0 : Hid (Below w.heap.size w (w.alloc (.cells (Array.replicate 10 (.int .u8 0)) 5))) := below_new _ _
  have LB : Hid ((vbytes n).length ≤ 10) := by
    have := vbytes_len 9 n (by omega)
    exact this
  go_enter Tryz.func146, Tryz.ntmps146
  go_wp2_with fail
  clear MK
  go_loopw [0, 3] (fun v s wr => ∃ (m : Nat) (out : List UInt8), v = .int .u64 (m : Int) ∧ m < 18446744073709551616 ∧ Hid (out ++ vbytes m = vbytes n) ∧ Hid (wr.ownsRow w.heap.size 5 1 s out.length (encB out)) ∧ Hid (Below w.heap.size w wr)) (fun v _ _ => (intOf v).toNat)
  case atStart => exact ⟨n, [], rfl, hn, rfl, O0.out, B0.out⟩
  case round =>
    clear O0 B0
    obtain ⟨m, out, rfl, hm, EQ, O, B⟩ := hrel
    have hm0 : (0 : Int) ≤ (m : Int) := by omega
    have hlen : out.length + (vbytes m).length ≤ 10 := by
      have h1 := congrArg List.length EQ.out
      rw [List.length_append] at h1
      have := LB.out
      omega
    have hp := vbytes_pos m
    have hol : out.length + 1 ≤ 10 := by omega
    clear hlen hp
    obtain ⟨A', c', rfl, _, _⟩ := Sl.of_own O.out
    have hbs := B.out.size
    have RC := fun u => low8_run m u
    by_cases hge : 128 ≤ m
    · have hgi : (128 : Int) ≤ (m : Int) := by omega
      have RO := fun u => or128_run (q := m % 256) (by omega) u
      have RS := fun u => shr7_run m u
      have E1 : Hid (m % 256 % 128 + 128 = m % 128 + 128) := by rw [Hid]; omega
      rw [E1.out] at RO
      have EN : Hid ((out ++ [UInt8.ofNat (m % 128 + 128)]) ++ vbytes (m / 128) = vbytes n) := by
        rw [Hid, List.append_assoc, ← EQ.out, vbytes_high (n := m) (by omega)]
        rfl
      clear EQ E1
      go_wp2_with (first
        | ((with_reducible refine wpList_binB (op := .or) ?_ ?_ ?_ (RO _) ?_); rfl; rfl; simp [eqGuard])
        | ((with_reducible refine wpList_binB (op := .shr) ?_ ?_ ?_ (RS _) ?_); rfl; rfl; simp [eqGuard])
        | (at_builtin; refine wpList_push byteSl O.out [.int .u8 ((m : Int) % 128 + 128)] rfl (by simp [Value.oneCell']) hbs (by omega) (by unfold maxLen; omega) (by rfl) (by rfl) (by rfl) ?_; intro v1 w6 own1 bel1))
      have B5 := Lib.hid (B.out.trans bel1)
      have O5 : Hid (w6.ownsRow w.heap.size 5 1 v1 (out ++ [UInt8.ofNat (m % 128 + 128)]).length (encB (out ++ [UInt8.ofNat (m % 128 + 128)]))) := by
        rw [Hid, encB_append, List.length_append]
        have e : encB [UInt8.ofNat (m % 128 + 128)] = [.int .u8 ((m : Int) % 128 + 128)] := by
          show enc1 _ ++ [] = _
          rw [enc1_nat (by omega), List.append_nil]
          congr 2
        rw [e]; exact own1
      clear own1 bel1 O B
      go_roundw
      case rel => exact ⟨m / 128, _, rfl, by omega, EN.out, O5.out, B5.out⟩
      case measure => simp [intOf]; omega
    · have hgi : ¬ (128 : Int) ≤ (m : Int) := by omega
      have E1 : m % 256 = m := by omega
      rw [E1] at RC
      have EN : Hid (out ++ [UInt8.ofNat m] = vbytes n) := by rw [Hid, ← EQ.out, vbytes_low (by omega)]
      clear EQ E1
      go_wp2_with (at_builtin; refine wpList_push byteSl O.out [.int .u8 (m : Int)] rfl (by simp [Value.oneCell']) hbs (by omega) (by unfold maxLen; omega) (by rfl) (by rfl) (by rfl) ?_; intro v1 w6 own1 bel1)
      have O5 : Hid (w6.ownsRow w.heap.size 5 1 v1 (vbytes n).length (encB (vbytes n))) := by
        rw [Hid, ← EN.out, encB_append, List.length_append]
        have e : encB [UInt8.ofNat m] = [.int .u8 (m : Int)] := by
          show enc1 _ ++ [] = _
          rw [enc1_nat (by omega), List.append_nil]
        rw [e]; exact own1
      have B5 := Lib.hid (B.out.trans bel1)
      clear own1 bel1 O B
      go_wp2
      go_ret
      exact ⟨_, rfl, O5.out, B5.out⟩
end Go.Proofs.YtihggkmjalofiaaGreatDoor

/- A number read out of bytes: the program's, walked. -/
namespace Go.Proofs.YtihggkmjalofiaaGreatDoor
open Go.RowKit

section
variable {P : Program} {ops : Array Oper} {rest : List Oper} {a : Act} {w : World} {Q : Exit → Act → World → Prop} {d : Option Tmp} {ty t : TypeId} {pos : String} {after : Array Edge} {x y : Operand}
theorem wpList_slB {lo hi mx : Option Operand} {xv v : Value} {lv hv mv : Option Value} (hx : a.eval x = xv) (hl : lo.map a.eval = lv) (hh : hi.map a.eval = hv) (hm : mx.map a.eval = mv) (hr : (Instr.sliceAt t xv lv hv mv).run P w = .ok v w)
    (h : wpList P ops Q rest (a.put d v) w) : wpList P ops Q (⟨d, .slice t x lo hi mx, ty, pos, after, none⟩ :: rest) a w :=
  wpList_plain rfl fun _ hK => by
    unfold Oper.wp execOp
    simp only [hx, hl, hh, hm, Sem.run_bind, hr, Result.andThen_ok, Sem.run_pure]
    exact hK _ _ h
end
/-- bytes of a slice -/
structure BytesAt (w : World) (A : Option Addr) (n c : Nat) (l : List UInt8) : Prop where
  len : l.length = n
  cap : n ≤ c
  big : c ≤ maxLen
  sl : Sl w w.heap.size 1 A n (encB l)
theorem BytesAt.ext {w w' : World} {A : Option Addr} {n c : Nat} {l : List UInt8} (h : BytesAt w A n c l) (hb : Below w.heap.size w w') : BytesAt w' A n c l := ⟨h.len, h.cap, h.big, (h.sl.below hb (Nat.le_refl _)).more hb.size⟩
theorem BytesAt.at_ {w : World} {A : Option Addr} {n c : Nat} {l : List UInt8} (h : BytesAt w A n c l) {k : Nat} (hk : k < n) : ∃ b o x, A = some ⟨b, o, none⟩ ∧ b < w.heap.size ∧ l[k]? = some x ∧ w.cell? ⟨b, o + k, none⟩ = some (.int .u8 ((x.toNat : Nat) : Int)) := by
  obtain ⟨b, o, u, e, hb, hu, hc⟩ := h.sl.at_ hk
  rw [encB_at] at hu
  cases hx : l[k]? with
  | none => rw [hx] at hu; cases hu
  | some x => rw [hx] at hu; exact ⟨b, o, x, e, hb, rfl, by rw [hc]; exact hu.symm⟩
end Go.Proofs.YtihggkmjalofiaaGreatDoor

/- Bytes that are written: the program's writer, walked. -/
namespace Go.Proofs.YtihggkmjalofiaaGreatDoor
open Go.RowKit

/-- an append of any slice: the row's own block alone has turned, and the row stays, or is new -/
theorem wp_catB {P : Program} {Q : Exit → Act → World → Prop} {K : Act → World → Prop} {a : Act} {w : World} {d : Option Tmp} {ty : TypeId} {pos : String} {after : Array Edge} {gd : Option (Nat × Bool)} {s x : Operand} {t e : TypeId} {size bytes : Nat} (T : SlT P t e size bytes)
    {base : Nat} {v : Value} {n : Nat} {xs : List Value} (hown : w.ownsRow base e size v n xs) {B : Nat} {A : Option Addr} {m c : Nat} {news : List Value} (hr : Sl w B size A m news) (h1 : ∀ u ∈ news, u.oneCell' = true) (hbase : base ≤ w.heap.size)
    (hb : (n + m) * bytes ≤ 140737488355328) (hm : n + m ≤ maxLen)
    (hs : a.eval s = v) (hx : a.eval x = .slice A m c)
    (h : ∀ v' w', w'.ownsRow base e size v' (n + m) (xs ++ news) → Kept (fun k => v.ownBlock = some k) w w' → (∀ k, v'.ownBlock = some k → v.ownBlock = some k ∨ w.heap.size ≤ k) → K (a.put d v') w') :
    Oper.wp P ⟨d, .call { callee := .builtin .append, args := #[s, x], argTypes := #[t, t] }, ty, pos, after, gd⟩ a w K Q := by
  obtain ⟨i, z, hi, hz, hsz, hby, hzs⟩ := T.hi
  rcases A with _ | ad
  · have hm0 : m = 0 := by
      rcases Nat.eq_zero_or_pos m with h0 | h0
      · exact h0
      · obtain ⟨b, o, he, _⟩ := hr.2 h0
        cases he
    subst hm0
    have hn : news = [] := List.eq_nil_of_length_eq_zero (by simpa using hr.1)
    subst hn
    have hrun := run_append_noAddr (P := P) (ty := ty) T.ht hi hown c
    unfold Oper.wp execOp
    simp only [resolve, invoke, builtin, Sem.run_bind, Sem.run_pure, Result.andThen_ok, List.map_toArray, List.map_cons, List.map_nil, hs, hx, hrun]
    exact h v w (by simpa using hown) (Kept.refl _ _) fun k e => .inl e
  · have hnews : ∀ j u, news[j]? = some u → w.cell? (ad.add j) = some u := by
      intro j u hu
      have hj : j < m * size := by
        have := (List.getElem?_eq_some_iff.1 hu).1
        rwa [hr.1] at this
      have hm0 : 0 < m := by
        rcases Nat.eq_zero_or_pos m with h0 | h0
        · subst h0; simp at hj
        · exact h0
      obtain ⟨b, o, he, _, hc⟩ := hr.2 hm0
      injection he with he
      subst he
      have ea : (⟨b, o, none⟩ : Addr).add j = ⟨b, o + j, none⟩ := by unfold Addr.add; split <;> simp_all
      rw [ea, hc j hj]; exact hu
    obtain ⟨v', w', hrun, h2, h3, h4⟩ := run_append_stays (P := P) (w := w) base t ty e i z size bytes T.ht hi hz hsz hby hzs T.pos v n xs hown ad m c news hr.1 hnews h1 hm hb hbase
    unfold Oper.wp execOp
    simp only [resolve, invoke, builtin, Sem.run_bind, Sem.run_pure, Result.andThen_ok, List.map_toArray, List.map_cons, List.map_nil, hs, hx, hrun]
    exact h v' w' h2 ⟨h3.os, h3.tape, h3.output, h3.size, fun k hk hn => h3.block k hk fun e => hn e.symm⟩ h4
theorem wpList_catB {P : Program} {ops : Array Oper} {rest : List Oper} {Q : Exit → Act → World → Prop} {a : Act} {w : World} {d : Option Tmp} {ty : TypeId} {pos : String} {after : Array Edge} {s x : Operand} {t e : TypeId} {size bytes : Nat} (T : SlT P t e size bytes)
    {base : Nat} {v : Value} {n : Nat} {xs : List Value} (hown : w.ownsRow base e size v n xs) {B : Nat} {A : Option Addr} {m c : Nat} {news : List Value} (hr : Sl w B size A m news) (h1 : ∀ u ∈ news, u.oneCell' = true) (hbase : base ≤ w.heap.size)
    (hb : (n + m) * bytes ≤ 140737488355328) (hm : n + m ≤ maxLen)
    (hs : a.eval s = v) (hx : a.eval x = .slice A m c)
    (h : ∀ v' w', w'.ownsRow base e size v' (n + m) (xs ++ news) → Kept (fun k => v.ownBlock = some k) w w' → (∀ k, v'.ownBlock = some k → v.ownBlock = some k ∨ w.heap.size ≤ k) → wpList P ops Q rest (a.put d v') w') :
    wpList P ops Q (⟨d, .call { callee := .builtin .append, args := #[s, x], argTypes := #[t, t] }, ty, pos, after, none⟩ :: rest) a w :=
  wpList_plain rfl fun _ hK => wp_catB T hown hr h1 hbase hb hm hs hx fun v' w' h2 h3 h4 => hK _ _ (h v' w' h2 h3 h4)
/-- an append of a string: the row stays where it is, or it is new -/
theorem run_append_str_stays {P : Program} {w : World} (base : Nat) (t u ty e : TypeId) (i : TypeInfo) (ht : P.underlying t = some (.slice e)) (hu : P.underlying u = some .string) (hi : P.info? e = some i) (hz : i.zero = some (.int .u8 0))
    (hsize : i.size = 1) (hby : i.bytes = 1) (v : Value) (n : Nat) (xs : List Value) (hown : w.ownsRow base e 1 v n xs) (s : ByteArray) (h63 : n + s.size ≤ maxLen) (hbytes : n + s.size ≤ 140737488355328) (hbase : base ≤ w.heap.size) :
    ∃ v' w', (Builtin.append_ #[t, u] ty #[v, .string s]).run P w = .ok v' w' ∧ w'.ownsRow base e 1 v' (n + s.size) (xs ++ Lib.strCells s) ∧ w.grownBy w' v.ownBlock ∧ (∀ k, v'.ownBlock = some k → v.ownBlock = some k ∨ w.heap.size ≤ k) := by
  obtain ⟨v', w', hr, h2, h3, h4⟩ := Lib.run_append_own_string (P := P) w base t u ty e i ht hu hi hz hsize hby v n xs hown s h63 hbytes hbase
  refine ⟨v', w', hr, h2, h3, fun k hk => ?_⟩
  have hsmall : n + s.size ≤ 9223372036854775807 := by simp only [maxLen] at h63; omega
  rcases hown.2 with ⟨rfl, rfl⟩ | ⟨g, cap, cur, rfl, hbg, hg, hnc, hcm, hcs, htake⟩
  · by_cases hm : s.size = 0
    · have := h4.2 ⟨rfl, hm⟩
      subst this
      cases hk
    · have hr' := run_append_nil_string (P := P) w t u ty e i (.int .u8 0) ht hu hi hz s (by omega) (by omega) (by rw [hby]; omega)
      rw [hr] at hr'
      injection hr' with e1 _
      subst e1
      simp only [Value.ownBlock, Option.some.injEq] at hk
      exact .inr (by omega)
  · by_cases hroom : n + s.size ≤ cap
    · have hr' := Lib.run_append_room_string (P := P) w t u ty e i ht hu hi hsize g n cap cur hg s hroom (by omega)
      rw [hr] at hr'
      injection hr' with e1 _
      subst e1
      exact .inl hk
    · have holds : ∀ j u, xs[j]? = some u → w.cell? ((⟨g, 0, none⟩ : Addr).add j) = some u := hown.cells (g := g) rfl
      have hr' := Lib.run_append_grow_string (P := P) w t u ty e i (.int .u8 0) ht hu hi hz ⟨g, 0, none⟩ n cap xs (by rw [hsize]; simpa using hown.1) holds s (by omega) (by omega) (by rw [hby]; exact growslice_fits (by omega) (by omega))
      rw [hr] at hr'
      injection hr' with e1 _
      subst e1
      simp only [Value.ownBlock, Option.some.injEq] at hk
      exact .inr (by omega)
theorem byteI : ∃ i, Tryz.prog.info? 5 = some i ∧ i.zero = some (.int .u8 0) ∧ i.size = 1 ∧ i.bytes = 1 := by
  have h : (Tryz.prog.info? 5).map (fun i => (i.zero, i.size, i.bytes)) = some (some (.int .u8 0), 1, 1) := by kernel_rfl
  cases hi : Tryz.prog.info? 5 with
  | none => rw [hi] at h; cases h
  | some i =>
    rw [hi] at h
    simp only [Option.map_some, Option.some.injEq, Prod.mk.injEq] at h
    exact ⟨i, rfl, h.1, h.2.1, h.2.2⟩
theorem wpList_strB {ops : Array Oper} {rest : List Oper} {Q : Exit → Act → World → Prop} {a : Act} {w : World} {d : Option Tmp} {ty : TypeId} {pos : String} {after : Array Edge} {y x : Operand}
    {base : Nat} {v : Value} {n : Nat} {xs : List Value} (hown : w.ownsRow base 5 1 v n xs) (s : ByteArray) (hbase : base ≤ w.heap.size) (hb : n + s.size ≤ 140737488355328) (hs : a.eval y = v) (hx : a.eval x = .string s)
    (h : ∀ v' w', w'.ownsRow base 5 1 v' (n + s.size) (xs ++ Lib.strCells s) → Kept (fun k => v.ownBlock = some k) w w' → (∀ k, v'.ownBlock = some k → v.ownBlock = some k ∨ w.heap.size ≤ k) → wpList Tryz.prog ops Q rest (a.put d v') w') :
    wpList Tryz.prog ops Q (⟨d, .call { callee := .builtin .append, args := #[y, x], argTypes := #[46, 9] }, ty, pos, after, none⟩ :: rest) a w := by
  obtain ⟨i, hi, hz, hsz, hby⟩ := byteI
  obtain ⟨v', w', hrun, h2, h3, h4⟩ := run_append_str_stays (P := Tryz.prog) base 46 9 ty 5 i Tryz.underlying46 Tryz.underlying9 hi hz hsz hby v n xs hown s (by unfold maxLen; omega) hb hbase
  refine wpList_plain rfl fun K hK => ?_
  unfold Oper.wp execOp
  simp only [resolve, invoke, builtin, Sem.run_bind, Sem.run_pure, Result.andThen_ok, List.map_toArray, List.map_cons, List.map_nil, hs, hx, hrun]
  exact hK _ _ (h v' w' h2 ⟨h3.os, h3.tape, h3.output, h3.size, fun k hk hn => h3.block k hk fun e => hn e.symm⟩ h4)
theorem strCells_enc (s : ByteArray) : Lib.strCells s = encB s.data.toList := by
  unfold Lib.strCells encB
  induction s.data.toList with
  | nil => rfl
  | cons x l ih => rw [List.map_cons, List.flatMap_cons, ih]; rfl
/-- a writer: what was written; F its blocks -/
structure WrAt (w : World) (F : Nat → Prop) (g : Nat) (l : List UInt8) : Prop where
  ex : ∃ s, Blk w g 139 #[s] ∧ w.ownsRow 0 5 1 s l.length (encB l) ∧ ∀ k, s.ownBlock = some k → F k
  fg : F g
  lt : ∀ q, F q → q < w.heap.size
theorem WrAt.ext {w w' : World} {F : Nat → Prop} {g : Nat} {l : List UInt8} (h : WrAt w F g l) (hb : Below w.heap.size w w') : WrAt w' F g l := by
  obtain ⟨s, h1, h2, h3⟩ := h.ex
  exact ⟨⟨s, h1.ext hb, own_keepF h2 fun k e => hb.block k (h2.lt k e).2, h3⟩, h.fg, fun q e => Nat.lt_of_lt_of_le (h.lt q e) hb.size⟩
def WrRet (w : World) (F : Nat → Prop) (g : Nat) (l : List UInt8) (e : Ending) (w' : World) : Prop := e = .returned (.tuple #[]) ∧ Kept F w w' ∧ ∃ F', WrAt w' F' g l ∧ ∀ q, F' q → F q ∨ w.heap.size ≤ q
/-- the new row is noted -/
theorem WrAt.put {w w6 : World} {F : Nat → Prop} {g : Nat} {s v1 : Value} {l m : List UInt8} {n : Nat} (hn : n = l.length) (K : Blk w g 139 #[s]) (O : w.ownsRow 0 5 1 s n (encB l)) (hs : ∀ k, s.ownBlock = some k → F k) (fg : F g) (lt : ∀ q, F q → q < w.heap.size)
    (own1 : w6.ownsRow 0 5 1 v1 (n + m.length) (encB l ++ encB m)) (kp : Kept (fun k => s.ownBlock = some k) w w6) (hv : ∀ k, v1.ownBlock = some k → s.ownBlock = some k ∨ w.heap.size ≤ k) :
    Kept F w (w6.setCell ⟨g, 0, none⟩ v1) ∧ ∃ F', WrAt (w6.setCell ⟨g, 0, none⟩ v1) F' g (l ++ m) ∧ ∀ q, F' q → F q ∨ w.heap.size ≤ q := by
  subst hn
  have K6 : Blk w6 g 139 #[s] := K.keep (kp.block g K.lt fun e => own_ne_blk O K (by decide) e rfl)
  have k2 : Kept (fun k => k = g) w6 (w6.setCell ⟨g, 0, none⟩ v1) := (Kept.refl (fun k => k = g) w6).setCell (p := ⟨g, 0, none⟩) (.inl rfl) v1
  refine ⟨(kp.mono fun k e => hs k e).trans k2 fun x e => .inl (e ▸ fg), fun q => F q ∨ v1.ownBlock = some q, ⟨⟨v1, ?_, ?_, fun k e => .inr e⟩, .inl fg, fun q e => ?_⟩, fun q e => ?_⟩
  · have := K6.set_ 0 v1
    simpa using this
  · rw [List.length_append, encB_append]
    exact own_keepF own1 fun k e => k2.block k (own1.lt k e).2 fun e2 => own_ne_blk own1 K6 (by decide) e e2
  · have hz := k2.size
    rcases e with e | e
    · have := lt q e
      have := kp.size
      omega
    · exact Nat.lt_of_lt_of_le (own1.lt q e).2 hz
  · rcases e with e | e
    · exact .inl e
    · exact (hv q e).elim (fun e => .inl (hs q e)) .inr
set_option maxRecDepth 100000 in
set_option maxHeartbeats 2000000 in
theorem wrByte_any {w : World} {F : Nat → Prop} {g : Nat} {l : List UInt8} (h : WrAt w F g l) (x : List UInt8) (A : Option Addr) (m c B : Nat) (hx : Sl w B 1 A m (encB x)) (hm : x.length = m) (hl : l.length + m ≤ 10000000) :
    Calls Tryz.prog 156 #[.pointer (some ⟨g, 0, none⟩), .slice A m c] w (WrRet w F g (l ++ x)) := by
  obtain ⟨s, K, O, hs⟩ := h.ex
  have hs := Lib.hid hs
  have fg := Lib.hid h.fg
  have lt := Lib.hid h.lt
  have KH := Lib.hid K
  have OH := Lib.hid O
  have XH := Lib.hid hx
  obtain ⟨A0, c0, rfl, _, _⟩ := Sl.of_own O
  have y0 : w.cell? ⟨g, 0, none⟩ = some (.slice A0 l.length c0) := K.cell 0
  clear K O hx h
  go_enter Tryz.func156, Tryz.ntmps156
  go_wp2_with (at_builtin; refine wpList_catB byteSl OH.out XH.out (encB_one x) (Nat.zero_le _) (by omega) (by unfold maxLen; omega) (by rfl) (by rfl) ?_; intro v1 w6 own1 kp hv1; obtain ⟨A1, c1, rfl, _, _⟩ := Sl.of_own own1; have K6 : Hid (Blk w6 g 139 #[.slice A0 l.length c0]) := KH.out.keep (kp.block g KH.out.lt fun e => own_ne_blk OH.out KH.out (by decide) e rfl); have y6 : w6.cell? ⟨g, 0, none⟩ = some (.slice A0 l.length c0) := K6.out.cell 0; have f6 : w6.frozen? ⟨g, 0, none⟩ = false := K6.out.fr 0)
  subst hm
  go_end0
  exact ⟨rfl, WrAt.put rfl KH.out OH.out hs.out fg.out lt.out own1 kp hv1⟩
end Go.Proofs.YtihggkmjalofiaaGreatDoor

/- Numbers and texts that are written: walked. -/
namespace Go.Proofs.YtihggkmjalofiaaGreatDoor
open Go.RowKit

theorem fieldW (g : Nat) (w : World) : (Instr.fieldAt 139 (.pointer (some ⟨g, 0, none⟩)) 0).run Tryz.prog w = .ok (.pointer (some ⟨g, 0, none⟩)) w := by simp [go_sem]
theorem loadB (b o : Nat) (w : World) (A : Option Addr) (n c : Nat) (h : w.cell? ⟨b, o, none⟩ = some (.slice A n c)) : (Instr.loadAt 46 (.pointer (some ⟨b, o, none⟩))).run Tryz.prog w = .ok (.slice A n c) w := by simp [go_sem, h]
theorem storeB (b o : Nat) (w : World) (A : Option Addr) (n c : Nat) {u : Value} (h : w.cell? ⟨b, o, none⟩ = some u) (hf : w.frozen? ⟨b, o, none⟩ = false) : (Instr.storeAt 46 (.pointer (some ⟨b, o, none⟩)) (.slice A n c)).run Tryz.prog w = .ok () (w.setCell ⟨b, o, none⟩ (.slice A n c)) := by simp [go_sem, h, hf]
def encU (l : List Nat) : List Value := l.map fun n : Nat => Value.int .u64 (n : Int)
theorem flat_vlen : ∀ ns : List Nat, (∀ n ∈ ns, n < 18446744073709551616) → (ns.flatMap vbytes).length ≤ 10 * ns.length
  | [], _ => by simp
  | n :: ns, h => by
    rw [List.flatMap_cons, List.length_append, List.length_cons]
    have h1 : (vbytes n).length ≤ 10 := vbytes_len 9 n (by have := h n (by simp); omega)
    have h2 := flat_vlen ns fun m hm => h m (by simp [hm])
    omega
theorem flat_take {l : List Nat} {k u : Nat} (h : l[k]? = some u) : (l.take (k + 1)).flatMap vbytes = (l.take k).flatMap vbytes ++ vbytes u := by
  rw [List.take_add_one, h, List.flatMap_append]
  simp
set_option maxRecDepth 100000 in
set_option maxHeartbeats 4000000 in
theorem wrNum_any {w : World} {F : Nat → Prop} {g : Nat} {l : List UInt8} (h : WrAt w F g l) (ns : List Nat) (hn : ∀ n ∈ ns, n < 18446744073709551616) (A : Option Addr) (m c : Nat) (hx : Sl w w.heap.size 1 A m (encU ns)) (hxF : ∀ b o, A = some ⟨b, o, none⟩ → ¬ F b) (hm : ns.length = m) (hl : l.length ≤ 1000000) (hm2 : m ≤ 1000) :
    Calls Tryz.prog 70 #[.pointer (some ⟨g, 0, none⟩), .slice A m c] w (WrRet w F g (l ++ ns.flatMap vbytes)) := by
  have H := Lib.hid h
  have HN := Lib.hid hn
  have XH := Lib.hid hx
  have XF := Lib.hid hxF
  have ML := Lib.hid hm
  have hcV : ∀ args u, (callFunc 146 args).run Tryz.prog u = .ok (.enter 146 args) u := enters_of Tryz.func146 (by kernel_rfl) rfl
  clear h hn hx hxF hm
  go_enter Tryz.func70, Tryz.ntmps70
  go_wp2_with fail
  go_loopw [10] (fun v wr => ∃ k : Nat, k ≤ m ∧ v = .int .i64 (k : Int) ∧ Hid (Kept F w wr) ∧ Hid (∃ F', WrAt wr F' g (l ++ (ns.take k).flatMap vbytes) ∧ ∀ q, F' q → F q ∨ w.heap.size ≤ q)) (fun v _ => m - (intOf v).toNat)
  case atStart => exact ⟨0, by omega, rfl, Kept.refl _ _, F, by rw [List.take_zero, List.flatMap_nil, List.append_nil]; exact H.out, fun q e => .inl e⟩
  case round =>
    obtain ⟨k, hk, rfl, KP, WR⟩ := hrel
    have hk0 : (0 : Int) ≤ (k : Int) := by omega
    by_cases hlt : k < m
    · have hki : (k : Int) < (m : Int) := by omega
      obtain ⟨b, o, e, rfl, hb, hu, hc⟩ := XH.out.at_ hlt
      obtain ⟨u, hu0, rfl⟩ : ∃ u, ns[k]? = some u ∧ e = .int .u64 (u : Int) := by
        unfold encU at hu
        rw [List.getElem?_map] at hu
        cases hx : ns[k]? with
        | none => rw [hx] at hu; cases hu
        | some u => rw [hx] at hu; exact ⟨u, rfl, (Option.some.inj hu).symm⟩
      have hu := HN.out u (List.mem_of_getElem? hu0)
      have FT := Lib.hid (flat_take hu0)
      have LV : Hid ((vbytes u).length ≤ 10) := vbytes_len 9 u (by omega)
      have hbc : wr.cell? ⟨b, o + k, none⟩ = some (.int .u64 (u : Int)) := (World.cell?_of_block (a := ⟨b, o + k, none⟩) (KP.out.block b hb (XF.out b o rfl))).trans hc
      obtain ⟨F', hW, hF⟩ := WR.out
      have hF := Lib.hid hF
      obtain ⟨s, kk, oo, hs⟩ := hW.ex
      have fg := Lib.hid hW.fg
      have lt := Lib.hid hW.lt
      have HS := Lib.hid hs
      have TL : Hid (((ns.take k).flatMap vbytes).length ≤ 10 * k) := by
        have h1 := flat_vlen (ns.take k) fun n hn => HN.out n (List.mem_of_mem_take hn)
        rw [List.length_take] at h1
        rw [Hid]; omega
      obtain ⟨n0, hn0⟩ : ∃ n0, n0 = (l ++ (ns.take k).flatMap vbytes).length := ⟨_, rfl⟩
      have hn0b : n0 ≤ 1100000 := by have := TL.out; rw [List.length_append] at hn0; omega
      rw [← hn0] at oo
      replace hn0 := Lib.hid hn0
      obtain ⟨A0, c0, rfl, _, _⟩ := Sl.of_own oo
      have K3 := Lib.hid kk
      have O3 := Lib.hid oo
      clear hW hs kk oo hu0 hc WR TL
      go_upto_region 4 with fail
      refine wp_region_Z (S := fun w' => w'.cell? ⟨g, 0, none⟩ = some (.slice A0 n0 c0)) (Z := [10]) mixedS ?_
      have S9 : Hid (wr.drew.cell? ⟨g, 0, none⟩ = some (.slice A0 n0 c0)) := K3.out.cell 0
      have K9 : Hid (Blk wr.drew g 139 #[.slice A0 n0 c0]) := K3.out
      have O9 : Hid (wr.drew.ownsRow 0 5 1 (.slice A0 n0 c0) n0 (encB (l ++ (ns.take k).flatMap vbytes))) := O3.out
      have KP9 : Hid (Kept F w wr.drew) := KP.out.drew
      have lt9 : Hid (∀ q, F' q → q < wr.drew.heap.size) := lt.out
      clear K3 O3 KP lt hbc
      generalize wr.drew = w9 at *
      simp only [List.size_toArray, List.length_cons, List.length_nil]
      have hL := LV.out
      refine zLight (i := 0) rfl (by kernel_rfl) (by kernel_rfl) (by kernel_rfl) (by kernel_rfl) (fun _ _ _ h => h) rfl (fun w' => exMove (v := .pointer (some ⟨g, 0, none⟩)) rfl) (fun _ => S9.out) ?_
      simp only [Act.put, List.setIfInBounds_toArray, List.set_cons_zero, List.set_cons_succ]
      refine zLight (i := 1) rfl (by kernel_rfl) (by kernel_rfl) (by kernel_rfl) (by kernel_rfl) (fun _ _ _ h => h) rfl (fun w' => exMove (v := .pointer (some ⟨g, 0, none⟩)) rfl) (fun _ => S9.out) ?_
      simp only [Act.put, List.setIfInBounds_toArray, List.set_cons_zero, List.set_cons_succ]
      refine zLight (i := 2) rfl (by kernel_rfl) (by kernel_rfl) (by kernel_rfl) (by kernel_rfl) (fun _ _ _ h => h) rfl (fun w' => exNil rfl) (fun _ => S9.out) ?_
      simp only [Act.put, List.setIfInBounds_toArray, List.set_cons_zero, List.set_cons_succ]
      refine zLight (i := 3) rfl (by kernel_rfl) (by kernel_rfl) (by kernel_rfl) (by kernel_rfl) (fun _ _ _ h => h) rfl (fun w' => exField rfl (fieldW g w')) (fun _ => S9.out) ?_
      simp only [Act.put, List.setIfInBounds_toArray, List.set_cons_zero, List.set_cons_succ]
      refine zV (i := 4) rfl (by kernel_rfl) (by kernel_rfl) (by kernel_rfl) (by kernel_rfl) (by kernel_rfl) (fun _ _ _ h => h) rfl (fun w' h => exLoad rfl (loadB g 0 w' _ _ _ h)) S9.out ?_
      simp only [Act.put, List.setIfInBounds_toArray, List.set_cons_zero, List.set_cons_succ]
      refine zLight (i := 5) rfl (by kernel_rfl) (by kernel_rfl) (by kernel_rfl) (by kernel_rfl) (fun _ _ _ h => h) rfl (fun w' => exMove (v := .int .u64 (u : Int)) rfl) (fun _ => S9.out) ?_
      simp only [Act.put, List.setIfInBounds_toArray, List.set_cons_zero, List.set_cons_succ]
      refine wpAnyZ_all (rs := [6]) (by kernel_rfl) (by simp) ?_
      intro i hi
      simp only [List.mem_cons, List.not_mem_nil, or_false] at hi
      subst hi
      refine wpOp_of rfl rfl (wp_called (args := #[.int .u64 (u : Int)]) hcV (by simp only [List.map_toArray, List.map_cons, List.map_nil]; rfl) (vbytes_any u hu w9) ?_)
      rintro e w2 ⟨_, rfl, own2, b2⟩
      have S2 : Hid (w2.cell? ⟨g, 0, none⟩ = some (.slice A0 n0 c0)) := (b2.cell (p := ⟨g, 0, none⟩) K9.out.lt).trans S9.out
      obtain ⟨AV, cV, rfl, _, hsV⟩ := Sl.of_own own2
      have O2 := Lib.hid (own_keepF O9.out fun k e => b2.block k (O9.out.lt k e).2)
      have K2 := Lib.hid (K9.out.ext b2)
      refine ⟨_, rfl, fun _ => S2.out, ?_⟩
      simp only [Act.put, List.setIfInBounds_toArray, List.set_cons_zero, List.set_cons_succ]
      refine wpAnyZ_all (rs := [7]) (by kernel_rfl) (by simp) ?_
      intro i hi
      simp only [List.mem_cons, List.not_mem_nil, or_false] at hi
      subst hi
      refine wpOp_of rfl rfl (wp_catB byteSl O2.out hsV (encB_one (vbytes u)) (Nat.zero_le _) (by omega) (by unfold maxLen; omega) rfl rfl ?_)
      intro v1 w6 own1 kp hv1
      have K6 : Hid (Blk w6 g 139 #[.slice A0 n0 c0]) := K2.out.keep (kp.block g K2.out.lt fun e => own_ne_blk O2.out K2.out (by decide) e rfl)
      refine ⟨fun _ => K6.out.cell 0, ?_⟩
      simp only [Act.put, List.setIfInBounds_toArray, List.set_cons_zero, List.set_cons_succ]
      obtain ⟨A6, c6, rfl, _, _⟩ := Sl.of_own own1
      refine zLight (i := 8) rfl (by kernel_rfl) (by kernel_rfl) (by kernel_rfl) (by kernel_rfl) (fun _ _ _ h => h) rfl (fun w' => exNil rfl) (fun _ => K6.out.cell 0) ?_
      simp only [Act.put, List.setIfInBounds_toArray, List.set_cons_zero, List.set_cons_succ]
      refine zLight (i := 9) rfl (by kernel_rfl) (by kernel_rfl) (by kernel_rfl) (by kernel_rfl) (fun _ _ _ h => h) rfl (fun w' => exField rfl (fieldW g w')) (fun _ => K6.out.cell 0) ?_
      simp only [Act.put, List.setIfInBounds_toArray, List.set_cons_zero, List.set_cons_succ]
      refine wpAnyZ_all (rs := [10]) (by kernel_rfl) (by simp) ?_
      intro i hi
      simp only [List.mem_cons, List.not_mem_nil, or_false] at hi
      subst hi
      refine wpOp_of rfl rfl (wpStored1 rfl rfl (storeB g 0 w6 _ _ _ (K6.out.cell 0) (K6.out.fr 0)) ?_)
      refine ⟨noZ (by kernel_rfl), ?_⟩
      refine wpAnyZ_done (by kernel_rfl) ?_ _
      have PW := WrAt.put hn0.out K2.out O2.out HS.out fg.out (fun q e => Nat.lt_of_lt_of_le (lt9.out q e) b2.size) own1 kp hv1
      obtain ⟨p1, F2, p2, p3⟩ := PW
      have KP5 : Hid (Kept F w (w6.setCell ⟨g, 0, none⟩ (.slice A6 (n0 + (vbytes u).length) c6))) := ((KP9.out.then b2).trans p1 fun x e => hF.out x e)
      have WR5 : Hid (∃ F', WrAt (w6.setCell ⟨g, 0, none⟩ (.slice A6 (n0 + (vbytes u).length) c6)) F' g (l ++ (ns.take (k + 1)).flatMap vbytes) ∧ ∀ q, F' q → F q ∨ w.heap.size ≤ q) := ⟨F2, by rw [FT.out, ← List.append_assoc]; exact p2, fun q e => (p3 q e).elim (hF.out q) (fun e => .inr (by have := KP9.out.size; have := b2.size; omega))⟩
      clear p1 p2 p3 own1 kp hv1 K2 O2 K6 S2 S9 K9 O9 KP9 b2 own2
      go_wp2_with fail
      go_roundw
      case rel => exact ⟨k + 1, by omega, by go_num, KP5.out, WR5.out⟩
      case measure => simp [intOf]; omega
    · have hki : ¬ (k : Int) < (m : Int) := by omega
      have hkm : k = m := by omega
      rw [List.take_of_length_le (by have := ML.out; omega)] at WR
      go_wp2
      go_end0
      exact ⟨rfl, KP.out, WR.out⟩
end Go.Proofs.YtihggkmjalofiaaGreatDoor

/- A text that is written, and all that was: walked. -/
namespace Go.Proofs.YtihggkmjalofiaaGreatDoor
open Go.RowKit

set_option maxRecDepth 100000 in
set_option maxHeartbeats 2000000 in
theorem wrText_any {w : World} {F : Nat → Prop} {g : Nat} {l : List UInt8} (h : WrAt w F g l) (s : ByteArray) (hl : l.length ≤ 900000) (hs : s.size ≤ 1000) :
    Calls Tryz.prog 75 #[.pointer (some ⟨g, 0, none⟩), .string s] w (WrRet w F g (l ++ (vbytes s.size ++ s.data.toList))) := by
  have H := Lib.hid h
  have hs0 : (0 : Int) ≤ (s.size : Int) := by omega
  have hs1 : (s.size : Int) ≤ 1000 := by omega
  have B0 : Hid (Below w.heap.size w (w.alloc (.cells #[.int .u64 (s.size : Int)] 76))) := below_new _ _
  have S0 : Hid (Sl (w.alloc (.cells #[.int .u64 (s.size : Int)] 76)) (w.alloc (.cells #[.int .u64 (s.size : Int)] 76)).heap.size 1 (some ⟨w.heap.size, 0, none⟩) 1 (encU [s.size])) := sl_fresh w _ 76 1 1 (encU [s.size]) rfl rfl
  have HN := Lib.hid (wrNum_any (H.out.ext B0.out) [s.size] (fun n hn => by rw [List.mem_singleton.1 hn]; omega) (some ⟨w.heap.size, 0, none⟩) 1 1 S0.out (fun b o e hf => by injection e with e; injection e with e _ _; have := H.out.lt b hf; omega) rfl (by omega) (by omega))
  clear h S0
  go_enter Tryz.func75, Tryz.ntmps75
  go_wp2_with fail
  refine HN.out.mono ?_
  rintro e w2 ⟨rfl, kp, F2, hW, hF⟩
  have KP : Hid (Kept F w w2) := (Kept.of_below B0.out).trans kp fun x e => .inl e
  have HF : Hid (∀ q, F2 q → F q ∨ w.heap.size ≤ q) := fun q e => (hF q e).elim .inl fun e => .inr (Nat.le_trans B0.out.size e)
  obtain ⟨s0, kk, oo, hs2⟩ := hW.ex
  have HS := Lib.hid hs2
  have fg := Lib.hid hW.fg
  have lt := Lib.hid hW.lt
  have K3 := Lib.hid kk
  have O3 := Lib.hid oo
  obtain ⟨n0, hn0⟩ : ∃ n0, n0 = (l ++ [s.size].flatMap vbytes).length := ⟨_, rfl⟩
  have hn0b : n0 ≤ 1000000 := by
    have h1 : (vbytes s.size).length ≤ 10 := vbytes_len 9 _ (by omega)
    rw [List.length_append, List.flatMap_cons, List.flatMap_nil, List.append_nil] at hn0
    omega
  rw [← hn0] at O3 oo
  replace hn0 := Lib.hid hn0
  obtain ⟨A0, c0, rfl, _, _⟩ := Sl.of_own oo
  have y0 : w2.cell? ⟨g, 0, none⟩ = some (.slice A0 n0 c0) := K3.out.cell 0
  clear kp hF hW hs2 kk oo HN H B0
  go_wp2_with (at_builtin; refine wpList_strB O3.out s (Nat.zero_le _) (by omega) (by rfl) (by rfl) ?_; intro v1 w6 own1 kp hv1; obtain ⟨A1, c1, rfl, _, _⟩ := Sl.of_own own1; have K6 : Hid (Blk w6 g 139 #[.slice A0 n0 c0]) := K3.out.keep (kp.block g K3.out.lt fun e => own_ne_blk O3.out K3.out (by decide) e rfl); have y6 : w6.cell? ⟨g, 0, none⟩ = some (.slice A0 n0 c0) := K6.out.cell 0; have f6 : w6.frozen? ⟨g, 0, none⟩ = false := K6.out.fr 0)
  have e1 : s.size = s.data.toList.length := rfl
  rw [strCells_enc, e1] at own1
  obtain ⟨p1, F3, p2, p3⟩ := WrAt.put hn0.out K3.out O3.out HS.out fg.out lt.out own1 kp hv1
  go_end0
  refine ⟨rfl, KP.out.trans p1 fun x e => HF.out x e, F3, ?_, fun q e => (p3 q e).elim (HF.out q) fun e => .inr (Nat.le_trans KP.out.size e)⟩
  rw [List.append_assoc] at p2
  simpa using p2
set_option maxRecDepth 100000 in
set_option maxHeartbeats 1000000 in
theorem cloneB (l : List UInt8) (w : World) (A : Option Addr) (n c : Nat) (hm : n ≤ 10000000) (hs : Sl w w.heap.size 1 A n (encB l)) (hl : l.length = n) :
    Calls Tryz.prog 152 #[.slice A n c] w (OwnedRet w 5 1 n (encB l)) := by
  have HE : ∀ u : World, (binOp .eql 46 (.slice A n c) (.slice none 0 0)).run Tryz.prog u = .ok (.bool A.isNone) u := fun u => Lib.run_eql_slice_nil u _ _ A n c 0 0 Tryz.underlying46
  have HS := Lib.hid hs
  have HL := Lib.hid hl
  clear hs hl
  cases A with
  | none =>
    have hn0 : n = 0 := by
      rcases Nat.eq_zero_or_pos n with h0 | h0
      · exact h0
      · obtain ⟨b, o, e, _⟩ := HS.out.2 h0; cases e
    subst hn0
    have hl : Hid (l = []) := List.length_eq_zero_iff.1 HL.out
    have HE' : ∀ u : World, (binOp .eql 46 (.slice none 0 c) (.slice none 0 0)).run Tryz.prog u = .ok (.bool true) u := HE
    clear HE
    go_enter Tryz.func152, Tryz.ntmps152
    go_wp2
    go_ret
    refine ⟨_, rfl, ?_, Below.refl _ _⟩
    rw [hl.out]
    exact World.ownsRow_nil _ _ _ _
  | some a =>
    have HE' : ∀ u : World, (binOp .eql 46 (.slice (some a) n c) (.slice none 0 0)).run Tryz.prog u = .ok (.bool false) u := HE
    clear HE
    have B0 : Hid (Below w.heap.size w (w.alloc (.cells #[] 5))) := below_new _ _
    have O0 : Hid ((w.alloc (.cells #[] 5)).ownsRow w.heap.size 5 1 (.slice (some ⟨w.heap.size, 0, none⟩) 0 0) 0 []) :=
      ⟨rfl, .inr ⟨w.heap.size, 0, #[], rfl, Nat.le_refl _, heap_alloc_new w _, Nat.le_refl _, by simp, rfl, rfl⟩⟩
    have S0 : Hid (Sl (w.alloc (.cells #[] 5)) w.heap.size 1 (some a) n (encB l)) := HS.out.below B0.out (Nat.le_refl _)
    go_enter Tryz.func152, Tryz.ntmps152
    go_wp2_with (at_builtin; refine wpList_cat byteSl O0.out S0.out (encB_one l) B0.out.size (by omega) (by unfold maxLen; omega) (by rfl) (by rfl) ?_)
    intro v' w' ho hb
    rw [Nat.zero_add, List.nil_append] at ho
    have O1 := Lib.hid ho
    have B1 := Lib.hid (B0.out.trans hb)
    clear ho hb
    obtain ⟨A2, c2, hv, _, _⟩ := Sl.of_own O1.out
    subst hv
    go_wp2
    go_ret
    exact ⟨_, rfl, O1.out, B1.out⟩
set_option maxRecDepth 100000 in
set_option maxHeartbeats 1000000 in
theorem wrBytes_any {w : World} {F : Nat → Prop} {g : Nat} {l : List UInt8} (h : WrAt w F g l) (hl : l.length ≤ 10000000) :
    Calls Tryz.prog 76 #[.pointer (some ⟨g, 0, none⟩)] w (OwnedRet w 5 1 l.length (encB l)) := by
  obtain ⟨s, K, O, _⟩ := h.ex
  obtain ⟨A0, c0, rfl, _, hsl⟩ := Sl.of_own O
  have HC := Lib.hid (cloneB l w A0 l.length c0 hl hsl rfl)
  have y0 : w.cell? ⟨g, 0, none⟩ = some (.slice A0 l.length c0) := K.cell 0
  clear K O h hsl
  go_enter Tryz.func76, Tryz.ntmps76
  go_wp2_with fail
  refine HC.out.mono ?_
  rintro e w2 ⟨v, rfl, o, b⟩
  go_wp2
  go_ret
  exact ⟨_, rfl, o, b⟩
end Go.Proofs.YtihggkmjalofiaaGreatDoor

/- Bytes that are read: the program's reader, walked. -/
namespace Go.Proofs.YtihggkmjalofiaaGreatDoor
open Go.RowKit

/-- a reader: what was not read, and what was wrong; the bytes lie below block B -/
structure RdAt (w : World) (B g : Nat) (l : List UInt8) (e : Nat) : Prop where
  ge : B ≤ g
  ex : ∃ A c, Blk w g 344 #[.slice A l.length c, .int .i64 (e : Int)] ∧ l.length ≤ c ∧ c ≤ maxLen ∧ Sl w B 1 A l.length (encB l)
theorem RdAt.ext {w w' : World} {B g e : Nat} {l : List UInt8} (h : RdAt w B g l e) (hb : Below w.heap.size w w') : RdAt w' B g l e := by
  obtain ⟨A, c, h1, h2, h3, h4⟩ := h.ex
  exact ⟨h.ge, A, c, h1.ext hb, h2, h3, h4.below hb (by have := h1.lt; have := h.ge; omega)⟩
end Go.Proofs.YtihggkmjalofiaaGreatDoor

/- A byte, a number and a text that are read: walked. -/
namespace Go.Proofs.YtihggkmjalofiaaGreatDoor
open Go.RowKit

/-- bytes as a text -/
def bytesOf (l : List UInt8) : ByteArray := ⟨l.toArray⟩
set_option maxRecDepth 100000 in
theorem strB_run {w : World} {B n c : Nat} {A : Option Addr} {l : List UInt8} (h : Sl w B 1 A n (encB l)) (hl : l.length = n) : (convert 46 9 (.slice A n c)).run Tryz.prog w = .ok (.string (bytesOf l)) w := by
  rcases Nat.eq_zero_or_pos n with h0 | h0
  · subst h0
    have : l = [] := List.eq_nil_of_length_eq_zero hl
    subst this
    cases A with
    | none => exact run_convert_bytes_nil w 46 5 Tryz.underlying46 Tryz.underlying5 0 c 9 Tryz.underlying9
    | some a =>
      rw [run_convert_bytes_string w 46 9 5 (some a) 0 c Tryz.underlying46 Tryz.underlying5 Tryz.underlying9]
      simp [Conv.bytesToString, loadCells, loadCellsFrom, bytesOf]
      rfl
  · obtain ⟨b, o, rfl, _, hc⟩ := h.2 h0
    have hr := run_convert_bytes_arg (P := Tryz.prog) w 46 5 Tryz.underlying46 Tryz.underlying5 b o n c (l.map fun x => ((x.toNat : Nat) : Int)) (by rw [List.length_map, hl]) (fun i hi => by
      have hx := hc i (by omega)
      rw [encB_at, List.getElem?_eq_getElem (by omega)] at hx
      rw [hx]
      simp [List.getD, List.getElem?_map, List.getElem?_eq_getElem (show i < l.length by omega)]) 9 Tryz.underlying9
    rw [hr]
    congr 2
    apply ByteArray.ext
    apply Array.toList_inj.1
    rw [strOfNums_data, List.map_map]
    show _ = l
    conv => rhs; rw [← List.map_id l]
    apply List.map_congr_left
    intro x _
    simp
end Go.Proofs.YtihggkmjalofiaaGreatDoor

/- A text that is read; a reader that is opened: walked. -/
namespace Go.Proofs.YtihggkmjalofiaaGreatDoor
open Go.RowKit

end Go.Proofs.YtihggkmjalofiaaGreatDoor
