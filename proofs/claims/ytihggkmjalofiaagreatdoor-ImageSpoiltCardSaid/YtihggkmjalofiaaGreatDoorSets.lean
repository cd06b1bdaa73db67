/- Texts of general use, one behind another. -/
import Derived.Test.YtihggkmjalofiaaGreatDoorPidw
import Derived.Test.YtihggkmjalofiaaGreatDoorGen
import Derived.Shelf.SlSortCmp.WholeK
import Derived.Test.YtihggkmjalofiaaGreatDoorSort
import Derived.Shelf.SlSortCmp.NoneTotal

/- Names of patches as they lie in memory. -/
namespace Go.Proofs.YtihggkmjalofiaaGreatDoor
open Go.RowKit

abbrev PidV := Fin 256 × Fin 65536
def encP (p : PidV) : List Value := [.int .u8 ((p.1.val : Nat) : Int), .int .u16 ((p.2.val : Nat) : Int)]
def keyP (p : PidV) : Int := packV ((p.1.val : Nat) : Int) ((p.2.val : Nat) : Int)
theorem keyP_inj (x y : PidV) (h : keyP x = keyP y) : x = y := by
  unfold keyP packV at h
  have h1 := x.1.isLt
  have h2 := x.2.isLt
  have h3 := y.1.isLt
  have h4 := y.2.isLt
  exact Prod.ext (Fin.ext (by omega)) (Fin.ext (by omega))
theorem encP_len (p : PidV) : (encP p).length = 2 := rfl
theorem encP_one (p : PidV) : ∀ u ∈ encP p, u.oneCell' = true := by
  intro u hu
  simp only [encP, List.mem_cons, List.not_mem_nil, or_false] at hu
  rcases hu with rfl | rfl <;> rfl
theorem pidV_eq (x y : PidV) : (decide (((x.1.val : Nat) : Int) = ((y.1.val : Nat) : Int)) && decide (((x.2.val : Nat) : Int) = ((y.2.val : Nat) : Int))) = decide (x = y) := by
  rw [Bool.eq_iff_iff]
  simp only [Bool.and_eq_true, decide_eq_true_eq]
  constructor
  · rintro ⟨h1, h2⟩; exact Prod.ext (Fin.ext (by omega)) (Fin.ext (by omega))
  · rintro rfl; exact ⟨rfl, rfl⟩
theorem eqlP (x y : PidV) (w : World) : (binOp .eql 27 (.agg (encP x).toArray) (.agg (encP y).toArray)).run Tryz.prog w = .ok (.bool (decide (x = y))) w := by
  rw [← pidV_eq]; exact eql_pid _ _ _ _ w
theorem neqP (x y : PidV) (w : World) : (binOp .neq 27 (.agg (encP x).toArray) (.agg (encP y).toArray)).run Tryz.prog w = .ok (.bool (!decide (x = y))) w := by
  rw [← pidV_eq]; exact neq_pid _ _ _ _ w
theorem pidSl : SlT Tryz.prog 28 27 2 4 := slT_of (z := .agg #[.int .u8 0, .int .u16 0]) Tryz.underlying28 (by kernel_rfl) rfl (by omega)
theorem rangeAt_ext {w : World} {b o : Nat} {cs : List Value} (h : w.rangeAt b o cs) (hb : b < w.heap.size) : ∀ w', (∃ z : Ext w, w' = z.w) → w'.rangeAt b o cs := by
  rintro _ ⟨z, rfl⟩; exact rangeAt_below h z.h hb
theorem own_mono' {w : World} {b c : Nat} {e : TypeId} {size n : Nat} {v : Value} {xs : List Value} (h : w.ownsRow c e size v n xs) (hb : b ≤ c) : w.ownsRow b e size v n xs := by
  obtain ⟨h1, h2⟩ := h
  refine ⟨h1, ?_⟩
  rcases h2 with h | ⟨g, cap, cur, e1, hg, h3⟩
  · exact .inl h
  · exact .inr ⟨g, cap, cur, e1, by omega, h3⟩
/-- names in a slice -/
structure PidsAt (w : World) (A : Option Addr) (n : Nat) (l : List PidV) : Prop where
  len : l.length = n
  sl : Sl w w.heap.size 2 A n (l.flatMap encP)
theorem PidsAt.ext {w w' : World} {A : Option Addr} {n : Nat} {l : List PidV} (h : PidsAt w A n l) (hb : Below w.heap.size w w') : PidsAt w' A n l := ⟨h.len, (h.sl.below hb (Nat.le_refl _)).more hb.size⟩
theorem PidsAt.at_ {w : World} {A : Option Addr} {n : Nat} {l : List PidV} (h : PidsAt w A n l) {k : Nat} (hk : k < n) : ∃ b o x, A = some ⟨b, o, none⟩ ∧ b < w.heap.size ∧ l[k]? = some x ∧ w.rangeAt b (o + k * 2) (encP x) := by
  have hk' : k < l.length := by rw [h.len]; exact hk
  obtain ⟨b, o, e, hb, hr⟩ := h.sl.rowAt h.len (fun x _ => encP_len x) hk'
  exact ⟨b, o, l[k], e, hb, List.getElem?_eq_getElem hk', hr⟩
theorem PidsAt.of_own {w : World} {base n : Nat} {v : Value} {l : List PidV} (h : w.ownsRow base 27 2 v n (l.flatMap encP)) (hn : l.length = n) : ∃ A c, v = .slice A n c ∧ n ≤ c ∧ PidsAt w A n l := by
  obtain ⟨A, c, rfl, hc, hs⟩ := Sl.of_own h
  exact ⟨A, c, rfl, hc, hn, hs⟩
end Go.Proofs.YtihggkmjalofiaaGreatDoor

/- Lists of names of patches: are they the same, do they rise? -/
namespace Go.Proofs.YtihggkmjalofiaaGreatDoor
open Go.RowKit

theorem mixedS : Tryz.prog.follows .mixedOrders = true := by kernel_rfl
theorem take_eq_snoc {α : Type} {l m : List α} {k : Nat} {x : α} (h : l.take k = m.take k) (hl : l[k]? = some x) (hm : m[k]? = some x) : l.take (k + 1) = m.take (k + 1) := by
  obtain ⟨h1, e1⟩ := List.getElem?_eq_some_iff.1 hl
  obtain ⟨h2, e2⟩ := List.getElem?_eq_some_iff.1 hm
  rw [List.take_succ_eq_append_getElem h1, List.take_succ_eq_append_getElem h2, h, e1, e2]
end Go.Proofs.YtihggkmjalofiaaGreatDoor

/- Lists of names of patches: do they rise? -/
namespace Go.Proofs.YtihggkmjalofiaaGreatDoor
open Go.RowKit

end Go.Proofs.YtihggkmjalofiaaGreatDoor

/- Sets of names: the document's, walked. -/
namespace Go.Proofs.YtihggkmjalofiaaGreatDoor
open Go.RowKit

theorem take_snoc' {α : Type} {l : List α} {k : Nat} {x : α} (h : l[k]? = some x) : l.take (k + 1) = l.take k ++ [x] := by
  obtain ⟨h1, rfl⟩ := List.getElem?_eq_some_iff.1 h
  exact List.take_succ_eq_append_getElem h1
theorem flat_snocP (mo : List PidV) (y : PidV) : (mo ++ [y]).flatMap encP = mo.flatMap encP ++ encP y := by simp
end Go.Proofs.YtihggkmjalofiaaGreatDoor

/- What the library's sort leaves of a row of structs of the call's own. No program in sight. -/
namespace Go.Proofs.YtihggkmjalofiaaGreatDoor
open Go.RowKit Go.Sort

section
variable {α : Type} [Inhabited α] {enc : α → List Value} {size : Nat}
theorem flatK_list (henc : ∀ x, (enc x).length = size) (l : List α) : (Go.Sort.flatK enc size l.toArray).toList = l.flatMap enc := by
  have hl : (l.flatMap enc).length = l.length * size := flatMap_len enc l (fun x _ => henc x)
  apply List.ext_getElem?
  intro t
  by_cases ht : t < l.length * size
  · have hpos : 0 < size := by
      rcases Nat.eq_zero_or_pos size with h | h
      · subst h; simp at ht
      · exact h
    have hq : t / size < l.length := (Nat.div_lt_iff_lt_mul hpos).2 ht
    have hm := Nat.mod_lt t hpos
    have hg := flatMap_get enc l (fun x _ => henc x) (t / size) (t % size) hq hm
    rw [Nat.mul_comm (t / size), Nat.div_add_mod] at hg
    rw [hg]
    have hm' : t % size < (enc l[t / size]).length := by rw [henc]; exact hm
    have h1 : t < (Go.Sort.flatK enc size l.toArray).size := by rw [size_flatK]; simpa using ht
    rw [Array.getElem?_toList, Array.getElem?_eq_getElem h1, ← getElem!_pos (Go.Sort.flatK enc size l.toArray) t h1, get_flatK _ _ _ _ (by simpa using ht)]
    rw [getElem!_pos l.toArray _ (by simpa using hq), List.getElem_toArray, getElem!_pos (enc _) _ hm', List.getElem?_eq_getElem hm']
  · rw [List.getElem?_eq_none (by rw [Array.length_toList, size_flatK]; simpa using Nat.le_of_not_lt ht), List.getElem?_eq_none (by omega)]
theorem take_put (cur : Array Value) (F : Array Value) (h : F.size ≤ cur.size) : (putCells id 0 F cur).toList.take F.size = F.toList := by
  apply List.ext_getElem?
  intro k
  rw [List.getElem?_take]
  by_cases hk : k < F.size
  · rw [if_pos hk, Array.getElem?_toList, Array.getElem?_toList]
    unfold putCells
    rw [Array.getElem?_mapIdx, Array.getElem?_eq_getElem (show k < cur.size by omega), Array.getElem?_eq_getElem hk]
    simp [hk]
  · rw [if_neg hk, List.getElem?_eq_none (by rw [Array.length_toList]; omega)]
variable {w : World} {base : Nat} {e : TypeId} {g n cap : Nat} {l : List α}
theorem own_holds (henc : ∀ x, (enc x).length = size) (h : w.ownsRow base e size (.slice (some ⟨g, 0, none⟩) n cap) n (l.flatMap enc)) (hn : l.length = n) : HoldsK enc size w g 0 l.toArray := fun j hj => by
  have hj' : j < n * size := by simpa [hn] using hj
  have e1 := flatK_list henc l
  have e2 : (Go.Sort.flatK enc size l.toArray)[j]? = (l.flatMap enc)[j]? := by rw [← e1, Array.getElem?_toList]
  rw [Nat.zero_add, h.cellAt j hj', ← e2, Array.getElem?_eq_getElem hj, getElem!_pos (Go.Sort.flatK enc size l.toArray) j hj]
  exact ⟨rfl, h.frozenAt j⟩
theorem own_sorted (henc : ∀ x, (enc x).length = size) (h : w.ownsRow base e size (.slice (some ⟨g, 0, none⟩) n cap) n (l.flatMap enc)) (d' : List α) (hd : d'.length = n) (m : Nat) (os : Array Obj) :
    (sortWorldK enc size w g 0 m d'.toArray os).ownsRow base e size (.slice (some ⟨g, 0, none⟩) n cap) n (d'.flatMap enc) ∧ Below base w (sortWorldK enc size w g 0 m d'.toArray os) := by
  have hlt := (h.lt g rfl).2
  rcases h.2 with ⟨h', _⟩ | ⟨g', cap', cur, h', hb, hg, hnc, hcm, hcs, htake⟩
  · simp at h'
  · simp only [Value.slice.injEq, Option.some.injEq, Addr.mk.injEq, and_true, true_and] at h'
    obtain ⟨rfl, rfl⟩ := h'
    have hks : n * size ≤ cap * size := Nat.mul_le_mul_right _ hnc
    have hF : (Go.Sort.flatK enc size d'.toArray).size = n * size := by rw [size_flatK]; simp [hd]
    have hblk : ∀ k, (sortWorldK enc size w g 0 m d'.toArray os).heap[k]? = if k < w.heap.size then (if g = k then (w.heap[k]?).map (onCells (putCells id 0 (Go.Sort.flatK enc size d'.toArray))) else w.heap[k]?) else os[k - w.heap.size]? := by
      intro k
      unfold sortWorldK grow putRowK putRow mapBlock Sort.ahead
      simp only [Array.getElem?_append, Array.size_modify, Array.getElem?_modify]
    refine ⟨⟨by rw [flatMap_len enc d' (fun x _ => henc x), hd], .inr ⟨g, cap, putCells id 0 (Go.Sort.flatK enc size d'.toArray) cur, rfl, hb, ?_, hnc, hcm, by unfold putCells; simpa using hcs, ?_⟩⟩, ?_⟩
    · rw [hblk, if_pos hlt, if_pos rfl, hg]; rfl
    · rw [← hF, take_put cur _ (by rw [hF, hcs]; exact hks), flatK_list henc]
    · refine ⟨rfl, rfl, rfl, ?_, fun k hk => ?_⟩
      · unfold sortWorldK grow putRowK putRow mapBlock Sort.ahead
        simp
      · rw [hblk]
        by_cases hkw : k < w.heap.size
        · rw [if_pos hkw, if_neg (by omega)]
        · omega
theorem perm_of_in {l d' : List α} (h : PermIn 0 l.toArray.size l.toArray d'.toArray) : d'.Perm l ∧ d'.length = l.length := by
  obtain ⟨h1, _, h3⟩ := h
  have hs : d'.length = l.length := by simpa using h1
  refine ⟨?_, hs⟩
  have e1 : (d'.toArray.extract 0 l.toArray.size).toList = d' := by simp [← hs]
  have e2 : (l.toArray.extract 0 l.toArray.size).toList = l := by simp
  rw [e1, e2] at h3
  exact h3
theorem pair_of_sorted {key : α → Int} {lt : α → α → Bool} (hk : ∀ x y, lt x y = decide (key x < key y)) {d' : List α} (h : SortedIn lt 0 d'.length d'.toArray) : d'.Pairwise fun a b => key a ≤ key b := by
  rw [List.pairwise_iff_getElem]
  intro i j hi hj hij
  have := h i j (Nat.zero_le _) hij hj
  rw [hk, decide_eq_false_iff_not, getElem!_pos d'.toArray j (by simpa using hj), getElem!_pos d'.toArray i (by simpa using hi)] at this
  simp only [List.getElem_toArray] at this
  omega
end
end Go.Proofs.YtihggkmjalofiaaGreatDoor

/- Names of patches sorted by the library. -/
namespace Go.Proofs.YtihggkmjalofiaaGreatDoor
open Go.RowKit Go.Sort

theorem gext_row {w0 : World} {g : Nat} {t : TypeId} {cs : Array Value} (h : Blk w0 g t cs) : ∀ w', (∃ z : GExt w0, w' = z.w) → w'.rangeAt g 0 cs.toList := by
  rintro _ ⟨z, rfl⟩
  intro j v hv
  rw [Nat.zero_add, (h.ext z.h.below).cell, ← Array.getElem?_toList]; exact hv
set_option maxRecDepth 100000 in
set_option maxHeartbeats 1000000 in
theorem packG (a s : Int) (ha : 0 ≤ a ∧ a < 256) (hs : 0 ≤ s ∧ s < 65536) (w : World) : Calls Tryz.prog 235 #[.agg #[.int .u8 a, .int .u16 s]] w (RetG w (.int .u32 (packV a s))) := by
  have B0 : Hid (Grew w (w.alloc (.cells #[.int .u8 a, .int .u16 s] 27))) := (Grew.refl _).alloc _
  have E := Lib.hid (bits_pack a s ha hs)
  obtain ⟨a0, a1⟩ := ha
  obtain ⟨s0, s1⟩ := hs
  go_enter Tryz.func235, Tryz.ntmps235
  go_wp2
  go_ret
  exact ⟨ret_int E.out, B0.out⟩

set_option maxRecDepth 100000 in
set_option maxHeartbeats 1000000 in
theorem cmpG (a s b t : Int) (ha : 0 ≤ a ∧ a < 256) (hs : 0 ≤ s ∧ s < 65536) (hb : 0 ≤ b ∧ b < 256) (ht : 0 ≤ t ∧ t < 65536) (w : World) :
    Calls Tryz.prog 304 #[.agg #[.int .u8 a, .int .u16 s], .agg #[.int .u8 b, .int .u16 t]] w (RetG w (.int .i64 (signV (packV a s) (packV b t)))) := by
  have HA := Lib.hid (fun w0 => packG a s ha hs w0)
  have HB := Lib.hid (fun w0 => packG b t hb ht w0)
  have B0 : Hid (Grew w ((w.alloc (.cells #[.int .u8 a, .int .u16 s] 27)).alloc (.cells #[.int .u8 b, .int .u16 t] 27))) := ((Grew.refl _).alloc _).alloc _
  have K1 : Hid (Blk ((w.alloc (.cells #[.int .u8 a, .int .u16 s] 27)).alloc (.cells #[.int .u8 b, .int .u16 t] 27)) w.heap.size 27 #[.int .u8 a, .int .u16 s]) := (Blk.new _ _ _).alloc _
  have K2 : Hid (Blk ((w.alloc (.cells #[.int .u8 a, .int .u16 s] 27)).alloc (.cells #[.int .u8 b, .int .u16 t] 27)) (w.heap.size + 1) 27 #[.int .u8 b, .int .u16 t]) := Blk.newAt (by simp) _ _
  clear ha hs hb ht
  generalize packV a s = x at *
  generalize packV b t = y at *
  go_enter Tryz.func304, Tryz.ntmps304
  go_wp2_with fail
  generalize ((w.alloc (.cells #[.int .u8 a, .int .u16 s] 27)).alloc (.cells #[.int .u8 b, .int .u16 t] 27)) = w0 at *
  refine wp_region_grew mixedS (by kernel_rfl) ?_
  repeat (first
    | (refine wpQuiet_load_mid (gext_row K1.out) underPid rfl infoPid rfl rfl ?_; simp only [List.set_cons_succ, List.set_cons_zero])
    | (refine wpQuiet_load_mid (gext_row K2.out) underPid rfl infoPid rfl rfl ?_; simp only [List.set_cons_succ, List.set_cons_zero])
    | go_big_quiet_step ((first | (go_at_call 235; with_reducible exact gext_call (HA.out _)) | (go_at_call 235; with_reducible exact gext_call (HB.out _)) | (go_at_call 297; with_reducible exact gext_call ((compare_any _ _ _).mono fun _ _ => RetG.of)))))
  refine wpQuiet_nil ?_
  rintro _ ⟨z, rfl⟩
  go_wp2
  go_ret
  exact ⟨rfl, B0.out.trans z.h⟩
end Go.Proofs.YtihggkmjalofiaaGreatDoor

/- Names of patches: cloned, and sorted by the library. -/
namespace Go.Proofs.YtihggkmjalofiaaGreatDoor
open Go.RowKit Go.Sort

theorem cmpLaysP (blk off size : Nat) (w : World) : CmpLays Tryz.prog 304 #[] encP 2 (fun x y => signV (keyP x) (keyP y)) blk off size w :=
  fun _ _ _ _ x y => (cmpG _ _ _ _ ⟨by omega, by have := x.1.isLt; omega⟩ ⟨by omega, by have := x.2.isLt; omega⟩ ⟨by omega, by have := y.1.isLt; omega⟩ ⟨by omega, by have := y.2.isLt; omega⟩ _).mono fun _ _ ⟨he, hg⟩ => ⟨he, hg.grow⟩
theorem ltOf_sign {α : Type} (key : α → Int) (x y : α) : ltOf (fun x y => signV (key x) (key y)) x y = decide (key x < key y) := by
  unfold ltOf signV
  by_cases h1 : key x < key y
  · simp [h1]
  · by_cases h2 : key y < key x <;> simp [h1, h2]
theorem swo_sign {α : Type} (key : α → Int) : SWO (ltOf fun x y => signV (key x) (key y)) where
  irrefl x := by rw [ltOf_sign]; simp
  trans x y z h1 h2 := by rw [ltOf_sign] at *; simp at *; omega
  ntrans x y z h1 h2 := by rw [ltOf_sign] at *; simp at *; omega
theorem isAggP (w : World) : (isAgg 27).run Tryz.prog w = .ok true w := by kernel_rfl
theorem sizeP (w : World) : (Go.sizeOf 27).run Tryz.prog w = .ok 2 w := by kernel_rfl
/-- the library's sort, at a slice of the call's own -/
theorem sortP (l : List PidV) (w : World) (base n : Nat) (v : Value) (hn : l.length = n) (hm : n ≤ 100000) (h : w.ownsRow base 27 2 v n (l.flatMap encP)) :
    Calls Tryz.prog 303 #[v, .func (.func 304) #[] #[]] w fun e w' => e = .returned (.tuple #[]) ∧ Below base w w' ∧
      ∃ d : List PidV, d.Perm l ∧ (d.Pairwise fun a b => keyP a ≤ keyP b) ∧ w'.ownsRow base 27 2 v n (d.flatMap encP) := by
  rcases h.2 with ⟨rfl, hx⟩ | ⟨g, cap, cur, rfl, hg, hh, hnc, hrest⟩
  · subst hx
    have hl : l = [] := List.length_eq_zero_iff.1 hn
    subst hl
    refine (AnyF.slices_SortFunc_none Tryz.sortPid none 0 _ w).mono ?_
    rintro e w' ⟨rfl, rfl⟩
    exact ⟨rfl, Below.refl _ _, [], List.Perm.refl _, List.Pairwise.nil, h⟩
  · have eg : ∀ args w, (callFunc 304 args).run Tryz.prog w = .ok (.enter 304 args) w := enters_of Tryz.func304 (by kernel_rfl) rfl
    have hblk := (h.lt g rfl).2
    have hcon := AnyQ.slices_SortFunc Tryz.sortPid 2 isAggP sizeP encP encP_len encP_one (fun x y => signV (keyP x) (keyP y)) (swo_sign keyP) 304 #[] g 0 cap l.toArray w eg (cmpLaysP g 0 l.toArray.size w) (own_holds encP_len h hn) hblk (by simp only [List.size_toArray]; omega)
    rw [show l.toArray.size = n by simp [hn]] at hcon
    refine Calls.mono hcon ?_
    rintro e w' ⟨rfl, d', m, os, hp, hs, rfl⟩
    obtain ⟨d, rfl⟩ : ∃ d : List PidV, d' = d.toArray := ⟨d'.toList, by simp⟩
    have hp' : PermIn 0 l.toArray.size l.toArray d.toArray := by rw [show l.toArray.size = n by simp [hn]]; exact hp
    obtain ⟨p1, p2⟩ := perm_of_in hp'
    have hs' : SortedIn (ltOf fun x y : PidV => signV (keyP x) (keyP y)) 0 d.length d.toArray := by rw [show d.length = n by omega]; exact hs
    obtain ⟨o1, o2⟩ := own_sorted encP_len h d (by omega) m os
    exact ⟨rfl, o2, d, p1, pair_of_sorted (ltOf_sign keyP) hs', o1⟩

theorem encs_one {α : Type} {enc : α → List Value} (h : ∀ p, ∀ u ∈ enc p, u.oneCell' = true) (l : List α) : ∀ u ∈ l.flatMap enc, u.oneCell' = true := by
  intro u hu
  obtain ⟨p, _, hp⟩ := List.mem_flatMap.1 hu
  exact h p u hp
set_option maxRecDepth 100000 in
set_option maxHeartbeats 1000000 in
theorem cloneP (l : List PidV) (w : World) (A : Option Addr) (n c : Nat) (hm : n ≤ 100000) (h : PidsAt w A n l) :
    Calls Tryz.prog 187 #[.slice A n c] w (OwnedRet w 27 2 n (l.flatMap encP)) := by
  have HE : ∀ u : World, (binOp .eql 28 (.slice A n c) (.slice none 0 0)).run Tryz.prog u = .ok (.bool A.isNone) u := fun u => Lib.run_eql_slice_nil u _ _ A n c 0 0 Tryz.underlying28
  have HS := Lib.hid h.sl
  have HL := Lib.hid h.len
  clear h
  cases A with
  | none =>
    have hn0 : n = 0 := by
      rcases Nat.eq_zero_or_pos n with h0 | h0
      · exact h0
      · obtain ⟨b, o, e, _⟩ := HS.out.2 h0; cases e
    subst hn0
    have hl : Hid (l = []) := List.length_eq_zero_iff.1 HL.out
    have HE' : ∀ u : World, (binOp .eql 28 (.slice none 0 c) (.slice none 0 0)).run Tryz.prog u = .ok (.bool true) u := HE
    clear HE
    go_enter Tryz.func187, Tryz.ntmps187
    go_wp2
    go_ret
    refine ⟨_, rfl, ?_, Below.refl _ _⟩
    rw [hl.out]
    exact World.ownsRow_nil _ _ _ _
  | some a =>
    have HE' : ∀ u : World, (binOp .eql 28 (.slice (some a) n c) (.slice none 0 0)).run Tryz.prog u = .ok (.bool false) u := HE
    clear HE
    have B0 : Hid (Below w.heap.size w (w.alloc (.cells #[] 27))) := below_new _ _
    have O0 : Hid ((w.alloc (.cells #[] 27)).ownsRow w.heap.size 27 2 (.slice (some ⟨w.heap.size, 0, none⟩) 0 0) 0 []) :=
      ⟨rfl, .inr ⟨w.heap.size, 0, #[], rfl, Nat.le_refl _, heap_alloc_new w _, Nat.le_refl _, by simp, rfl, rfl⟩⟩
    have S0 : Hid (Sl (w.alloc (.cells #[] 27)) w.heap.size 2 (some a) n (l.flatMap encP)) := HS.out.below B0.out (Nat.le_refl _)
    go_enter Tryz.func187, Tryz.ntmps187
    go_wp2_with (at_builtin; refine wpList_cat pidSl O0.out S0.out (encs_one encP_one l) B0.out.size (by omega) (by unfold maxLen; omega) (by rfl) (by rfl) ?_)
    intro v' w' ho hb
    rw [Nat.zero_add, List.nil_append] at ho
    have O1 := Lib.hid ho
    have B1 := Lib.hid (B0.out.trans hb)
    clear ho hb
    obtain ⟨A2, c2, hv, _, _⟩ := Sl.of_own O1.out
    subst hv
    go_wp2
    go_ret
    exact ⟨_, rfl, O1.out, B1.out⟩
end Go.Proofs.YtihggkmjalofiaaGreatDoor

/- Names of patches: each once, in place. -/
namespace Go.Proofs.YtihggkmjalofiaaGreatDoor
open Go.RowKit

theorem zeroP (w : World) : (zeroValue 27).run Tryz.prog w = .ok (.agg #[.int .u8 0, .int .u16 0]) w := by kernel_rfl
set_option maxRecDepth 100000 in
set_option maxHeartbeats 4000000 in
theorem compactP (l : List PidV) (w : World) (base n g cap : Nat) (hn : l.length = n) (hm : n ≤ 100000) (h : w.ownsRow base 27 2 (.slice (some ⟨g, 0, none⟩) n cap) n (l.flatMap encP)) :
    Calls Tryz.prog 305 #[.slice (some ⟨g, 0, none⟩) n cap] w fun e w' =>
      e = .returned (.slice (some ⟨g, 0, none⟩) (onceK l).length cap) ∧ w'.ownsRow base 27 2 (.slice (some ⟨g, 0, none⟩) (onceK l).length cap) (onceK l).length ((onceK l).flatMap encP) ∧ Below base w w' := by
  have O := Lib.hid h
  have HL := Lib.hid hn
  have hnc : n ≤ cap := by
    rcases h.2 with ⟨h', _⟩ | ⟨g', cap', cur, h', _, _, hnc, _⟩
    · simp at h'
    · simp only [Value.slice.injEq, Option.some.injEq, Addr.mk.injEq, and_true, true_and] at h'
      omega
  have hgb : base ≤ g := (h.lt g rfl).1
  clear h hn
  by_cases h2 : n < 2
  · have N : Hid (onceK l = l) := by
      have := HL.out
      match l, this with
      | [], _ => rfl
      | [_], _ => rfl
      | _ :: _ :: _, h => simp at h; omega
    go_enter Tryz.func305, Tryz.ntmps305
    go_wp2
    go_ret
    rw [N.out, HL.out]
    exact ⟨rfl, O.out, Below.refl _ _⟩
  · have d0 : decide ((n : Int) < 2) = false := decide_eq_false (by omega)
    have d0' : decide (n < 2) = false := decide_eq_false h2
    go_enter Tryz.func305, Tryz.ntmps305
    go_wp2_with fail
    go_loopw [3] (fun i wr => ∃ k : Nat, 1 ≤ k ∧ k ≤ n ∧ i = .int .i64 k ∧ Hid (onceK l = l.take (k - 1) ++ onceK (l.drop (k - 1))) ∧ ∃ q, wr = w.drewN q) (fun i _ => n - (intOf i).toNat)
    case atStart => exact ⟨1, by omega, by omega, rfl, by simp [Hid], 0, rfl⟩
    case round =>
      obtain ⟨k, hk1, hk, rfl, I, q, rfl⟩ := hrel
      obtain ⟨x, hx⟩ : ∃ x, l[k - 1]? = some x := ⟨_, List.getElem?_eq_getElem (by rw [HL.out]; omega)⟩
      have hk0 : (0 : Int) ≤ (k : Int) := by omega
      by_cases hlt : k < n
      · obtain ⟨y, hy⟩ : ∃ y, l[k]? = some y := ⟨_, List.getElem?_eq_getElem (by rw [HL.out]; omega)⟩
        have R1 := Lib.hid (own_range O.out encP_len hx (by omega))
        have R2 := Lib.hid (own_range O.out encP_len hy hlt)
        have hlk : (k : Int) < (n : Int) := by omega
        have hp : ((k - 1 : Nat) : Int) = (k : Int) - 1 := by omega
        have hp2 : ((k : Int) - 1).toNat = k - 1 := by omega
        have hp3 : (0 : Int) ≤ (k : Int) - 1 := by omega
        have hp4 : (k : Int) - 1 < (n : Int) := by omega
        have wr1 : IntKind.i64.wrap ((k : Int) - 1) = (k : Int) - 1 := IntWalk.i64_in _ (by omega)
        have EQ := fun u => eqlP y x u
        have z0 : 0 + (k - 1) * 2 = (k - 1) * 2 := by omega
        have z1 : 0 + k * 2 = k * 2 := by omega
        by_cases e : y = x
        · subst e
          have I2 := Lib.hid (in_start (by omega) hx hy I.out)
          have EQ' : ∀ u : World, (binOp .eql 27 (.agg (encP y).toArray) (.agg (encP y).toArray)).run Tryz.prog u = .ok (.bool true) u := fun u => by rw [EQ]; simp
          clear EQ hx hy I
          have hkc : ¬ cap = k := by omega
          have hkc2 : (k : Int) ≤ (cap : Int) := by omega
          go_wp2_with fail
          refine wp_region_quiet_lit (by kernel_rfl) (by kernel_rfl) ?_
          repeat (first | (refine wpQuiet_load_mid (rangeAt_drewN2 R1.out) underPid rfl infoPid rfl rfl ?_; simp only [List.set_cons_succ, List.set_cons_zero]) | (refine wpQuiet_load_mid (rangeAt_drewN2 R2.out) underPid rfl infoPid rfl rfl ?_; simp only [List.set_cons_succ, List.set_cons_zero]) | go_big_quiet_step (fail))
          refine wpQuiet_nil ?_
          rintro _ ⟨nq, rfl⟩
          clear hp2 z0 z1
          go_wp2_with fail
          have hk1' : k ≤ n := hk
          clear hkc hkc2 hp hp3 hp4 wr1 R1 R2 EQ'
          have O' : Hid ((w.drewN (q + nq)).ownsRow base 27 2 (.slice (some ⟨g, 0, none⟩) n cap) n (l.flatMap encP)) := O.out
          have B' : Hid (Below base w (w.drewN (q + nq))) := below_drewN (Below.refl _ _) _
          generalize w.drewN (q + nq) = w1 at *
          go_loopw [3, 5] (fun kv iv wr => ∃ (kk j : Nat) (bs : List PidV), 1 ≤ j ∧ k + j ≤ n ∧ kk ≤ k + j - 1 ∧ k ≤ kk ∧ kv = .int .i64 kk ∧ iv = .int .i64 j ∧ bs.length = n ∧ Hid (bs.drop (k + j - 1) = l.drop (k + j - 1)) ∧ Hid (onceK l = bs.take kk ++ (onceK (l.drop (k + j - 1))).tail) ∧ Hid (wr.ownsRow base 27 2 (.slice (some ⟨g, 0, none⟩) n cap) n (bs.flatMap encP)) ∧ Hid (Below base w wr)) (fun _ i _ => n - (intOf i).toNat)
          case atStart => exact ⟨k, 1, l, by omega, by omega, by omega, by omega, rfl, rfl, HL.out, rfl, by rw [Nat.add_sub_cancel]; exact I2.out, O'.out, B'.out⟩
          case round =>
            obtain ⟨kk, j, bs, hj1, hjn, hkk, hkk2, rfl, rfl, hbl, D, J, OO, BB⟩ := hrel
            have hj0 : (0 : Int) ≤ (j : Int) := by omega
            have hkk0 : (0 : Int) ≤ (kk : Int) := by omega
            obtain ⟨u, hu⟩ : ∃ u, bs[k + j - 1]? = some u := ⟨_, List.getElem?_eq_getElem (by omega)⟩
            have hu2 : l[k + j - 1]? = some u := by rw [← hu]; exact (get_of_drop D.out (Nat.le_refl _)).symm
            by_cases hjl : j < n - k
            · obtain ⟨v, hv⟩ : ∃ v, bs[k + j]? = some v := ⟨_, List.getElem?_eq_getElem (by omega)⟩
              have hv2 : l[k + j]? = some v := by rw [← hv]; exact (get_of_drop D.out (by omega)).symm
              have R1 : Hid (wr.rangeAt g (k * 2 + (j - 1) * 2) (encP u)) := by
                have := own_range OO.out encP_len hu (by omega)
                rwa [show (k + j - 1) * 2 = k * 2 + (j - 1) * 2 by omega] at this
              have R2 : Hid (wr.rangeAt g (k * 2 + j * 2) (encP v)) := by
                have := own_range OO.out encP_len hv (by omega)
                rwa [show (k + j) * 2 = k * 2 + j * 2 by omega] at this
              have hlj : (j : Int) < ((n - k : Nat) : Int) := by omega
              have hp2 : ((j : Int) - 1).toNat = j - 1 := by omega
              have hp3 : (0 : Int) ≤ (j : Int) - 1 := by omega
              have hp4 : (j : Int) - 1 < ((n - k : Nat) : Int) := by omega
              have wr1 : IntKind.i64.wrap ((j : Int) - 1) = (j : Int) - 1 := IntWalk.i64_in _ (by omega)
              have NE := fun z => neqP v u z
              have D2 := Lib.hid (drop_of_drop D.out (show k + j - 1 ≤ k + (j + 1) - 1 by omega))
              by_cases e : v = u
              · subst e
                have J2 := Lib.hid (in_same (by omega) hu2 hv2)
                have NE' : ∀ z : World, (binOp .neq 27 (.agg (encP v).toArray) (.agg (encP v).toArray)).run Tryz.prog z = .ok (.bool false) z := fun z => by rw [NE]; simp
                clear NE hu hu2 hv hv2
                go_wp2_with fail
                refine wp_region_quiet_lit (by kernel_rfl) (by kernel_rfl) ?_
                repeat (first | (refine wpQuiet_load_mid (rangeAt_drewN1 R1.out) underPid rfl infoPid rfl rfl ?_; simp only [List.set_cons_succ, List.set_cons_zero]) | (refine wpQuiet_load_mid (rangeAt_drewN1 R2.out) underPid rfl infoPid rfl rfl ?_; simp only [List.set_cons_succ, List.set_cons_zero]) | go_big_quiet_step (fail))
                refine wpQuiet_nil ?_
                rintro _ ⟨nq, rfl⟩
                clear hp2 hp3 hp4 wr1
                go_wp2_with fail
                go_roundw
                case rel => exact ⟨kk, j + 1, bs, by omega, by omega, by omega, by omega, rfl, by go_num, hbl, D2.out, by rw [Hid, J.out, J2.out]; rfl, OO.out, below_drewN BB.out _⟩
                case measure => simp [intOf]; omega
              · have J2 := Lib.hid (in_more (by omega) hu2 hv2 (Ne.symm e))
                have NE' : ∀ z : World, (binOp .neq 27 (.agg (encP v).toArray) (.agg (encP u).toArray)).run Tryz.prog z = .ok (.bool true) z := fun z => by rw [NE, decide_eq_false e]; rfl
                have hkl : (kk : Int) < (n : Int) := by omega
                have E2 : Hid ((bs.set kk v).drop (k + (j + 1) - 1) = l.drop (k + (j + 1) - 1)) := by rw [Hid, List.drop_set_of_lt (by omega)]; exact D2.out
                have T2 := Lib.hid (set_take (l := bs) v (show kk < bs.length by omega))
                have S2 := Lib.hid (set_flat encP_len bs (show kk < bs.length by omega) v)
                clear NE hu hu2 hv hv2 e
                go_wp2_with fail
                refine wp_region_quiet_lit (by kernel_rfl) (by kernel_rfl) ?_
                repeat (first | (refine wpQuiet_load_mid (rangeAt_drewN1 R1.out) underPid rfl infoPid rfl rfl ?_; simp only [List.set_cons_succ, List.set_cons_zero]) | (refine wpQuiet_load_mid (rangeAt_drewN1 R2.out) underPid rfl infoPid rfl rfl ?_; simp only [List.set_cons_succ, List.set_cons_zero]) | go_big_quiet_step (fail))
                refine wpQuiet_nil ?_
                rintro _ ⟨nq, rfl⟩
                have R3 : Hid ((wr.drewN nq).rangeAt g (k * 2 + j * 2) (encP v)) := R2.out
                have O3 : Hid ((wr.drewN nq).ownsRow base 27 2 (.slice (some ⟨g, 0, none⟩) n cap) n (bs.flatMap encP)) := OO.out
                have B3 : Hid (Below base w (wr.drewN nq)) := below_drewN BB.out _
                have H3 : Hid ((wr.drewN nq).there g (kk * 2) (encP v).toArray.size) := own_there OO.out (by show kk * 2 + 2 ≤ n * 2; omega)
                generalize wr.drewN nq = w3 at *
                clear hp2 hp3 hp4 wr1 R1 R2 OO BB
                go_wp2_with (first | (refine wpList_load_mid rfl 27 _ rfl _ _ (by rfl) _ _ R3.out underPid rfl infoPid ?_) | (refine wpList_store_mid rfl 27 _ _ rfl g (kk * 2) (encP v).toArray (by rfl) (by rfl) H3.out infoPid (all_oneCell_toArray (encP_one v)) ?_))
                obtain ⟨o1, o2⟩ := own_setCells (encP v) (kk * 2) w3 _ O3.out (by show kk * 2 + 2 ≤ n * 2; omega)
                have O4 : Hid ((w3.setCells g (kk * 2) (encP v)).ownsRow base 27 2 (.slice (some ⟨g, 0, none⟩) n cap) n ((bs.set kk v).flatMap encP)) := by rw [Hid, ← S2.out]; exact o1
                have B4 := Lib.hid (B3.out.trans o2)
                clear o1 o2
                go_roundw
                case rel => exact ⟨kk + 1, j + 1, bs.set kk v, by omega, by omega, by omega, by omega, by go_num, by go_num, by rw [List.length_set]; exact hbl, E2.out, by rw [Hid, J.out, J2.out, T2.out, List.append_assoc]; rfl, O4.out, B4.out⟩
                case measure => simp [intOf]; omega
            · have N : Hid (onceK l = bs.take kk) := by rw [Hid, J.out, in_end (by rw [HL.out]; omega) hu2, List.append_nil]
              have NL : Hid ((onceK l).length = kk) := by rw [Hid, N.out, List.length_take]; omega
              have Z := run_clear_rows (P := Tryz.prog) (size := 2) wr 28 27
              have HC := fun ty => (run_clear_rows (P := Tryz.prog) (size := 2) wr 28 27 ty _ Tryz.underlying28 zeroP rfl (by omega) (by intro v hv; simp [Value.cells] at hv; rcases hv with rfl | rfl <;> rfl) g (kk * 2) (n - kk) (cap - kk) (by omega) (own_there OO.out (by omega))).1
              have HLn := (run_clear_rows (P := Tryz.prog) (size := 2) wr 28 27 0 _ Tryz.underlying28 zeroP rfl (by omega) (by intro v hv; simp [Value.cells] at hv; rcases hv with rfl | rfl <;> rfl) g (kk * 2) (n - kk) (cap - kk) (by omega) (own_there OO.out (by omega))).2
              clear Z hu hu2 D J
              obtain ⟨o1, o2⟩ := own_setCells _ (kk * 2) wr _ OO.out (by rw [HLn]; omega)
              have O4 := Lib.hid (own_cut o1 (show kk ≤ n by omega))
              have B4 := Lib.hid (BB.out.trans o2)
              have hkc : ¬ cap = kk := by omega
              have hkc2 : (kk : Int) ≤ (cap : Int) := by omega
              have hkl : (kk : Int) ≤ (n : Int) := by omega
              clear o1 o2 HLn
              generalize (Builtin.zeroCells (Value.agg #[.int .u8 0, .int .u16 0]).cells (n - kk)).toList = zs at *
              go_wp2
              go_ret
              have e1 : List.take (kk * 2) (List.take (kk * 2) (bs.flatMap encP) ++ zs ++ List.drop (kk * 2 + zs.length) (bs.flatMap encP)) = (onceK l).flatMap encP := by
                rw [List.append_assoc, N.out, ← cut_flat encP_len bs (by omega), List.take_append_of_le_length (by rw [List.length_take, flatMap_len encP bs (fun x _ => encP_len x)]; omega), List.take_take, Nat.min_self]
              have O5 := O4.out
              rw [e1] at O5
              rw [NL.out]
              exact ⟨rfl, O5, B4.out⟩
        · have EQ' : ∀ u : World, (binOp .eql 27 (.agg (encP y).toArray) (.agg (encP x).toArray)).run Tryz.prog u = .ok (.bool false) u := fun u => by rw [EQ, decide_eq_false e]
          have N := Lib.hid (out_step (by omega) hx hy (Ne.symm e) I.out)
          clear EQ hx hy I e
          go_wp2_with fail
          refine wp_region_quiet_lit (by kernel_rfl) (by kernel_rfl) ?_
          repeat (first | (refine wpQuiet_load_mid (rangeAt_drewN2 R1.out) underPid rfl infoPid rfl rfl ?_; simp only [List.set_cons_succ, List.set_cons_zero]) | (refine wpQuiet_load_mid (rangeAt_drewN2 R2.out) underPid rfl infoPid rfl rfl ?_; simp only [List.set_cons_succ, List.set_cons_zero]) | go_big_quiet_step (fail))
          refine wpQuiet_nil ?_
          rintro _ ⟨nq, rfl⟩
          clear hp2 z0 z1
          go_wp2_with fail
          go_roundw
          case rel => exact ⟨k + 1, by omega, by omega, by go_num, by rw [Hid, Nat.add_sub_cancel]; exact N.out, _, rfl⟩
          case measure => simp [intOf]; omega
      · have hkn : k = n := by omega
        subst hkn
        have N := Lib.hid (out_end HL.out.symm hx I.out)
        clear hx I
        go_wp2
        go_ret
        rw [N.out, HL.out]
        exact ⟨rfl, O.out, below_drewN (Below.refl _ _) _⟩
set_option maxRecDepth 100000 in
theorem compactNilP (w : World) : Calls Tryz.prog 305 #[.slice none 0 0] w (Ret w (.slice none 0 0)) := by
  go_enter Tryz.func305, Tryz.ntmps305
  go_wp2
  go_ret
  exact ⟨rfl, rfl⟩
end Go.Proofs.YtihggkmjalofiaaGreatDoor

/- pid.Set: names of patches, each once, rising. -/
namespace Go.Proofs.YtihggkmjalofiaaGreatDoor
open Go.RowKit

set_option maxRecDepth 100000 in
set_option maxHeartbeats 1000000 in
theorem setP (l : List PidV) (w : World) (A : Option Addr) (n c : Nat) (hm : n ≤ 100000) (h : PidsAt w A n l) :
    Calls Tryz.prog 248 #[.slice A n c] w (OwnedRet w 27 2 (setK keyP l).length ((setK keyP l).flatMap encP)) := by
  have HC := Lib.hid (cloneP l w A n c hm h)
  have HL := Lib.hid h.len
  clear h
  go_enter Tryz.func248, Tryz.ntmps248
  go_wp2_with fail
  refine HC.out.mono ?_
  rintro e w1 ⟨v, rfl, o1, b1⟩
  have O1 := Lib.hid o1
  have B1 := Lib.hid b1
  clear o1 b1 HC
  have HS := Lib.hid (sortP l w1 w.heap.size n v HL.out hm O1.out)
  rcases O1.out.2 with ⟨rfl, h0⟩ | ⟨g, cap, cur, rfl, hg, hh, hnc, hrest⟩
  · subst h0
    have hl := List.length_eq_zero_iff.1 HL.out
    subst hl
    go_wp2_with fail
    refine HS.out.mono ?_
    rintro e w2 ⟨rfl, b2, _⟩
    have B2 := Lib.hid (B1.out.trans b2)
    clear b2 HS
    have HN := Lib.hid (compactNilP w2)
    go_wp2_with fail
    refine HN.out.mono ?_
    rintro e w3 ⟨rfl, rfl⟩
    go_wp2
    go_ret
    exact ⟨_, rfl, World.ownsRow_nil _ _ _ _, B2.out⟩
  · clear hh hrest hg hnc O1
    go_wp2_with fail
    refine HS.out.mono ?_
    rintro e w2 ⟨rfl, b2, d, hp, hs, o2⟩
    have B2 := Lib.hid (B1.out.trans b2)
    have E := Lib.hid (onceK_set keyP_inj hp.symm hs)
    have HD := Lib.hid (compactP d w2 w.heap.size n g cap (by rw [hp.length_eq]; exact HL.out) hm o2)
    rw [E.out] at HD
    clear b2 hp hs o2 HS
    go_wp2_with fail
    refine HD.out.mono ?_
    rintro e w3 ⟨rfl, o3, b3⟩
    have O3 := Lib.hid o3
    have B3 := Lib.hid (B2.out.trans b3)
    clear o3 b3
    go_wp2
    go_ret
    exact ⟨_, rfl, O3.out, B3.out⟩
end Go.Proofs.YtihggkmjalofiaaGreatDoor
