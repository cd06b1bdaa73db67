/- Texts of general use, one behind another. -/
import Derived.Test.YtihggkmjalofiaaGreatDoorGen

/- Which names of patches and of vertices may be. -/
namespace Go.Proofs.YtihggkmjalofiaaGreatDoor
open Go.RowKit

def pidOk (a s : Int) : Bool := decide (1 ≤ a) && decide (a ≤ 64) && decide (1 ≤ s) && decide (s ≤ 60000)
abbrev pidC (a s : Int) : Value := .agg #[.int .u8 a, .int .u16 s]
theorem below_box (w : World) (o : Obj) : Below w.heap.size w (w.alloc o) := (Below.refl _ _).alloc (Nat.le_refl _) _
theorem pidOk1 {a s : Int} (h : ¬ 1 ≤ a) : pidOk a s = false := by simp [pidOk, h]
theorem pidOk2 {a s : Int} (h : ¬ a ≤ 64) : pidOk a s = false := by simp [pidOk, h]
theorem pidOk3 {a s : Int} (h : ¬ 1 ≤ s) : pidOk a s = false := by simp [pidOk, h]
theorem pidOk4 {a s : Int} (h : ¬ s ≤ 60000) : pidOk a s = false := by simp [pidOk, h]
theorem pidOk5 {a s : Int} (h1 : 1 ≤ a) (h2 : a ≤ 64) (h3 : 1 ≤ s) (h4 : s ≤ 60000) : pidOk a s = true := by simp [pidOk, h1, h2, h3, h4]

set_option maxHeartbeats 400000 in
theorem pgood_any (a s : Int) (w : World) (ha : 0 ≤ a ∧ a < 256) (hs : 0 ≤ s ∧ s < 65536) : Calls Tryz.prog 181 #[pidC a s] w (RetB w (.bool (pidOk a s))) := by
  obtain ⟨ha0, ha1⟩ := ha
  obtain ⟨hs0, hs1⟩ := hs
  by_cases c0 : 1 ≤ a
  · have d0 : decide (1 ≤ a) = true := decide_eq_true c0
    by_cases c1 : a ≤ 64
    · have d1 : decide (a ≤ 64) = true := decide_eq_true c1
      by_cases c2 : 1 ≤ s
      · have d2 : decide (1 ≤ s) = true := decide_eq_true c2
        by_cases c3 : s ≤ 60000
        · have d3 : decide (s ≤ 60000) = true := decide_eq_true c3
          have F := Lib.hid (pidOk5 c0 c1 c2 c3)
          go_enter Tryz.func181, Tryz.ntmps181
          go_wp2
          go_ret
          exact ⟨ret_bool F.out.symm, below_box _ _⟩
        · have d3 : decide (s ≤ 60000) = false := decide_eq_false c3
          have F := Lib.hid (pidOk4 (a := a) (s := s) c3)
          go_enter Tryz.func181, Tryz.ntmps181
          go_wp2
          go_ret
          exact ⟨ret_bool F.out.symm, below_box _ _⟩
      · have d2 : decide (1 ≤ s) = false := decide_eq_false c2
        have F := Lib.hid (pidOk3 (a := a) (s := s) c2)
        go_enter Tryz.func181, Tryz.ntmps181
        go_wp2
        go_ret
        exact ⟨ret_bool F.out.symm, below_box _ _⟩
    · have d1 : decide (a ≤ 64) = false := decide_eq_false c1
      have F := Lib.hid (pidOk2 (a := a) (s := s) c1)
      go_enter Tryz.func181, Tryz.ntmps181
      go_wp2
      go_ret
      exact ⟨ret_bool F.out.symm, below_box _ _⟩
  · have d0 : decide (1 ≤ a) = false := decide_eq_false c0
    have F := Lib.hid (pidOk1 (a := a) (s := s) c0)
    go_enter Tryz.func181, Tryz.ntmps181
    go_wp2
    go_ret
    exact ⟨ret_bool F.out.symm, below_box _ _⟩

end Go.Proofs.YtihggkmjalofiaaGreatDoor

/- Which names of vertices may be. -/
namespace Go.Proofs.YtihggkmjalofiaaGreatDoor
open Go.RowKit

def vidOk (a s n : Int) : Bool := pidOk a s && decide (n < 200)
abbrev vidC (a s n : Int) : Value := .agg #[.int .u8 a, .int .u16 s, .int .u8 n]

set_option maxHeartbeats 400000 in
theorem vgood_any (a s n : Int) (w : World) (ha : 0 ≤ a ∧ a < 256) (hs : 0 ≤ s ∧ s < 65536) (hn : 0 ≤ n ∧ n < 256) : Calls Tryz.prog 258 #[vidC a s n] w (RetB w (.bool (vidOk a s n))) := by
  have HC := Lib.hid (fun w => pgood_any a s w ha hs)
  have HD : Hid (vidOk a s n = (pidOk a s && decide (n < 200))) := rfl
  obtain ⟨hn0, hn1⟩ := hn
  generalize pidOk a s = r at *
  cases r
  · have F : Hid (vidOk a s n = false) := HD.out
    clear HD
    go_enter Tryz.func258, Tryz.ntmps258
    go_wp2_with fail
    refine (HC.out _).mono ?_
    rintro e w1 ⟨rfl, hb⟩
    go_wp2_with fail
    go_ret
    exact ⟨ret_bool F.out.symm, ext_trans (below_box _ _) hb⟩
  · by_cases c : n < 200
    · have F : Hid (vidOk a s n = true) := by rw [Hid, HD.out, decide_eq_true c]; rfl
      have d : decide (n < 200) = true := decide_eq_true c
      clear HD
      go_enter Tryz.func258, Tryz.ntmps258
      go_wp2_with fail
      refine (HC.out _).mono ?_
      rintro e w1 ⟨rfl, hb⟩
      have hk := hb.cell (p := ⟨w.heap.size, 2, none⟩) (by simp)
      go_wp2_with fail
      go_ret
      exact ⟨ret_bool F.out.symm, ext_trans (below_box _ _) hb⟩
    · have F : Hid (vidOk a s n = false) := by rw [Hid, HD.out, decide_eq_false c]; rfl
      have d : decide (n < 200) = false := decide_eq_false c
      clear HD
      go_enter Tryz.func258, Tryz.ntmps258
      go_wp2_with fail
      refine (HC.out _).mono ?_
      rintro e w1 ⟨rfl, hb⟩
      have hk := hb.cell (p := ⟨w.heap.size, 2, none⟩) (by simp)
      go_wp2_with fail
      go_ret
      exact ⟨ret_bool F.out.symm, ext_trans (below_box _ _) hb⟩

end Go.Proofs.YtihggkmjalofiaaGreatDoor

/- What an operation names. -/
namespace Go.Proofs.YtihggkmjalofiaaGreatDoor
open Go.RowKit

/-- a vertex: its patch's author and number, and its place -/
structure VidO where
  a : Int
  s : Int
  n : Int
def VidO.ok (v : VidO) : Prop := (0 ≤ v.a ∧ v.a < 256) ∧ (0 ≤ v.s ∧ v.s < 65536) ∧ (0 ≤ v.n ∧ v.n < 256)
abbrev VidO.cs (v : VidO) : List Value := [.int .u8 v.a, .int .u16 v.s, .int .u8 v.n]
abbrev opC (k : Int) (x y : VidO) (t : ByteArray) : Value :=
  .agg #[.int .u8 k, .int .u8 x.a, .int .u16 x.s, .int .u8 x.n, .int .u8 y.a, .int .u16 y.s, .int .u8 y.n, .string t]
def makesB (k : Int) : Bool := decide (1 ≤ k) && decide (k ≤ 3)
def refsV (k : Int) (x y : VidO) : List VidO := if k = 2 ∨ k = 3 ∨ k = 5 then [x] else if k = 4 then [x, y] else []

theorem makesB_t {k : Int} (h : 1 ≤ k ∧ k ≤ 3) : makesB k = true := by simp [makesB, h]
theorem makesB_f {k : Int} (h : ¬ (1 ≤ k ∧ k ≤ 3)) : makesB k = false := by simp [makesB]; omega

set_option maxHeartbeats 400000 in
theorem makes_any (k : Int) (w : World) (hk : 0 ≤ k ∧ k < 256) : Calls Tryz.prog 67 #[.int .u8 k] w (Ret w (.bool (makesB k))) := by
  obtain ⟨hk0, hk1⟩ := hk
  by_cases c1 : 1 ≤ k
  · by_cases c2 : k ≤ 3
    · have F := Lib.hid (makesB_t ⟨c1, c2⟩)
      go_enter Tryz.func67, Tryz.ntmps67
      go_wp2
      go_ret
      exact ⟨ret_bool F.out.symm, rfl⟩
    · have F := Lib.hid (makesB_f (k := k) (by omega))
      have d : decide (k ≤ 3) = false := decide_eq_false c2
      go_enter Tryz.func67, Tryz.ntmps67
      go_wp2
      go_ret
      exact ⟨ret_bool F.out.symm, rfl⟩
  · have F := Lib.hid (makesB_f (k := k) (by omega))
    have d : decide (1 ≤ k) = false := decide_eq_false c1
    go_enter Tryz.func67, Tryz.ntmps67
    go_wp2
    go_ret
    exact ⟨ret_bool F.out.symm, rfl⟩

/-- a slice that a composite literal has just made -/
theorem sl_fresh (w0 w : World) (e : TypeId) (size n : Nat) (xs : List Value) (hl : xs.length = n * size) (hw : w = w0.alloc (.cells xs.toArray e)) : Sl w w.heap.size size (some ⟨w0.heap.size, 0, none⟩) n xs := by
  subst hw
  refine ⟨hl, fun _ => ⟨w0.heap.size, 0, rfl, by simp, fun j hj => ?_⟩⟩
  rw [(Blk.new w0 e xs.toArray).cell (0 + j), Nat.zero_add]; simp

theorem retSl_fresh {w w0 : World} {e : TypeId} {size n b : Nat} {xs : List Value} (hl : xs.length = n * size) (hb : Below w.heap.size w w0) (hs : w0.heap.size = b) :
    RetSl w size n xs (.returned (.slice (some ⟨b, 0, none⟩) n n)) (w0.alloc (.cells xs.toArray e)) := by
  subst hs
  exact ⟨_, _, rfl, Nat.le_refl _, sl_fresh w0 _ e size n xs hl rfl, hb.alloc hb.size _⟩
theorem retSl_nil {w w0 : World} {size : Nat} (hb : Below w.heap.size w w0) : RetSl w size 0 [] (.returned (.slice none 0 0)) w0 :=
  ⟨_, _, rfl, Nat.le_refl _, by simp [Sl], hb⟩
theorem refsV_none {k : Int} (x y : VidO) (h : ¬ (2 ≤ k ∧ k ≤ 5)) : refsV k x y = [] := by
  unfold refsV; rw [if_neg (by omega), if_neg (by omega)]

set_option maxHeartbeats 400000 in
theorem refs_any (k : Int) (x y : VidO) (t : ByteArray) (w : World) (hk : 0 ≤ k ∧ k < 256) : Calls Tryz.prog 157 #[opC k x y t] w (RetSl w 3 (refsV k x y).length ((refsV k x y).flatMap VidO.cs)) := by
  obtain ⟨hk0, hk1⟩ := hk
  by_cases c2 : k = 2
  · subst c2
    go_enter Tryz.func157, Tryz.ntmps157
    go_wp2
    go_ret
    exact retSl_fresh rfl (below_box _ _) (by simp)
  by_cases c3 : k = 3
  · subst c3
    go_enter Tryz.func157, Tryz.ntmps157
    go_wp2
    go_ret
    exact retSl_fresh rfl (below_box _ _) (by simp)
  by_cases c5 : k = 5
  · subst c5
    go_enter Tryz.func157, Tryz.ntmps157
    go_wp2
    go_ret
    exact retSl_fresh rfl (below_box _ _) (by simp)
  by_cases c4 : k = 4
  · subst c4
    go_enter Tryz.func157, Tryz.ntmps157
    go_wp2
    go_ret
    exact retSl_fresh rfl (below_box _ _) (by simp)
  rw [refsV_none x y (k := k) (by omega)]
  have d2 : (k == 2) = false := by simpa using c2
  have d3 : (k == 3) = false := by simpa using c3
  have d4 : (k == 4) = false := by simpa using c4
  have d5 : (k == 5) = false := by simpa using c5
  clear c2 c3 c4 c5
  go_enter Tryz.func157, Tryz.ntmps157
  go_wp2
  go_ret
  exact retSl_nil (below_box _ _)

/-- the rows of vertices that a slice reads -/
theorem at_vid {w : World} {B : Nat} {A : Option Addr} {l : List VidO} (h : Sl w B 3 A l.length (l.flatMap VidO.cs)) {k : Nat} (hk : k < l.length) :
    ∃ b o, A = some ⟨b, o, none⟩ ∧ b < B ∧ w.cell? ⟨b, o + k * 3, none⟩ = some (.int .u8 l[k].a) ∧ w.cell? ⟨b, o + k * 3 + 1, none⟩ = some (.int .u16 l[k].s) ∧ w.cell? ⟨b, o + k * 3 + 2, none⟩ = some (.int .u8 l[k].n) := by
  obtain ⟨b, o, e, hb, hc⟩ := h.2 (by omega)
  have hg : ∀ j, j < 3 → (l.flatMap VidO.cs)[k * 3 + j]? = l[k].cs[j]? := fun j hj => by
    have := flatten_get (c := 3) (l.map VidO.cs) (by simp) k j hj
    rw [← List.flatMap_def] at this
    rw [this]; simp [hk]
  refine ⟨b, o, e, hb, ?_, ?_, ?_⟩
  · have := hc (k * 3 + 0) (by omega); rw [hg 0 (by omega)] at this; exact this
  · have := hc (k * 3 + 1) (by omega); rw [hg 1 (by omega)] at this; rw [Nat.add_assoc]; exact this
  · have := hc (k * 3 + 2) (by omega); rw [hg 2 (by omega)] at this; rw [Nat.add_assoc]; exact this

theorem u8_of {z : Int} (h : (Lit.int .u8 z).wf = true) : 0 ≤ z ∧ z < 256 := by simp [Lit.wf, IntKind.min, IntKind.max, IntKind.signed, IntKind.bits] at h; omega
theorem u16_of {z : Int} (h : (Lit.int .u16 z).wf = true) : 0 ≤ z ∧ z < 65536 := by simp [Lit.wf, IntKind.min, IntKind.max, IntKind.signed, IntKind.bits] at h; omega
end Go.Proofs.YtihggkmjalofiaaGreatDoor
